/- Part of a claim: the document reads digits. -/
import Derived.Test.YtaaecodkdgkjoaaDoorPT10
set_option linter.unusedSimpArgs false
set_option linter.unusedVariables false
set_option maxRecDepth 100000
set_option maxHeartbeats 10000000
namespace Go.Proofs.YtaaecodkdgkjoaaDoor.B
open Go Go.RowKit Go.Proofs.YtaaecodkdgkjoaaDoor.E

theorem i64_def (x : Int) : IntKind.i64.wrap x = if true && decide (x % 18446744073709551616 ≥ 9223372036854775808) then x % 18446744073709551616 - 18446744073709551616 else x % 18446744073709551616 := rfl
theorem wrap_add (x y : Int) : IntKind.i64.wrap (IntKind.i64.wrap x + y) = IntKind.i64.wrap (x + y) := by
  rw [i64_def, i64_def (x + y), i64_def x]
  by_cases h : x % 18446744073709551616 ≥ 9223372036854775808
  · rw [decide_eq_true h]
    simp only [Bool.and_self, if_true]
    rw [show (x % 18446744073709551616 - 18446744073709551616 + y) % 18446744073709551616 = (x + y) % 18446744073709551616 by omega]
  · rw [decide_eq_false h]
    simp only [Bool.and_false, Bool.false_eq_true, if_false]
    rw [show (x % 18446744073709551616 + y) % 18446744073709551616 = (x + y) % 18446744073709551616 by omega]
theorem wrap_neg {x : Int} (h1 : 9223372036854775808 ≤ x) (h2 : x < 18446744073709551616) : IntKind.i64.wrap x < 0 := by
  rw [i64_def, decide_eq_true (show x % 18446744073709551616 ≥ 9223372036854775808 by omega)]
  simp only [Bool.and_self, if_true]
  omega

def okN (ds : List UInt8) : Prop := 1 ≤ ds.length ∧ ds.length ≤ 19 ∧ valF ds < 9223372036854775808
instance (ds : List UInt8) : Decidable (okN ds) := by unfold okN; infer_instance
def rNumA (ds : List UInt8) (i : Nat) : AV := if okN ds then .tup [.int .i64 (valF ds : Nat), .int .i64 ((i + ds.length : Nat) : Int)] else .tup [.int .i64 0, .int .i64 (-1)]
theorem rNumA_flat (ds : List UInt8) (i : Nat) : flat (rNumA ds i) = true := by unfold rNumA; split <;> rfl

theorem tw_app {done rest : List UInt8} (h : ∀ c ∈ done, isD c = true) : (done ++ rest).takeWhile isD = done ++ rest.takeWhile isD := List.takeWhile_append_of_pos h
theorem tw_stop {done rest : List UInt8} {c : UInt8} (h : ∀ c ∈ done, isD c = true) (hc : isD c = false) : (done ++ c :: rest).takeWhile isD = done := by
  rw [tw_app h, List.takeWhile_cons, if_neg (by rw [hc]; decide), List.append_nil]
theorem tw_all {done : List UInt8} (h : ∀ c ∈ done, isD c = true) : done.takeWhile isD = done := by
  have := tw_app (rest := []) h
  rw [List.append_nil, List.takeWhile_nil, List.append_nil] at this
  exact this

theorem rNumber (M : Addr → Option AV) (H : Heap) {s : List UInt8} {i : Nat} (hi : i ≤ s.length) (hl : s.length ≤ 100000000) : SemF Tryd.prog M 44 [.str s, .int .i64 (i : Int)] H fun v h => v = rNumA ((s.drop i).takeWhile isD) i ∧ h = H := by
  refine fpure rfl (rNumA_flat _ _) ?_ H
  refine fw Tryd.func44 (by kernel_rfl) rfl (by kernel_rfl) fun C L T hT hS => ?_
  simp only [gX,gT,gM,gL,gB,wantedA,evOp,opv,absC,absC0,isAggT,resA,resultA,binA,eqA,eqGuardA,isConstA,isFlatScalar,shiftOp,strOp,ordB,readN,sliceCells,lenA,storeA,newA,buildA,fillA,buildSliceA,boundsA,bndA,sliceA,ptrOK,fieldAddrA,fieldA,indexA,extractA,convA,isIntT,biA,bytesOf,setAll,List.replicate,Nat.reduceAdd,Nat.reduceSub,Nat.reduceMul,Nat.reduceLT,Nat.reduceLeDiff,Nat.reduceEqDiff,Int.reduceEq,Int.reduceLT,Int.reduceLE,Int.reduceNe,Int.reduceAdd,Nat.reduceBEq,reduceCtorEq,lenB_nil,lenB_slice,lenB_oslice,lenB_str,lenB_agg,indexAddrA_slice,indexAddrA_oslice,indexAddrA_ptr,indexAddrA_optr,loadA_ptr,loadA_optr,lenK,indexK,loadK,Int.reduceBEq,Int.reduceBNe,Int.reduceMod,Int.reduceDiv,Int.reduceTDiv,Int.reduceTMod,Int.reduceFDiv,Int.reduceSub,Int.reduceNeg,Int.reduceGT,Int.reduceGE,BitVec.reduceOfInt,BitVec.reduceAnd,BitVec.reduceOr,BitVec.reduceXOr,BitVec.reduceToNat,Int.reduceToNat,Int.reducePow,Int.reduceMul,hT.all,Tryd.f44]
  refine hS.loop (fun m e h => ∃ (x2 x3 : AV) (done rest : List UInt8) (v : Int) (p : Nat) (j : List AV), e = .str s :: .int .i64 (i : Int) :: x2 :: x3 :: .int .i64 0 :: .int .i64 0 :: .int .i64 v :: .int .i64 (p : Int) :: j ∧ j.length = 40 ∧ s.drop i = done ++ rest ∧ (∀ c ∈ done, isD c = true) ∧ done.length ≤ 19 ∧ v = IntKind.i64.wrap (valF done : Nat) ∧ p = i + done.length ∧ rest.length = m ∧ h = []) (s.drop i).length ⟨_, _, [], s.drop i, 0, i, _, rfl, rfl, rfl, by simp, by simp, rfl, rfl, rfl, rfl⟩ ?_
  rintro m e h ⟨x2, x3, done, rest, v, p, j, rfl, hj, hdr, hdone, hdl, hv, hp, hrm, rfl⟩ J hJ
  have hsl : s.length = p + rest.length := by
    have := congrArg List.length hdr
    rw [List.length_drop, List.length_append] at this; omega
  have hvl := valF_lt _ done rfl hdone
  have h19 : (10 : Nat) ^ done.length ≤ 10 ^ 19 := Nat.pow_le_pow_right (by omega) hdl
  have q19 : (10 : Nat) ^ 19 = 10000000000000000000 := by decide
  -- where the digits end
  have fin : rest.takeWhile isD = [] → ((s.drop i).takeWhile isD = done) := fun h => by rw [hdr, tw_app hdone, h, List.append_nil]
  have ends : rest.takeWhile isD = [] → rNumA ((s.drop i).takeWhile isD) i = (if done = [] then .tup [.int .i64 0, .int .i64 (-1)] else if v < 0 then .tup [.int .i64 0, .int .i64 (-1)] else .tup [.int .i64 v, .int .i64 (p : Int)]) := fun h => by
    rw [fin h]
    unfold rNumA
    by_cases c : done = []
    · rw [if_pos c, if_neg (show ¬ okN done by unfold okN; rw [c]; simp)]
    · rw [if_neg c]
      have hl1 : 1 ≤ done.length := List.length_pos_iff.2 c
      by_cases c2 : valF done < 9223372036854775808
      · have hv2 : v = (valF done : Nat) := by rw [hv, wrap_i64 (by omega) (by omega)]
        rw [if_pos (show okN done from ⟨hl1, hdl, c2⟩), if_neg (by omega), hv2, hp]
      · have hv2 : v < 0 := by rw [hv]; exact wrap_neg (by omega) (by omega)
        rw [if_neg (show ¬ okN done from fun h => c2 h.2.2), if_pos hv2]
  have bi : ((p : Int) == (i : Int)) = decide (done = []) := by
    by_cases c : done = []
    · rw [decide_eq_true c, beq_iff_eq]; rw [c] at hp; simp at hp; omega
    · rw [decide_eq_false c, beq_eq_false_iff_ne]
      have hl1 : 1 ≤ done.length := List.length_pos_iff.2 c
      omega
  have stop : rest.takeWhile isD = [] → ∀ bd bv : Bool, ((p : Int) == (i : Int)) = bd → decide (v < 0) = bv → rNumA ((s.drop i).takeWhile isD) i = (if bd then .tup [.int .i64 0, .int .i64 (-1)] else if bv then .tup [.int .i64 0, .int .i64 (-1)] else .tup [.int .i64 v, .int .i64 (p : Int)]) := by
    intro h bd bv h1 h2
    rw [ends h, ← h1, ← h2, bi]
    simp
  cases rest with
  | nil =>
    have g1 : decide ((p : Int) < (s.length : Int)) = false := decide_eq_false (by rw [List.length_nil] at hsl; omega)
    have stop := stop rfl
    clear hJ fin ends
    generalize hbd : ((p : Int) == (i : Int)) = bd at stop
    generalize hbv : decide (v < 0) = bv at stop
    have stop := stop bd bv rfl rfl
    rw [stop]
    cases bd
    · cases bv
      · obtain ⟨g, rfl⟩ : ∃ g : Nat → AV, j = [g 0, g 1, g 2, g 3, g 4, g 5, g 6, g 7, g 8, g 9, g 10, g 11, g 12, g 13, g 14, g 15, g 16, g 17, g 18, g 19, g 20, g 21, g 22, g 23, g 24, g 25, g 26, g 27, g 28, g 29, g 30, g 31, g 32, g 33, g 34, g 35, g 36, g 37, g 38, g 39] := junk 40 j hj
        simp only [gX,gT,gM,gL,gB,wantedA,evOp,opv,absC,absC0,isAggT,resA,resultA,binA,eqA,eqGuardA,isConstA,isFlatScalar,shiftOp,strOp,ordB,readN,sliceCells,lenA,storeA,newA,buildA,fillA,buildSliceA,boundsA,bndA,sliceA,ptrOK,fieldAddrA,fieldA,indexA,extractA,convA,isIntT,biA,bytesOf,setAll,List.replicate,Nat.reduceAdd,Nat.reduceSub,Nat.reduceMul,Nat.reduceLT,Nat.reduceLeDiff,Nat.reduceEqDiff,Int.reduceEq,Int.reduceLT,Int.reduceLE,Int.reduceNe,Int.reduceAdd,Nat.reduceBEq,reduceCtorEq,lenB_nil,lenB_slice,lenB_oslice,lenB_str,lenB_agg,indexAddrA_slice,indexAddrA_oslice,indexAddrA_ptr,indexAddrA_optr,loadA_ptr,loadA_optr,lenK,indexK,loadK,Int.reduceBEq,Int.reduceBNe,Int.reduceMod,Int.reduceDiv,Int.reduceTDiv,Int.reduceTMod,Int.reduceFDiv,Int.reduceSub,Int.reduceNeg,Int.reduceGT,Int.reduceGE,BitVec.reduceOfInt,BitVec.reduceAnd,BitVec.reduceOr,BitVec.reduceXOr,BitVec.reduceToNat,Int.reduceToNat,Int.reducePow,Int.reduceMul,hT.all,g1,hbd,hbv]
        try rfl
      · obtain ⟨g, rfl⟩ : ∃ g : Nat → AV, j = [g 0, g 1, g 2, g 3, g 4, g 5, g 6, g 7, g 8, g 9, g 10, g 11, g 12, g 13, g 14, g 15, g 16, g 17, g 18, g 19, g 20, g 21, g 22, g 23, g 24, g 25, g 26, g 27, g 28, g 29, g 30, g 31, g 32, g 33, g 34, g 35, g 36, g 37, g 38, g 39] := junk 40 j hj
        simp only [gX,gT,gM,gL,gB,wantedA,evOp,opv,absC,absC0,isAggT,resA,resultA,binA,eqA,eqGuardA,isConstA,isFlatScalar,shiftOp,strOp,ordB,readN,sliceCells,lenA,storeA,newA,buildA,fillA,buildSliceA,boundsA,bndA,sliceA,ptrOK,fieldAddrA,fieldA,indexA,extractA,convA,isIntT,biA,bytesOf,setAll,List.replicate,Nat.reduceAdd,Nat.reduceSub,Nat.reduceMul,Nat.reduceLT,Nat.reduceLeDiff,Nat.reduceEqDiff,Int.reduceEq,Int.reduceLT,Int.reduceLE,Int.reduceNe,Int.reduceAdd,Nat.reduceBEq,reduceCtorEq,lenB_nil,lenB_slice,lenB_oslice,lenB_str,lenB_agg,indexAddrA_slice,indexAddrA_oslice,indexAddrA_ptr,indexAddrA_optr,loadA_ptr,loadA_optr,lenK,indexK,loadK,Int.reduceBEq,Int.reduceBNe,Int.reduceMod,Int.reduceDiv,Int.reduceTDiv,Int.reduceTMod,Int.reduceFDiv,Int.reduceSub,Int.reduceNeg,Int.reduceGT,Int.reduceGE,BitVec.reduceOfInt,BitVec.reduceAnd,BitVec.reduceOr,BitVec.reduceXOr,BitVec.reduceToNat,Int.reduceToNat,Int.reducePow,Int.reduceMul,hT.all,g1,hbd,hbv]
        try rfl
    · obtain ⟨g, rfl⟩ : ∃ g : Nat → AV, j = [g 0, g 1, g 2, g 3, g 4, g 5, g 6, g 7, g 8, g 9, g 10, g 11, g 12, g 13, g 14, g 15, g 16, g 17, g 18, g 19, g 20, g 21, g 22, g 23, g 24, g 25, g 26, g 27, g 28, g 29, g 30, g 31, g 32, g 33, g 34, g 35, g 36, g 37, g 38, g 39] := junk 40 j hj
      simp only [gX,gT,gM,gL,gB,wantedA,evOp,opv,absC,absC0,isAggT,resA,resultA,binA,eqA,eqGuardA,isConstA,isFlatScalar,shiftOp,strOp,ordB,readN,sliceCells,lenA,storeA,newA,buildA,fillA,buildSliceA,boundsA,bndA,sliceA,ptrOK,fieldAddrA,fieldA,indexA,extractA,convA,isIntT,biA,bytesOf,setAll,List.replicate,Nat.reduceAdd,Nat.reduceSub,Nat.reduceMul,Nat.reduceLT,Nat.reduceLeDiff,Nat.reduceEqDiff,Int.reduceEq,Int.reduceLT,Int.reduceLE,Int.reduceNe,Int.reduceAdd,Nat.reduceBEq,reduceCtorEq,lenB_nil,lenB_slice,lenB_oslice,lenB_str,lenB_agg,indexAddrA_slice,indexAddrA_oslice,indexAddrA_ptr,indexAddrA_optr,loadA_ptr,loadA_optr,lenK,indexK,loadK,Int.reduceBEq,Int.reduceBNe,Int.reduceMod,Int.reduceDiv,Int.reduceTDiv,Int.reduceTMod,Int.reduceFDiv,Int.reduceSub,Int.reduceNeg,Int.reduceGT,Int.reduceGE,BitVec.reduceOfInt,BitVec.reduceAnd,BitVec.reduceOr,BitVec.reduceXOr,BitVec.reduceToNat,Int.reduceToNat,Int.reducePow,Int.reduceMul,hT.all,g1,hbd]
      try rfl
  | cons c rest =>
    have g1 : decide ((p : Int) < (s.length : Int)) = true := decide_eq_true (by rw [List.length_cons] at hsl; omega)
    have hat : s[p]? = some c := by
      have e1 : (s.drop i)[done.length]? = some c := by rw [hdr, List.getElem?_append_right (Nat.le_refl _), Nat.sub_self]; rfl
      rw [List.getElem?_drop] at e1
      rw [hp]; exact e1
    have hix : ∀ {T : Tab} (hT : Ty T), indexA T 9 (.str s) (.int .i64 (p : Int)) = some (.int .u8 (c.toNat : Int)) := fun hT => strAt hT hat
    have ix := hix hT
    cases hc : isD c
    · have stop := stop (by rw [List.takeWhile_cons, if_neg (by rw [hc]; decide)])
      generalize hbd : ((p : Int) == (i : Int)) = bd at stop
      generalize hbv : decide (v < 0) = bv at stop
      have stop := stop bd bv rfl rfl
      rw [stop]
      have hcc : (decide ((c.toNat : Int) ≥ 48) = false) ∨ (decide ((c.toNat : Int) ≥ 48) = true ∧ decide ((c.toNat : Int) ≤ 57) = false) := by
        unfold isD at hc
        by_cases q : 48 ≤ c.toNat
        · right
          rw [decide_eq_true q, Bool.true_and, decide_eq_false_iff_not] at hc
          exact ⟨decide_eq_true (by omega), decide_eq_false (by omega)⟩
        · left; exact decide_eq_false (by omega)
      clear hJ fin ends
      rcases hcc with g2 | ⟨g2, g3⟩
      · cases bd
        · cases bv
          · obtain ⟨g, rfl⟩ : ∃ g : Nat → AV, j = [g 0, g 1, g 2, g 3, g 4, g 5, g 6, g 7, g 8, g 9, g 10, g 11, g 12, g 13, g 14, g 15, g 16, g 17, g 18, g 19, g 20, g 21, g 22, g 23, g 24, g 25, g 26, g 27, g 28, g 29, g 30, g 31, g 32, g 33, g 34, g 35, g 36, g 37, g 38, g 39] := junk 40 j hj
            simp only [gX,gT,gM,gL,gB,wantedA,evOp,opv,absC,absC0,isAggT,resA,resultA,binA,eqA,eqGuardA,isConstA,isFlatScalar,shiftOp,strOp,ordB,readN,sliceCells,lenA,storeA,newA,buildA,fillA,buildSliceA,boundsA,bndA,sliceA,ptrOK,fieldAddrA,fieldA,extractA,convA,isIntT,biA,bytesOf,setAll,List.replicate,Nat.reduceAdd,Nat.reduceSub,Nat.reduceMul,Nat.reduceLT,Nat.reduceLeDiff,Nat.reduceEqDiff,Int.reduceEq,Int.reduceLT,Int.reduceLE,Int.reduceNe,Int.reduceAdd,Nat.reduceBEq,reduceCtorEq,lenB_nil,lenB_slice,lenB_oslice,lenB_str,lenB_agg,indexAddrA_slice,indexAddrA_oslice,indexAddrA_ptr,indexAddrA_optr,loadA_ptr,loadA_optr,lenK,indexK,loadK,Int.reduceBEq,Int.reduceBNe,Int.reduceMod,Int.reduceDiv,Int.reduceTDiv,Int.reduceTMod,Int.reduceFDiv,Int.reduceSub,Int.reduceNeg,Int.reduceGT,Int.reduceGE,BitVec.reduceOfInt,BitVec.reduceAnd,BitVec.reduceOr,BitVec.reduceXOr,BitVec.reduceToNat,Int.reduceToNat,Int.reducePow,Int.reduceMul,hT.all,g1,g2,ix,hbd,hbv]
            try rfl
          · obtain ⟨g, rfl⟩ : ∃ g : Nat → AV, j = [g 0, g 1, g 2, g 3, g 4, g 5, g 6, g 7, g 8, g 9, g 10, g 11, g 12, g 13, g 14, g 15, g 16, g 17, g 18, g 19, g 20, g 21, g 22, g 23, g 24, g 25, g 26, g 27, g 28, g 29, g 30, g 31, g 32, g 33, g 34, g 35, g 36, g 37, g 38, g 39] := junk 40 j hj
            simp only [gX,gT,gM,gL,gB,wantedA,evOp,opv,absC,absC0,isAggT,resA,resultA,binA,eqA,eqGuardA,isConstA,isFlatScalar,shiftOp,strOp,ordB,readN,sliceCells,lenA,storeA,newA,buildA,fillA,buildSliceA,boundsA,bndA,sliceA,ptrOK,fieldAddrA,fieldA,extractA,convA,isIntT,biA,bytesOf,setAll,List.replicate,Nat.reduceAdd,Nat.reduceSub,Nat.reduceMul,Nat.reduceLT,Nat.reduceLeDiff,Nat.reduceEqDiff,Int.reduceEq,Int.reduceLT,Int.reduceLE,Int.reduceNe,Int.reduceAdd,Nat.reduceBEq,reduceCtorEq,lenB_nil,lenB_slice,lenB_oslice,lenB_str,lenB_agg,indexAddrA_slice,indexAddrA_oslice,indexAddrA_ptr,indexAddrA_optr,loadA_ptr,loadA_optr,lenK,indexK,loadK,Int.reduceBEq,Int.reduceBNe,Int.reduceMod,Int.reduceDiv,Int.reduceTDiv,Int.reduceTMod,Int.reduceFDiv,Int.reduceSub,Int.reduceNeg,Int.reduceGT,Int.reduceGE,BitVec.reduceOfInt,BitVec.reduceAnd,BitVec.reduceOr,BitVec.reduceXOr,BitVec.reduceToNat,Int.reduceToNat,Int.reducePow,Int.reduceMul,hT.all,g1,g2,ix,hbd,hbv]
            try rfl
        · obtain ⟨g, rfl⟩ : ∃ g : Nat → AV, j = [g 0, g 1, g 2, g 3, g 4, g 5, g 6, g 7, g 8, g 9, g 10, g 11, g 12, g 13, g 14, g 15, g 16, g 17, g 18, g 19, g 20, g 21, g 22, g 23, g 24, g 25, g 26, g 27, g 28, g 29, g 30, g 31, g 32, g 33, g 34, g 35, g 36, g 37, g 38, g 39] := junk 40 j hj
          simp only [gX,gT,gM,gL,gB,wantedA,evOp,opv,absC,absC0,isAggT,resA,resultA,binA,eqA,eqGuardA,isConstA,isFlatScalar,shiftOp,strOp,ordB,readN,sliceCells,lenA,storeA,newA,buildA,fillA,buildSliceA,boundsA,bndA,sliceA,ptrOK,fieldAddrA,fieldA,extractA,convA,isIntT,biA,bytesOf,setAll,List.replicate,Nat.reduceAdd,Nat.reduceSub,Nat.reduceMul,Nat.reduceLT,Nat.reduceLeDiff,Nat.reduceEqDiff,Int.reduceEq,Int.reduceLT,Int.reduceLE,Int.reduceNe,Int.reduceAdd,Nat.reduceBEq,reduceCtorEq,lenB_nil,lenB_slice,lenB_oslice,lenB_str,lenB_agg,indexAddrA_slice,indexAddrA_oslice,indexAddrA_ptr,indexAddrA_optr,loadA_ptr,loadA_optr,lenK,indexK,loadK,Int.reduceBEq,Int.reduceBNe,Int.reduceMod,Int.reduceDiv,Int.reduceTDiv,Int.reduceTMod,Int.reduceFDiv,Int.reduceSub,Int.reduceNeg,Int.reduceGT,Int.reduceGE,BitVec.reduceOfInt,BitVec.reduceAnd,BitVec.reduceOr,BitVec.reduceXOr,BitVec.reduceToNat,Int.reduceToNat,Int.reducePow,Int.reduceMul,hT.all,g1,g2,ix,hbd]
          try rfl
      · cases bd
        · cases bv
          · obtain ⟨g, rfl⟩ : ∃ g : Nat → AV, j = [g 0, g 1, g 2, g 3, g 4, g 5, g 6, g 7, g 8, g 9, g 10, g 11, g 12, g 13, g 14, g 15, g 16, g 17, g 18, g 19, g 20, g 21, g 22, g 23, g 24, g 25, g 26, g 27, g 28, g 29, g 30, g 31, g 32, g 33, g 34, g 35, g 36, g 37, g 38, g 39] := junk 40 j hj
            simp only [gX,gT,gM,gL,gB,wantedA,evOp,opv,absC,absC0,isAggT,resA,resultA,binA,eqA,eqGuardA,isConstA,isFlatScalar,shiftOp,strOp,ordB,readN,sliceCells,lenA,storeA,newA,buildA,fillA,buildSliceA,boundsA,bndA,sliceA,ptrOK,fieldAddrA,fieldA,extractA,convA,isIntT,biA,bytesOf,setAll,List.replicate,Nat.reduceAdd,Nat.reduceSub,Nat.reduceMul,Nat.reduceLT,Nat.reduceLeDiff,Nat.reduceEqDiff,Int.reduceEq,Int.reduceLT,Int.reduceLE,Int.reduceNe,Int.reduceAdd,Nat.reduceBEq,reduceCtorEq,lenB_nil,lenB_slice,lenB_oslice,lenB_str,lenB_agg,indexAddrA_slice,indexAddrA_oslice,indexAddrA_ptr,indexAddrA_optr,loadA_ptr,loadA_optr,lenK,indexK,loadK,Int.reduceBEq,Int.reduceBNe,Int.reduceMod,Int.reduceDiv,Int.reduceTDiv,Int.reduceTMod,Int.reduceFDiv,Int.reduceSub,Int.reduceNeg,Int.reduceGT,Int.reduceGE,BitVec.reduceOfInt,BitVec.reduceAnd,BitVec.reduceOr,BitVec.reduceXOr,BitVec.reduceToNat,Int.reduceToNat,Int.reducePow,Int.reduceMul,hT.all,g1,g2,g3,ix,hbd,hbv]
            try rfl
          · obtain ⟨g, rfl⟩ : ∃ g : Nat → AV, j = [g 0, g 1, g 2, g 3, g 4, g 5, g 6, g 7, g 8, g 9, g 10, g 11, g 12, g 13, g 14, g 15, g 16, g 17, g 18, g 19, g 20, g 21, g 22, g 23, g 24, g 25, g 26, g 27, g 28, g 29, g 30, g 31, g 32, g 33, g 34, g 35, g 36, g 37, g 38, g 39] := junk 40 j hj
            simp only [gX,gT,gM,gL,gB,wantedA,evOp,opv,absC,absC0,isAggT,resA,resultA,binA,eqA,eqGuardA,isConstA,isFlatScalar,shiftOp,strOp,ordB,readN,sliceCells,lenA,storeA,newA,buildA,fillA,buildSliceA,boundsA,bndA,sliceA,ptrOK,fieldAddrA,fieldA,extractA,convA,isIntT,biA,bytesOf,setAll,List.replicate,Nat.reduceAdd,Nat.reduceSub,Nat.reduceMul,Nat.reduceLT,Nat.reduceLeDiff,Nat.reduceEqDiff,Int.reduceEq,Int.reduceLT,Int.reduceLE,Int.reduceNe,Int.reduceAdd,Nat.reduceBEq,reduceCtorEq,lenB_nil,lenB_slice,lenB_oslice,lenB_str,lenB_agg,indexAddrA_slice,indexAddrA_oslice,indexAddrA_ptr,indexAddrA_optr,loadA_ptr,loadA_optr,lenK,indexK,loadK,Int.reduceBEq,Int.reduceBNe,Int.reduceMod,Int.reduceDiv,Int.reduceTDiv,Int.reduceTMod,Int.reduceFDiv,Int.reduceSub,Int.reduceNeg,Int.reduceGT,Int.reduceGE,BitVec.reduceOfInt,BitVec.reduceAnd,BitVec.reduceOr,BitVec.reduceXOr,BitVec.reduceToNat,Int.reduceToNat,Int.reducePow,Int.reduceMul,hT.all,g1,g2,g3,ix,hbd,hbv]
            try rfl
        · obtain ⟨g, rfl⟩ : ∃ g : Nat → AV, j = [g 0, g 1, g 2, g 3, g 4, g 5, g 6, g 7, g 8, g 9, g 10, g 11, g 12, g 13, g 14, g 15, g 16, g 17, g 18, g 19, g 20, g 21, g 22, g 23, g 24, g 25, g 26, g 27, g 28, g 29, g 30, g 31, g 32, g 33, g 34, g 35, g 36, g 37, g 38, g 39] := junk 40 j hj
          simp only [gX,gT,gM,gL,gB,wantedA,evOp,opv,absC,absC0,isAggT,resA,resultA,binA,eqA,eqGuardA,isConstA,isFlatScalar,shiftOp,strOp,ordB,readN,sliceCells,lenA,storeA,newA,buildA,fillA,buildSliceA,boundsA,bndA,sliceA,ptrOK,fieldAddrA,fieldA,extractA,convA,isIntT,biA,bytesOf,setAll,List.replicate,Nat.reduceAdd,Nat.reduceSub,Nat.reduceMul,Nat.reduceLT,Nat.reduceLeDiff,Nat.reduceEqDiff,Int.reduceEq,Int.reduceLT,Int.reduceLE,Int.reduceNe,Int.reduceAdd,Nat.reduceBEq,reduceCtorEq,lenB_nil,lenB_slice,lenB_oslice,lenB_str,lenB_agg,indexAddrA_slice,indexAddrA_oslice,indexAddrA_ptr,indexAddrA_optr,loadA_ptr,loadA_optr,lenK,indexK,loadK,Int.reduceBEq,Int.reduceBNe,Int.reduceMod,Int.reduceDiv,Int.reduceTDiv,Int.reduceTMod,Int.reduceFDiv,Int.reduceSub,Int.reduceNeg,Int.reduceGT,Int.reduceGE,BitVec.reduceOfInt,BitVec.reduceAnd,BitVec.reduceOr,BitVec.reduceXOr,BitVec.reduceToNat,Int.reduceToNat,Int.reducePow,Int.reduceMul,hT.all,g1,g2,g3,ix,hbd]
          try rfl
    · have hcd := isD_iff.1 hc
      have g2 : decide ((c.toNat : Int) ≥ 48) = true := decide_eq_true (by omega)
      have g3 : decide ((c.toNat : Int) ≤ 57) = true := decide_eq_true (by omega)
      have i5 : IntKind.i64.wrap ((p : Int) - (i : Int)) = (done.length : Int) := by rw [wrap_i64 (by omega) (by omega)]; omega
      by_cases c19 : done.length = 19
      · have g4 : decide ((done.length : Int) > 18) = true := decide_eq_true (by omega)
        have hbig : rNumA ((s.drop i).takeWhile isD) i = .tup [.int .i64 0, .int .i64 (-1)] := by
          unfold rNumA
          rw [hdr, tw_app hdone, List.takeWhile_cons, if_pos hc, if_neg]
          unfold okN
          rw [List.length_append, List.length_cons]; omega
        rw [hbig]
        clear hJ fin ends stop
        obtain ⟨g, rfl⟩ : ∃ g : Nat → AV, j = [g 0, g 1, g 2, g 3, g 4, g 5, g 6, g 7, g 8, g 9, g 10, g 11, g 12, g 13, g 14, g 15, g 16, g 17, g 18, g 19, g 20, g 21, g 22, g 23, g 24, g 25, g 26, g 27, g 28, g 29, g 30, g 31, g 32, g 33, g 34, g 35, g 36, g 37, g 38, g 39] := junk 40 j hj
        simp only [gX,gT,gM,gL,gB,wantedA,evOp,opv,absC,absC0,isAggT,resA,resultA,binA,eqA,eqGuardA,isConstA,isFlatScalar,shiftOp,strOp,ordB,readN,sliceCells,lenA,storeA,newA,buildA,fillA,buildSliceA,boundsA,bndA,sliceA,ptrOK,fieldAddrA,fieldA,extractA,convA,isIntT,biA,bytesOf,setAll,List.replicate,Nat.reduceAdd,Nat.reduceSub,Nat.reduceMul,Nat.reduceLT,Nat.reduceLeDiff,Nat.reduceEqDiff,Int.reduceEq,Int.reduceLT,Int.reduceLE,Int.reduceNe,Int.reduceAdd,Nat.reduceBEq,reduceCtorEq,lenB_nil,lenB_slice,lenB_oslice,lenB_str,lenB_agg,indexAddrA_slice,indexAddrA_oslice,indexAddrA_ptr,indexAddrA_optr,loadA_ptr,loadA_optr,lenK,indexK,loadK,Int.reduceBEq,Int.reduceBNe,Int.reduceMod,Int.reduceDiv,Int.reduceTDiv,Int.reduceTMod,Int.reduceFDiv,Int.reduceSub,Int.reduceNeg,Int.reduceGT,Int.reduceGE,BitVec.reduceOfInt,BitVec.reduceAnd,BitVec.reduceOr,BitVec.reduceXOr,BitVec.reduceToNat,Int.reduceToNat,Int.reducePow,Int.reduceMul,hT.all,g1,g2,g3,i5,g4,ix]
        try rfl
      · have g4 : decide ((done.length : Int) > 18) = false := decide_eq_false (by omega)
        have h18 : (10 : Nat) ^ done.length ≤ 10 ^ 18 := Nat.pow_le_pow_right (by omega) (by omega)
        have q18 : (10 : Nat) ^ 18 = 1000000000000000000 := by decide
        have hv2 : v = (valF done : Nat) := by rw [hv, wrap_i64 (by omega) (by omega)]
        have hs1 := valF_snoc done c
        obtain ⟨vd, hvd⟩ : ∃ vd, vd = valF done := ⟨_, rfl⟩
        rw [← hvd] at hv2 hs1 hvl
        have w1 : IntKind.u8.wrap ((c.toNat : Int) - 48) = ((c.toNat - 48 : Nat) : Int) := by show ((c.toNat : Int) - 48) % 256 = _; omega
        have w2 : IntKind.i64.wrap ((c.toNat - 48 : Nat) : Int) = ((c.toNat - 48 : Nat) : Int) := wrap_i64 (by omega) (by omega)
        obtain ⟨dn, hdn⟩ : ∃ dn, dn = done ++ [c] := ⟨_, rfl⟩
        rw [← hdn] at hs1
        have w3 : IntKind.i64.wrap (IntKind.i64.wrap (10 * v) + ((c.toNat - 48 : Nat) : Int)) = IntKind.i64.wrap (valF dn : Nat) := by
          rw [wrap_add, hv2, hs1]
          congr 1
          omega
        have w4 : IntKind.i64.wrap ((p : Int) + 1) = ((p + 1 : Nat) : Int) := by rw [wrap_i64 (by omega) (by omega)]; omega
        obtain ⟨c8, hc8⟩ : ∃ c8, c8 = c.toNat - 48 := ⟨_, rfl⟩
        rw [← hc8] at w1 w2 w3
        obtain ⟨nv, hnv⟩ : ∃ nv, nv = IntKind.i64.wrap (valF dn : Nat) := ⟨_, rfl⟩
        rw [← hnv] at w3
        obtain ⟨tv, htv⟩ : ∃ tv, tv = IntKind.i64.wrap (10 * v) := ⟨_, rfl⟩
        rw [← htv] at w3
        have w0 : IntKind.i64.wrap (10 * v) = tv := htv.symm
        rw [List.length_cons] at hrm hsl
        have hdnl : dn.length = done.length + 1 := by rw [hdn, List.length_append]; rfl
        clear fin ends stop
        obtain ⟨g, rfl⟩ : ∃ g : Nat → AV, j = [g 0, g 1, g 2, g 3, g 4, g 5, g 6, g 7, g 8, g 9, g 10, g 11, g 12, g 13, g 14, g 15, g 16, g 17, g 18, g 19, g 20, g 21, g 22, g 23, g 24, g 25, g 26, g 27, g 28, g 29, g 30, g 31, g 32, g 33, g 34, g 35, g 36, g 37, g 38, g 39] := junk 40 j hj
        simp only [gX,gT,gM,gL,gB,wantedA,evOp,opv,absC,absC0,isAggT,resA,resultA,binA,eqA,eqGuardA,isConstA,isFlatScalar,shiftOp,strOp,ordB,readN,sliceCells,lenA,storeA,newA,buildA,fillA,buildSliceA,boundsA,bndA,sliceA,ptrOK,fieldAddrA,fieldA,extractA,convA,isIntT,biA,bytesOf,setAll,List.replicate,Nat.reduceAdd,Nat.reduceSub,Nat.reduceMul,Nat.reduceLT,Nat.reduceLeDiff,Nat.reduceEqDiff,Int.reduceEq,Int.reduceLT,Int.reduceLE,Int.reduceNe,Int.reduceAdd,Nat.reduceBEq,reduceCtorEq,lenB_nil,lenB_slice,lenB_oslice,lenB_str,lenB_agg,indexAddrA_slice,indexAddrA_oslice,indexAddrA_ptr,indexAddrA_optr,loadA_ptr,loadA_optr,lenK,indexK,loadK,Int.reduceBEq,Int.reduceBNe,Int.reduceMod,Int.reduceDiv,Int.reduceTDiv,Int.reduceTMod,Int.reduceFDiv,Int.reduceSub,Int.reduceNeg,Int.reduceGT,Int.reduceGE,BitVec.reduceOfInt,BitVec.reduceAnd,BitVec.reduceOr,BitVec.reduceXOr,BitVec.reduceToNat,Int.reduceToNat,Int.reducePow,Int.reduceMul,hT.all,g1,g2,g3,i5,g4,ix,w0,w1,w2,w3,w4]
        refine hJ rest.length _ _ _ (by omega) (Weak.refl _) ⟨_, _, dn, rest, nv, p + 1, _, rfl, rfl, by rw [hdn, List.append_assoc]; exact hdr, ?_, by omega, hnv, by omega, rfl, rfl⟩
        intro x hx
        rw [hdn] at hx
        rcases List.mem_append.1 hx with hx | hx
        · exact hdone x hx
        · rw [List.mem_singleton] at hx; rw [hx]; exact hc

end Go.Proofs.YtaaecodkdgkjoaaDoor.B
