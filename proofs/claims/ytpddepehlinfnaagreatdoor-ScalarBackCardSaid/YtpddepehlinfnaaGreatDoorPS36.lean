/- Part of a claim: a text read as a number. -/
import Derived.Test.YtpddepehlinfnaaGreatDoorPS35
set_option linter.unusedSimpArgs false
set_option linter.unusedVariables false
set_option maxRecDepth 100000
set_option maxHeartbeats 10000000
namespace Go.Proofs.YtpddepehlinfnaaGreatDoor.B
open Go Go.RowKit Go.Proofs.YtpddepehlinfnaaGreatDoor.E Go.Proofs.YtpddepehlinfnaaGreatDoor.FL

/-- The number that digits tell. -/
def num (cs : List Nat) : Nat := cs.foldl (fun a c => a * 10 + (c - 48)) 0
theorem num_snoc (cs : List Nat) (c : Nat) : num (cs ++ [c]) = num cs * 10 + (c - 48) := by unfold num; rw [List.foldl_append]; rfl
theorem numN_lt : ∀ (n : Nat) (cs : List Nat), cs.length = n → (∀ c ∈ cs, 48 ≤ c ∧ c ≤ 57) → num cs < 10 ^ n
  | 0, cs, hl, _ => by
    obtain rfl := List.length_eq_zero_iff.1 hl
    decide
  | n + 1, cs, hl, h => by
    obtain ⟨d, c, rfl⟩ : ∃ d c, cs = d ++ [c] := ⟨cs.dropLast, cs.getLast (by intro e; rw [e] at hl; simp at hl), (List.dropLast_concat_getLast _).symm⟩
    have ih := numN_lt n d (by simpa using hl) (fun x hx => h x (by simp [hx]))
    have hc := h c (by simp)
    rw [num_snoc, Nat.pow_succ]
    omega

def dC (cs : List Nat) : List AV := (tx cs).map fun b => .int .u8 (b.toNat : Int)
theorem dC_get {cs : List Nat} {i c : Nat} (h : cs[i]? = some c) (hc : c < 256) : (dC cs)[i]? = some (.int .u8 (c : Int)) := by
  unfold dC tx
  rw [List.map_map, List.getElem?_map, h]
  simp only [Option.map_some, Function.comp]
  rw [UInt8.toNat_ofNat', Nat.mod_eq_of_lt hc]
theorem dC_length (cs : List Nat) : (dC cs).length = cs.length := by unfold dC tx; rw [List.length_map, List.length_map]
theorem tx_length (cs : List Nat) : (tx cs).length = cs.length := by unfold tx; rw [List.length_map]

theorem pAtoi0 (M : Addr → Option AV) (neg : Bool) {H : Heap} {cs : List Nat} (hc : ∀ c ∈ cs, 48 ≤ c ∧ c ≤ 57) (h1 : 1 ≤ cs.length) (h2 : cs.length ≤ 4) :
    SemF Tryz.prog M 96 [.str ((if neg then 45 else 43) :: tx cs)] H fun v _ => v = .tup [.int .i64 (if neg then -(num cs : Int) else (num cs : Int)), .nilIface] := by
  refine fw Tryz.func96 (by kernel_rfl) rfl (by kernel_rfl) fun C L T hT hS => ?_
  obtain ⟨sg, hsg⟩ : ∃ sg : UInt8, sg = if neg then 45 else 43 := ⟨_, rfl⟩
  rw [← hsg]
  obtain ⟨l, hl⟩ : ∃ l, l = tx cs := ⟨_, rfl⟩
  have hll : l.length = cs.length := by rw [hl, tx_length]
  rw [← hl]
  obtain ⟨s, hs⟩ : ∃ s, s = sg :: l := ⟨_, rfl⟩
  have hsl : s.length = cs.length + 1 := by rw [hs, List.length_cons, hll]
  have g0 : s[0]? = some sg := by rw [hs]; rfl
  have t1 : ∀ H, sliceA T H 9 (.str s) (some (.int .i64 1)) none none = some (.str l) := fun H => by rw [hs]; exact strFrom hT (n := 1) (by simp)
  rw [← hs]
  have cv : ∀ H, convA T M H 9 101 (.str l) = some (.slice H.length 0 0 1 l.length none, H ++ [.c (dC cs) 5 0 0]) := fun H => by
    simp only [convA, hT.ty9, hT.ty101, hT.ty5]
    rw [if_pos (by omega), hl]
    rfl
  have b1 : decide ((0 : Int) < (s.length : Int)) = true := decide_eq_true (by omega)
  have b2 : decide ((s.length : Int) < 19) = true := decide_eq_true (by omega)
  have b3 : decide ((l.length : Int) < 1) = false := decide_eq_false (by omega)
  have c1 : ((sg.toNat : Int) == 45) = neg := by cases neg <;> (subst hsg; rfl)
  have c2 : ((sg.toNat : Int) == 43) = !neg := by cases neg <;> (subst hsg; rfl)
  cases neg
  · simp only [gX,gT,gM,gL,gB,wantedA,evOp,opv,absC,absC0,isAggT,resA,resultA,binA,eqA,eqGuardA,isConstA,isFlatScalar,shiftOp,strOp,ordB,readN,sliceCells,lenA,storeA,newA,buildA,fillA,buildSliceA,boundsA,bndA,ptrOK,fieldAddrA,fieldA,indexA,extractA,isIntT,biA,bytesOf,setAll,List.replicate,Nat.reduceAdd,Nat.reduceSub,Nat.reduceMul,Nat.reduceLT,Nat.reduceLeDiff,Nat.reduceEqDiff,Int.reduceEq,Int.reduceLT,Int.reduceLE,Int.reduceNe,Int.reduceAdd,Nat.reduceBEq,reduceCtorEq,lenB_nil,lenB_slice,lenB_oslice,lenB_str,lenB_agg,indexAddrA_slice,indexAddrA_oslice,indexAddrA_ptr,indexAddrA_optr,loadA_ptr,loadA_optr,lenK,indexK,loadK,Int.reduceBEq,Int.reduceBNe,Int.reduceMod,Int.reduceDiv,Int.reduceTDiv,Int.reduceTMod,Int.reduceFDiv,Int.reduceSub,Int.reduceNeg,Int.reduceGT,Int.reduceGE,BitVec.reduceOfInt,BitVec.reduceAnd,BitVec.reduceOr,BitVec.reduceXOr,BitVec.reduceToNat,Int.reduceToNat,Int.reducePow,Int.reduceMul,hT.all,Tryz.f96,b1,b2,b3,c1,c2,g0,t1,cv]
    refine hS.loop (fun m e h => ∃ (done rest : List Nat) (x1 : AV) (jm j : List AV), e = .str l :: x1 :: .int .i64 0 :: .nilIface :: .int .i64 (s.length : Int) :: .str s :: .int .i64 (num done : Int) :: (jm ++ .slice H.length 0 0 1 l.length none :: .int .i64 (l.length : Int) :: .int .i64 (done.length : Int) :: j) ∧ jm.length = 40 ∧ j.length = 27 ∧ cs = done ++ rest ∧ rest.length = m ∧ h = H ++ [HB.c (dC cs) 5 0 0]) cs.length ⟨[], cs, _, [_, _, _, _, _, _, _, _, _, _, _, _, _, _, _, _, _, _, _, _, _, _, _, _, _, _, _, _, _, _, _, _, _, _, _, _, _, _, _, _], _, rfl, rfl, rfl, rfl, rfl, rfl⟩ ?_
    rintro m e h ⟨done, rest, x1, jm, j, rfl, hjm, hj, hcs, hrl, rfl⟩ J hJ
    obtain ⟨g, rfl⟩ : ∃ g : Nat → AV, j = [g 0, g 1, g 2, g 3, g 4, g 5, g 6, g 7, g 8, g 9, g 10, g 11, g 12, g 13, g 14, g 15, g 16, g 17, g 18, g 19, g 20, g 21, g 22, g 23, g 24, g 25, g 26] := junk 27 j hj
    obtain ⟨gm, rfl⟩ : ∃ g : Nat → AV, jm = [g 0, g 1, g 2, g 3, g 4, g 5, g 6, g 7, g 8, g 9, g 10, g 11, g 12, g 13, g 14, g 15, g 16, g 17, g 18, g 19, g 20, g 21, g 22, g 23, g 24, g 25, g 26, g 27, g 28, g 29, g 30, g 31, g 32, g 33, g 34, g 35, g 36, g 37, g 38, g 39] := junk 40 jm hjm
    simp only [List.cons_append, List.nil_append]
    have hdl : done.length + rest.length = cs.length := by rw [hcs, List.length_append]
    cases rest with
    | nil =>
      have b4 : decide ((done.length : Int) < (l.length : Int)) = false := decide_eq_false (by rw [List.length_nil] at hdl; omega)
      rw [List.append_nil] at hcs
      subst hcs
      have hnl := numN_lt _ cs rfl hc
      have hpw : 10 ^ cs.length ≤ 10 ^ 4 := Nat.pow_le_pow_right (by omega) h2
      have i9 : IntKind.i64.wrap (0 - (num cs : Int)) = -(num cs : Int) := by rw [wrap_i64 (by omega) (by omega)]; omega
      simp only [gX,gT,gM,gL,gB,wantedA,evOp,opv,absC,absC0,isAggT,resA,resultA,binA,eqA,eqGuardA,isConstA,isFlatScalar,shiftOp,strOp,ordB,readN,sliceCells,lenA,storeA,newA,buildA,fillA,buildSliceA,boundsA,bndA,sliceA,ptrOK,fieldAddrA,fieldA,indexA,extractA,convA,isIntT,biA,bytesOf,setAll,List.replicate,Nat.reduceAdd,Nat.reduceSub,Nat.reduceMul,Nat.reduceLT,Nat.reduceLeDiff,Nat.reduceEqDiff,Int.reduceEq,Int.reduceLT,Int.reduceLE,Int.reduceNe,Int.reduceAdd,Nat.reduceBEq,reduceCtorEq,lenB_nil,lenB_slice,lenB_oslice,lenB_str,lenB_agg,indexAddrA_slice,indexAddrA_oslice,indexAddrA_ptr,indexAddrA_optr,loadA_ptr,loadA_optr,lenK,indexK,loadK,Int.reduceBEq,Int.reduceBNe,Int.reduceMod,Int.reduceDiv,Int.reduceTDiv,Int.reduceTMod,Int.reduceFDiv,Int.reduceSub,Int.reduceNeg,Int.reduceGT,Int.reduceGE,BitVec.reduceOfInt,BitVec.reduceAnd,BitVec.reduceOr,BitVec.reduceXOr,BitVec.reduceToNat,Int.reduceToNat,Int.reducePow,Int.reduceMul,hT.all,b4,c1,c2,g0,i9]
      try rfl
    | cons c rest =>
      have b4 : decide ((done.length : Int) < (l.length : Int)) = true := decide_eq_true (by rw [List.length_cons] at hdl; omega)
      rw [List.length_cons] at hdl
      have hc9 := hc c (by rw [hcs]; simp)
      have hsee : Sees M (H ++ [HB.c (dC cs) 5 0 0]) 1 (.slice H.length 0 0 1 l.length none) (dC cs) := .own _ _ _ _ _ (dC cs) 5 0 0 _ (by rw [hp_get0]; rfl) (Nat.le_refl _) (by rw [dC_length]; omega) (by rw [List.drop_zero, List.take_of_length_le (by rw [dC_length]; omega)])
      have e2 : indexAddrA T (H ++ [HB.c (dC cs) 5 0 0]) 101 (.slice H.length 0 0 1 l.length none) (.int .i64 (done.length : Int)) = some (placeA (.slice H.length 0 0 1 l.length none) done.length 1) := by
        have := hsee.index (T := T) (k := .i64) (n := (done.length : Int)) (by omega) (by rw [dC_length]; omega) (by omega) hT.ty101 rfl hT.ty5 rfl
        rw [Int.toNat_natCast] at this
        exact this
      have e3 : loadA T M (H ++ [HB.c (dC cs) 5 0 0]) 5 (placeA (.slice H.length 0 0 1 l.length none) done.length 1) = some (.int .u8 (c : Int)) := hsee.load (dC_get (by rw [hcs, List.getElem?_append_right (Nat.le_refl _), Nat.sub_self]; rfl) (by omega)) hT.ty5 rfl
      have hnl := numN_lt _ done rfl (fun x hx => hc x (by rw [hcs]; simp [hx]))
      have hpw : 10 ^ done.length ≤ 10 ^ 4 := Nat.pow_le_pow_right (by omega) (by omega)
      have w1 : IntKind.u8.wrap ((c : Int) - 48) = ((c - 48 : Nat) : Int) := by show ((c : Int) - 48) % 256 = _; omega
      have b5 : decide (((c - 48 : Nat) : Int) > 9) = false := decide_eq_false (by omega)
      have i1 : IntKind.i64.wrap ((num done : Int) * 10) = ((num done * 10 : Nat) : Int) := by rw [wrap_i64 (by omega) (by omega)]; omega
      have i2 : IntKind.i64.wrap ((c - 48 : Nat) : Int) = ((c - 48 : Nat) : Int) := wrap_i64 (by omega) (by omega)
      have i3 : IntKind.i64.wrap (((num done * 10 : Nat) : Int) + ((c - 48 : Nat) : Int)) = ((num (done ++ [c]) : Nat) : Int) := by rw [num_snoc, wrap_i64 (by omega) (by omega)]; omega
      have i4 : IntKind.i64.wrap ((done.length : Int) + 1) = (((done ++ [c]).length : Nat) : Int) := by rw [List.length_append, wrap_i64 (by omega) (by omega)]; simp
      obtain ⟨c8, hc8⟩ : ∃ c8, c8 = c - 48 := ⟨_, rfl⟩
      rw [← hc8] at w1 b5 i2 i3
      obtain ⟨d9, hd9⟩ : ∃ d9, d9 = done ++ [c] := ⟨_, rfl⟩
      rw [← hd9] at i3 i4
      simp only [gX,gT,gM,gL,gB,wantedA,evOp,opv,absC,absC0,isAggT,resA,resultA,binA,eqA,eqGuardA,isConstA,isFlatScalar,shiftOp,strOp,ordB,readN,sliceCells,lenA,storeA,newA,buildA,fillA,buildSliceA,boundsA,bndA,sliceA,ptrOK,fieldAddrA,fieldA,indexA,extractA,convA,isIntT,biA,bytesOf,setAll,List.replicate,Nat.reduceAdd,Nat.reduceSub,Nat.reduceMul,Nat.reduceLT,Nat.reduceLeDiff,Nat.reduceEqDiff,Int.reduceEq,Int.reduceLT,Int.reduceLE,Int.reduceNe,Int.reduceAdd,Nat.reduceBEq,reduceCtorEq,lenB_nil,lenB_slice,lenB_oslice,lenB_str,lenB_agg,indexAddrA_oslice,indexAddrA_ptr,indexAddrA_optr,loadA_optr,lenK,indexK,loadK,Int.reduceBEq,Int.reduceBNe,Int.reduceMod,Int.reduceDiv,Int.reduceTDiv,Int.reduceTMod,Int.reduceFDiv,Int.reduceSub,Int.reduceNeg,Int.reduceGT,Int.reduceGE,BitVec.reduceOfInt,BitVec.reduceAnd,BitVec.reduceOr,BitVec.reduceXOr,BitVec.reduceToNat,Int.reduceToNat,Int.reducePow,Int.reduceMul,hT.all,b4,e2,e3,w1,b5,i1,i2,i3,i4]
      refine hJ rest.length _ _ _ (by rw [← hrl, List.length_cons]; omega) (Weak.refl _) ⟨d9, rest, x1, [_, _, _, _, _, _, _, _, _, _, _, _, _, _, _, _, _, _, _, _, _, _, _, _, _, _, _, _, _, _, _, _, _, _, _, _, _, _, _, _], _, rfl, rfl, ?_, by rw [hd9, List.append_assoc]; exact hcs, rfl, rfl⟩
      rfl
  · simp only [gX,gT,gM,gL,gB,wantedA,evOp,opv,absC,absC0,isAggT,resA,resultA,binA,eqA,eqGuardA,isConstA,isFlatScalar,shiftOp,strOp,ordB,readN,sliceCells,lenA,storeA,newA,buildA,fillA,buildSliceA,boundsA,bndA,ptrOK,fieldAddrA,fieldA,indexA,extractA,isIntT,biA,bytesOf,setAll,List.replicate,Nat.reduceAdd,Nat.reduceSub,Nat.reduceMul,Nat.reduceLT,Nat.reduceLeDiff,Nat.reduceEqDiff,Int.reduceEq,Int.reduceLT,Int.reduceLE,Int.reduceNe,Int.reduceAdd,Nat.reduceBEq,reduceCtorEq,lenB_nil,lenB_slice,lenB_oslice,lenB_str,lenB_agg,indexAddrA_slice,indexAddrA_oslice,indexAddrA_ptr,indexAddrA_optr,loadA_ptr,loadA_optr,lenK,indexK,loadK,Int.reduceBEq,Int.reduceBNe,Int.reduceMod,Int.reduceDiv,Int.reduceTDiv,Int.reduceTMod,Int.reduceFDiv,Int.reduceSub,Int.reduceNeg,Int.reduceGT,Int.reduceGE,BitVec.reduceOfInt,BitVec.reduceAnd,BitVec.reduceOr,BitVec.reduceXOr,BitVec.reduceToNat,Int.reduceToNat,Int.reducePow,Int.reduceMul,hT.all,Tryz.f96,b1,b2,b3,c1,c2,g0,t1,cv]
    refine hS.loop (fun m e h => ∃ (done rest : List Nat) (x1 : AV) (jm j : List AV), e = .str l :: x1 :: .int .i64 0 :: .nilIface :: .int .i64 (s.length : Int) :: .str s :: .int .i64 (num done : Int) :: (jm ++ .slice H.length 0 0 1 l.length none :: .int .i64 (l.length : Int) :: .int .i64 (done.length : Int) :: j) ∧ jm.length = 40 ∧ j.length = 27 ∧ cs = done ++ rest ∧ rest.length = m ∧ h = H ++ [HB.c (dC cs) 5 0 0]) cs.length ⟨[], cs, _, [_, _, _, _, _, _, _, _, _, _, _, _, _, _, _, _, _, _, _, _, _, _, _, _, _, _, _, _, _, _, _, _, _, _, _, _, _, _, _, _], _, rfl, rfl, rfl, rfl, rfl, rfl⟩ ?_
    rintro m e h ⟨done, rest, x1, jm, j, rfl, hjm, hj, hcs, hrl, rfl⟩ J hJ
    obtain ⟨g, rfl⟩ : ∃ g : Nat → AV, j = [g 0, g 1, g 2, g 3, g 4, g 5, g 6, g 7, g 8, g 9, g 10, g 11, g 12, g 13, g 14, g 15, g 16, g 17, g 18, g 19, g 20, g 21, g 22, g 23, g 24, g 25, g 26] := junk 27 j hj
    obtain ⟨gm, rfl⟩ : ∃ g : Nat → AV, jm = [g 0, g 1, g 2, g 3, g 4, g 5, g 6, g 7, g 8, g 9, g 10, g 11, g 12, g 13, g 14, g 15, g 16, g 17, g 18, g 19, g 20, g 21, g 22, g 23, g 24, g 25, g 26, g 27, g 28, g 29, g 30, g 31, g 32, g 33, g 34, g 35, g 36, g 37, g 38, g 39] := junk 40 jm hjm
    simp only [List.cons_append, List.nil_append]
    have hdl : done.length + rest.length = cs.length := by rw [hcs, List.length_append]
    cases rest with
    | nil =>
      have b4 : decide ((done.length : Int) < (l.length : Int)) = false := decide_eq_false (by rw [List.length_nil] at hdl; omega)
      rw [List.append_nil] at hcs
      subst hcs
      have hnl := numN_lt _ cs rfl hc
      have hpw : 10 ^ cs.length ≤ 10 ^ 4 := Nat.pow_le_pow_right (by omega) h2
      have i9 : IntKind.i64.wrap (0 - (num cs : Int)) = -(num cs : Int) := by rw [wrap_i64 (by omega) (by omega)]; omega
      simp only [gX,gT,gM,gL,gB,wantedA,evOp,opv,absC,absC0,isAggT,resA,resultA,binA,eqA,eqGuardA,isConstA,isFlatScalar,shiftOp,strOp,ordB,readN,sliceCells,lenA,storeA,newA,buildA,fillA,buildSliceA,boundsA,bndA,sliceA,ptrOK,fieldAddrA,fieldA,indexA,extractA,convA,isIntT,biA,bytesOf,setAll,List.replicate,Nat.reduceAdd,Nat.reduceSub,Nat.reduceMul,Nat.reduceLT,Nat.reduceLeDiff,Nat.reduceEqDiff,Int.reduceEq,Int.reduceLT,Int.reduceLE,Int.reduceNe,Int.reduceAdd,Nat.reduceBEq,reduceCtorEq,lenB_nil,lenB_slice,lenB_oslice,lenB_str,lenB_agg,indexAddrA_slice,indexAddrA_oslice,indexAddrA_ptr,indexAddrA_optr,loadA_ptr,loadA_optr,lenK,indexK,loadK,Int.reduceBEq,Int.reduceBNe,Int.reduceMod,Int.reduceDiv,Int.reduceTDiv,Int.reduceTMod,Int.reduceFDiv,Int.reduceSub,Int.reduceNeg,Int.reduceGT,Int.reduceGE,BitVec.reduceOfInt,BitVec.reduceAnd,BitVec.reduceOr,BitVec.reduceXOr,BitVec.reduceToNat,Int.reduceToNat,Int.reducePow,Int.reduceMul,hT.all,b4,c1,c2,g0,i9]
      try rfl
    | cons c rest =>
      have b4 : decide ((done.length : Int) < (l.length : Int)) = true := decide_eq_true (by rw [List.length_cons] at hdl; omega)
      rw [List.length_cons] at hdl
      have hc9 := hc c (by rw [hcs]; simp)
      have hsee : Sees M (H ++ [HB.c (dC cs) 5 0 0]) 1 (.slice H.length 0 0 1 l.length none) (dC cs) := .own _ _ _ _ _ (dC cs) 5 0 0 _ (by rw [hp_get0]; rfl) (Nat.le_refl _) (by rw [dC_length]; omega) (by rw [List.drop_zero, List.take_of_length_le (by rw [dC_length]; omega)])
      have e2 : indexAddrA T (H ++ [HB.c (dC cs) 5 0 0]) 101 (.slice H.length 0 0 1 l.length none) (.int .i64 (done.length : Int)) = some (placeA (.slice H.length 0 0 1 l.length none) done.length 1) := by
        have := hsee.index (T := T) (k := .i64) (n := (done.length : Int)) (by omega) (by rw [dC_length]; omega) (by omega) hT.ty101 rfl hT.ty5 rfl
        rw [Int.toNat_natCast] at this
        exact this
      have e3 : loadA T M (H ++ [HB.c (dC cs) 5 0 0]) 5 (placeA (.slice H.length 0 0 1 l.length none) done.length 1) = some (.int .u8 (c : Int)) := hsee.load (dC_get (by rw [hcs, List.getElem?_append_right (Nat.le_refl _), Nat.sub_self]; rfl) (by omega)) hT.ty5 rfl
      have hnl := numN_lt _ done rfl (fun x hx => hc x (by rw [hcs]; simp [hx]))
      have hpw : 10 ^ done.length ≤ 10 ^ 4 := Nat.pow_le_pow_right (by omega) (by omega)
      have w1 : IntKind.u8.wrap ((c : Int) - 48) = ((c - 48 : Nat) : Int) := by show ((c : Int) - 48) % 256 = _; omega
      have b5 : decide (((c - 48 : Nat) : Int) > 9) = false := decide_eq_false (by omega)
      have i1 : IntKind.i64.wrap ((num done : Int) * 10) = ((num done * 10 : Nat) : Int) := by rw [wrap_i64 (by omega) (by omega)]; omega
      have i2 : IntKind.i64.wrap ((c - 48 : Nat) : Int) = ((c - 48 : Nat) : Int) := wrap_i64 (by omega) (by omega)
      have i3 : IntKind.i64.wrap (((num done * 10 : Nat) : Int) + ((c - 48 : Nat) : Int)) = ((num (done ++ [c]) : Nat) : Int) := by rw [num_snoc, wrap_i64 (by omega) (by omega)]; omega
      have i4 : IntKind.i64.wrap ((done.length : Int) + 1) = (((done ++ [c]).length : Nat) : Int) := by rw [List.length_append, wrap_i64 (by omega) (by omega)]; simp
      obtain ⟨c8, hc8⟩ : ∃ c8, c8 = c - 48 := ⟨_, rfl⟩
      rw [← hc8] at w1 b5 i2 i3
      obtain ⟨d9, hd9⟩ : ∃ d9, d9 = done ++ [c] := ⟨_, rfl⟩
      rw [← hd9] at i3 i4
      simp only [gX,gT,gM,gL,gB,wantedA,evOp,opv,absC,absC0,isAggT,resA,resultA,binA,eqA,eqGuardA,isConstA,isFlatScalar,shiftOp,strOp,ordB,readN,sliceCells,lenA,storeA,newA,buildA,fillA,buildSliceA,boundsA,bndA,sliceA,ptrOK,fieldAddrA,fieldA,indexA,extractA,convA,isIntT,biA,bytesOf,setAll,List.replicate,Nat.reduceAdd,Nat.reduceSub,Nat.reduceMul,Nat.reduceLT,Nat.reduceLeDiff,Nat.reduceEqDiff,Int.reduceEq,Int.reduceLT,Int.reduceLE,Int.reduceNe,Int.reduceAdd,Nat.reduceBEq,reduceCtorEq,lenB_nil,lenB_slice,lenB_oslice,lenB_str,lenB_agg,indexAddrA_oslice,indexAddrA_ptr,indexAddrA_optr,loadA_optr,lenK,indexK,loadK,Int.reduceBEq,Int.reduceBNe,Int.reduceMod,Int.reduceDiv,Int.reduceTDiv,Int.reduceTMod,Int.reduceFDiv,Int.reduceSub,Int.reduceNeg,Int.reduceGT,Int.reduceGE,BitVec.reduceOfInt,BitVec.reduceAnd,BitVec.reduceOr,BitVec.reduceXOr,BitVec.reduceToNat,Int.reduceToNat,Int.reducePow,Int.reduceMul,hT.all,b4,e2,e3,w1,b5,i1,i2,i3,i4]
      refine hJ rest.length _ _ _ (by rw [← hrl, List.length_cons]; omega) (Weak.refl _) ⟨d9, rest, x1, [_, _, _, _, _, _, _, _, _, _, _, _, _, _, _, _, _, _, _, _, _, _, _, _, _, _, _, _, _, _, _, _, _, _, _, _, _, _, _, _], _, rfl, rfl, ?_, by rw [hd9, List.append_assoc]; exact hcs, rfl, rfl⟩
      rfl

theorem pAtoi (M : Addr → Option AV) (neg : Bool) {H : Heap} {cs : List Nat} (hc : ∀ c ∈ cs, 48 ≤ c ∧ c ≤ 57) (h1 : 1 ≤ cs.length) (h2 : cs.length ≤ 4) :
    SemF Tryz.prog M 76 [.str ((if neg then 45 else 43) :: tx cs)] H fun v _ => v = .tup [.int .i64 (if neg then -(num cs : Int) else (num cs : Int)), .nilIface] := by
  refine fw Tryz.func76 (by kernel_rfl) rfl (by kernel_rfl) fun C L T hT hS => ?_
  have hb := pAtoi0 M neg (H := H) hc h1 h2
  obtain ⟨s, hs⟩ : ∃ s : List UInt8, s = (if neg then 45 else 43) :: tx cs := ⟨_, rfl⟩
  rw [← hs] at hb ⊢
  simp only [gX,gT,gM,gL,gB,wantedA,evOp,opv,absC,absC0,isAggT,resA,resultA,binA,eqA,eqGuardA,isConstA,isFlatScalar,shiftOp,strOp,ordB,readN,sliceCells,lenA,storeA,newA,buildA,fillA,buildSliceA,boundsA,bndA,sliceA,ptrOK,fieldAddrA,fieldA,indexA,extractA,convA,isIntT,biA,bytesOf,setAll,List.replicate,Nat.reduceAdd,Nat.reduceSub,Nat.reduceMul,Nat.reduceLT,Nat.reduceLeDiff,Nat.reduceEqDiff,Int.reduceEq,Int.reduceLT,Int.reduceLE,Int.reduceNe,Int.reduceAdd,Nat.reduceBEq,reduceCtorEq,lenB_nil,lenB_slice,lenB_oslice,lenB_str,lenB_agg,indexAddrA_slice,indexAddrA_oslice,indexAddrA_ptr,indexAddrA_optr,loadA_ptr,loadA_optr,lenK,indexK,loadK,Int.reduceBEq,Int.reduceBNe,Int.reduceMod,Int.reduceDiv,Int.reduceTDiv,Int.reduceTMod,Int.reduceFDiv,Int.reduceSub,Int.reduceNeg,Int.reduceGT,Int.reduceGE,BitVec.reduceOfInt,BitVec.reduceAnd,BitVec.reduceOr,BitVec.reduceXOr,BitVec.reduceToNat,Int.reduceToNat,Int.reducePow,Int.reduceMul,hT.all,Tryz.f76]
  refine hS.call hb ?_
  rintro v h rfl
  simp only [gX,gT,gM,gL,gB,wantedA,evOp,opv,absC,absC0,isAggT,resA,resultA,binA,eqA,eqGuardA,isConstA,isFlatScalar,shiftOp,strOp,ordB,readN,sliceCells,lenA,storeA,newA,buildA,fillA,buildSliceA,boundsA,bndA,sliceA,ptrOK,fieldAddrA,fieldA,indexA,extractA,convA,isIntT,biA,bytesOf,setAll,List.replicate,Nat.reduceAdd,Nat.reduceSub,Nat.reduceMul,Nat.reduceLT,Nat.reduceLeDiff,Nat.reduceEqDiff,Int.reduceEq,Int.reduceLT,Int.reduceLE,Int.reduceNe,Int.reduceAdd,Nat.reduceBEq,reduceCtorEq,lenB_nil,lenB_slice,lenB_oslice,lenB_str,lenB_agg,indexAddrA_slice,indexAddrA_oslice,indexAddrA_ptr,indexAddrA_optr,loadA_ptr,loadA_optr,lenK,indexK,loadK,Int.reduceBEq,Int.reduceBNe,Int.reduceMod,Int.reduceDiv,Int.reduceTDiv,Int.reduceTMod,Int.reduceFDiv,Int.reduceSub,Int.reduceNeg,Int.reduceGT,Int.reduceGE,BitVec.reduceOfInt,BitVec.reduceAnd,BitVec.reduceOr,BitVec.reduceXOr,BitVec.reduceToNat,Int.reduceToNat,Int.reducePow,Int.reduceMul,hT.all]
  try rfl

end Go.Proofs.YtpddepehlinfnaaGreatDoor.B
