/- Part of a claim: bytes in digits: both ways of reading them. -/
import Derived.Test.YtmecikblalignaaDoorX3
set_option linter.unusedSimpArgs false
set_option linter.unusedVariables false
set_option maxRecDepth 100000
set_option maxHeartbeats 10000000
namespace Go.Proofs.YtmecikblalignaaDoor.B
open Go Go.RowKit Go.Proofs.YtmecikblalignaaDoor.E

theorem setAll_one {cells : List AV} {i : Nat} {x : AV} : setAll cells i [x] = cells.set i x := rfl

/-- One cell of a slice stored. -/
theorem store1 {T : Tab} {H : Heap} {w : AV} {o : Option Nat} {cells : List AV} {i : Nat} {x : AV} {el : TypeId} {j : TI} (h : Rep el 1 H w o cells) (hi : i < cells.length) (hx : cellsOf x = [x]) (hc : isCell x = true) (he : T el = some j) (hj : j.size = 1) :
    ∃ (b : Nat) (B : HB), o = some b ∧ storeA T H el (placeA w i 1) x = some (H.set b B) ∧ Rep el 1 (H.set b B) w o (cells.set i x) := by
  cases h with
  | nil => simp at hi
  | empty b ep sep h1 h2 => simp at hi
  | own b ep sep n _ h1 h2 h3 =>
    refine ⟨b, .c (cells.set i x) el ep ep, rfl, ?_, .own b ep ep n _ (by rw [List.getElem?_set_self (lt_of_get h1)]) (Nat.le_refl _) (by rw [List.length_set]; exact h3)⟩
    have e : 0 + i * 1 = i := by omega
    simp only [storeA, placeA, he, h1, hx, hj, List.length_cons, List.length_nil, e, List.all_cons, List.all_nil, hc, setAll_one]
    rw [if_pos ⟨trivial, trivial, by omega, rfl⟩]

/-- What is read of the first k digits. -/
def part (s : List UInt8) (k : Nat) : List UInt8 := fu s (k / 2) ++ (if k % 2 = 1 then [UInt8.ofNat (16 * dg (s.getD (k - 1) 0))] else [])
theorem part_even {s : List UInt8} {k : Nat} (h : k % 2 = 0) : part s k = fu s (k / 2) := by unfold part; rw [if_neg (by omega), List.append_nil]
theorem part_odd {s : List UInt8} {k : Nat} {c : UInt8} (h : k % 2 = 0) (hc : s[k]? = some c) : part s (k + 1) = fu s (k / 2) ++ [UInt8.ofNat (16 * dg c)] := by
  unfold part
  rw [if_pos (by omega), show (k + 1) / 2 = k / 2 by omega, show k + 1 - 1 = k by omega, List.getD_eq_getElem?_getD, hc]; rfl
theorem part_next {s : List UInt8} {k : Nat} {b c : UInt8} (h : k % 2 = 1) (hb : s[k - 1]? = some b) (hc : s[k]? = some c) : part s (k + 1) = fu s (k / 2) ++ [UInt8.ofNat (16 * dg b + dg c)] := by
  rw [part_even (by omega), show (k + 1) / 2 = k / 2 + 1 by omega, fu_succ]
  unfold byt
  rw [show 2 * (k / 2) = k - 1 by omega, show k - 1 + 1 = k by omega, List.getD_eq_getElem?_getD, List.getD_eq_getElem?_getD, hb, hc]; rfl

/-- The bytes and the error. -/
def outH (s : List UInt8) : List UInt8 := if okH s then fu s (s.length / 2) else []
def errH (s : List UInt8) : Int := if okH s then 0 else 2
theorem ok_no {s : List UInt8} {k : Nat} {c : UInt8} (hc : s[k]? = some c) (hd : ¬ dg c < 16) : okH s = false := by
  rw [← Bool.not_eq_true]
  unfold okH
  intro h
  rw [Bool.and_eq_true, List.all_eq_true] at h
  exact hd (of_decide_eq_true (h.2 c (List.mem_of_getElem? hc)))
theorem ok_odd {s : List UInt8} (h : s.length % 2 = 1) : okH s = false := by
  unfold okH; rw [h]; rfl
theorem ok_all {s : List UInt8} (h : s.length % 2 = 0) (hd : ∀ j c, j < s.length → s[j]? = some c → dg c < 16) : okH s = true := by
  unfold okH
  rw [h, Bool.and_eq_true, List.all_eq_true]
  refine ⟨rfl, fun c hc => ?_⟩
  obtain ⟨j, hj⟩ := List.mem_iff_getElem?.1 hc
  exact decide_eq_true (hd j c (List.getElem?_eq_some_iff.1 hj).1 hj)

theorem tmod2 (n : Nat) : (n : Int).tmod 2 = ((n % 2 : Nat) : Int) := by rw [Int.tmod_eq_emod_of_nonneg (by omega)]; omega
theorem u8_nat {n : Nat} (h : n < 256) : (((UInt8.ofNat n).toNat : Nat) : Int) = (n : Int) := by rw [UInt8.toNat_ofNat_of_lt' (by show _ < 256; omega)]

/-- What reading answers. -/
def UnA (H h : Heap) (r : AV) (s : List UInt8) : Prop := ∃ (w : AV) (o : Option Nat), r = .tup [w, .int .i64 (errH s)] ∧ Rep 5 1 h w o (cellsB (outH s)) ∧ Fr [] H h

theorem pUnhex (M : Addr → Option AV) (hM : ∀ a v, tabM a = some v → M a = some v) (H : Heap) {s : List UInt8} (hl : s.length ≤ 300000000) :
    SemF Tryd.prog M 16 [.str s] H fun r h => UnA H h r s := by
  refine fw Tryd.func16 (by kernel_rfl) rfl (by kernel_rfl) fun C L T hT hS => ?_
  have tm := tmod2 s.length
  rcases Nat.mod_two_eq_zero_or_one s.length with h2 | h2
  rotate_left
  · have b1 : ((s.length % 2 : Nat) : Int) = 1 := by omega
    rw [b1] at tm
    simp only [gX,gM,gL,gB,List.map_cons,List.map_nil,wantedA,evOp,opv,absC,absC0,isAggT,resA,resultA,binA,eqA,eqGuardA,isConstA,isFlatScalar,shiftOp,strOp,ordB,readN,sliceCells,lenA,storeA,newA,buildA,fillA,buildSliceA,boundsA,bndA,sliceA,ptrOK,fieldAddrA,fieldA,indexA,extractA,convA,isIntT,biA,bytesOf,setAll,List.replicate,List.cons.injEq,exists_eq_left',exists_eq_left,exists_eq_right',eq_self,Option.map_some,Option.map_none,Option.bind_some,Option.bind_none,Option.some.injEq,Prod.mk.injEq,Nat.reduceAdd,Nat.reduceSub,Nat.reduceMul,Nat.reduceLT,Nat.reduceLeDiff,Nat.reduceEqDiff,Int.reduceEq,Int.reduceLT,Int.reduceLE,Int.reduceNe,Int.reduceAdd,beq_self_eq_true,Option.bind_eq_bind,Option.pure_def,bind_pure_comp,Option.map_eq_map,decide_eq_true_eq,ne_eq,not_false_eq_true,not_true_eq_false,Nat.lt_irrefl,Nat.reduceBEq,if_true,if_false,ite_true,ite_false,reduceCtorEq,Bool.false_eq_true,lenB_nil,lenB_slice,lenB_oslice,lenB_str,lenB_agg,indexAddrA_slice,indexAddrA_oslice,indexAddrA_ptr,indexAddrA_optr,loadA_ptr,loadA_optr,lenK,indexK,loadK,Option.toList_some,Option.toList_none,Int.reduceBEq,Int.reduceBNe,Int.reduceMod,Int.reduceDiv,Int.reduceTDiv,Int.reduceTMod,Int.reduceFDiv,Int.reduceSub,Int.reduceNeg,Int.reduceGT,Int.reduceGE,BitVec.reduceOfInt,BitVec.reduceAnd,BitVec.reduceOr,BitVec.reduceXOr,BitVec.reduceToNat,Int.cast_ofNat_Int,Int.reduceToNat,Int.reducePow,Nat.min_eq_left,Int.reduceMul,List.mapM_cons,List.mapM_nil,hT.all,Tryd.f16,tm]
    exact ⟨_, none, by unfold errH; rw [ok_odd h2]; rfl, by unfold outH; rw [ok_odd h2]; exact .nil, Fr.refl _ _⟩
  have b1 : ((s.length % 2 : Nat) : Int) = 0 := by omega
  rw [b1] at tm
  simp only [gX,gM,gL,gB,List.map_cons,List.map_nil,wantedA,evOp,opv,absC,absC0,isAggT,resA,resultA,binA,eqA,eqGuardA,isConstA,isFlatScalar,shiftOp,strOp,ordB,readN,sliceCells,lenA,storeA,newA,buildA,fillA,buildSliceA,boundsA,bndA,sliceA,ptrOK,fieldAddrA,fieldA,indexA,extractA,convA,isIntT,biA,bytesOf,setAll,List.replicate,List.cons.injEq,exists_eq_left',exists_eq_left,exists_eq_right',eq_self,Option.map_some,Option.map_none,Option.bind_some,Option.bind_none,Option.some.injEq,Prod.mk.injEq,Nat.reduceAdd,Nat.reduceSub,Nat.reduceMul,Nat.reduceLT,Nat.reduceLeDiff,Nat.reduceEqDiff,Int.reduceEq,Int.reduceLT,Int.reduceLE,Int.reduceNe,Int.reduceAdd,beq_self_eq_true,Option.bind_eq_bind,Option.pure_def,bind_pure_comp,Option.map_eq_map,decide_eq_true_eq,ne_eq,not_false_eq_true,not_true_eq_false,Nat.lt_irrefl,Nat.reduceBEq,if_true,if_false,ite_true,ite_false,reduceCtorEq,Bool.false_eq_true,lenB_nil,lenB_slice,lenB_oslice,lenB_str,lenB_agg,indexAddrA_slice,indexAddrA_oslice,indexAddrA_ptr,indexAddrA_optr,loadA_ptr,loadA_optr,lenK,indexK,loadK,Option.toList_some,Option.toList_none,Int.reduceBEq,Int.reduceBNe,Int.reduceMod,Int.reduceDiv,Int.reduceTDiv,Int.reduceTMod,Int.reduceFDiv,Int.reduceSub,Int.reduceNeg,Int.reduceGT,Int.reduceGE,BitVec.reduceOfInt,BitVec.reduceAnd,BitVec.reduceOr,BitVec.reduceXOr,BitVec.reduceToNat,Int.cast_ofNat_Int,Int.reduceToNat,Int.reducePow,Nat.min_eq_left,Int.reduceMul,List.mapM_cons,List.mapM_nil,hT.all,Tryd.f16,tm,rangeA]
  refine hS.loop (fun m e h => ∃ (k : Nat) (o : Option Nat) (w : AV) (j1 j5 j6 j7 j8 j9 j10 j11 j12 j14 j15 j16 j17 j18 j19 j20 j21 j22 j23 j24 j25 j26 j27 j28 j29 j30 j31 j32 j33 j34 j35 j36 j37 j38 j39 j40 j41 : AV), e = [.str s, j1, .nilslice, .int .i64 0, w, j5, j6, j7, j8, j9, j10, j11, j12, .ptr H.length 0 0, j14, j15, j16, j17, j18, j19, j20, j21, j22, j23, j24, j25, j26, j27, j28, j29, j30, j31, j32, j33, j34, j35, j36, j37, j38, j39, j40, j41] ∧ k + m = s.length ∧ (∀ j c, j < k → s[j]? = some c → dg c < 16) ∧ h[H.length]? = some (.it s k) ∧ Fr [] H h ∧ Rep 5 1 h w o (cellsB (part s k)) ∧ (∀ b, o = some b → H.length < b)) s.length ⟨0, none, .nilslice, _, _, _, _, _, _, _, _, _, _, _, _, _, _, _, _, _, _, _, _, _, _, _, _, _, _, _, _, _, _, _, _, _, _, _, _, _, rfl, by omega, (fun j c h => absurd h (by omega)), (show (H ++ [HB.it s 0])[H.length]? = some (.it s 0) from hp_get0.trans rfl), Fr.app H [HB.it s 0], .nil, by simp⟩ ?_
  rintro m e h ⟨k, o, w, j1, j5, j6, j7, j8, j9, j10, j11, j12, j14, j15, j16, j17, j18, j19, j20, j21, j22, j23, j24, j25, j26, j27, j28, j29, j30, j31, j32, j33, j34, j35, j36, j37, j38, j39, j40, j41, rfl, hk, hd, h0, hF, hr, ho⟩ J hJ
  cases m with
  | zero =>
    have b2 : ¬ k < s.length := by omega
    have hk2 : k = s.length := by omega
    have hok := ok_all h2 (fun j c hj hc => hd j c (by omega) hc)
    simp only [gX,gM,gL,gB,List.map_cons,List.map_nil,wantedA,evOp,opv,absC,absC0,isAggT,resA,resultA,binA,eqA,eqGuardA,isConstA,isFlatScalar,shiftOp,strOp,ordB,readN,sliceCells,lenA,storeA,newA,buildA,fillA,buildSliceA,boundsA,bndA,sliceA,ptrOK,fieldAddrA,fieldA,indexA,extractA,convA,isIntT,biA,bytesOf,setAll,List.replicate,List.cons.injEq,exists_eq_left',exists_eq_left,exists_eq_right',eq_self,Option.map_some,Option.map_none,Option.bind_some,Option.bind_none,Option.some.injEq,Prod.mk.injEq,Nat.reduceAdd,Nat.reduceSub,Nat.reduceMul,Nat.reduceLT,Nat.reduceLeDiff,Nat.reduceEqDiff,Int.reduceEq,Int.reduceLT,Int.reduceLE,Int.reduceNe,Int.reduceAdd,beq_self_eq_true,Option.bind_eq_bind,Option.pure_def,bind_pure_comp,Option.map_eq_map,decide_eq_true_eq,ne_eq,not_false_eq_true,not_true_eq_false,Nat.lt_irrefl,Nat.reduceBEq,if_true,if_false,ite_true,ite_false,reduceCtorEq,Bool.false_eq_true,lenB_nil,lenB_slice,lenB_oslice,lenB_str,lenB_agg,indexAddrA_slice,indexAddrA_oslice,indexAddrA_ptr,indexAddrA_optr,loadA_ptr,loadA_optr,lenK,indexK,loadK,Option.toList_some,Option.toList_none,Int.reduceBEq,Int.reduceBNe,Int.reduceMod,Int.reduceDiv,Int.reduceTDiv,Int.reduceTMod,Int.reduceFDiv,Int.reduceSub,Int.reduceNeg,Int.reduceGT,Int.reduceGE,BitVec.reduceOfInt,BitVec.reduceAnd,BitVec.reduceOr,BitVec.reduceXOr,BitVec.reduceToNat,Int.cast_ofNat_Int,Int.reduceToNat,Int.reducePow,Nat.min_eq_left,Int.reduceMul,List.mapM_cons,List.mapM_nil,hT.all,nextA,h0,b2]
    refine ⟨w, o, ?_, ?_, hF⟩
    · unfold errH; rw [hok]; rfl
    · unfold outH; rw [hok, if_pos rfl, ← part_even h2, ← hk2]; exact hr
  | succ m =>
    have b2 : k < s.length := by omega
    obtain ⟨c, hc⟩ : ∃ c, s[k]? = some c := ⟨_, List.getElem?_eq_getElem b2⟩
    have hlt := lt_of_get h0
    by_cases hdc : dg c < 16
    rotate_left
    · have hno := ok_no hc hdc
      have hrn := decode_ok s k
      have hr1 : dgR (decodeA s k).1 = -1 := by
        by_cases hc7 : c.toNat < 128
        · rw [decode_low hc hc7]; exact dgR_none hdc
        · exact dgR_hi (decode_hi hc (by omega))
      obtain ⟨D, hD⟩ : ∃ D, D = decodeA s k := ⟨_, rfl⟩
      rw [← hD] at hrn hr1
      have hpr := fun H => pRune M hM H (r := D.1) hrn
      rw [hr1] at hpr
      unfold hexd at hpr
      simp only [gX,gM,gL,gB,List.map_cons,List.map_nil,wantedA,evOp,opv,absC,absC0,isAggT,resA,resultA,binA,eqA,eqGuardA,isConstA,isFlatScalar,shiftOp,strOp,ordB,readN,sliceCells,lenA,storeA,newA,buildA,fillA,buildSliceA,boundsA,bndA,sliceA,ptrOK,fieldAddrA,fieldA,indexA,extractA,convA,isIntT,biA,bytesOf,setAll,List.replicate,List.cons.injEq,exists_eq_left',exists_eq_left,exists_eq_right',eq_self,Option.map_some,Option.map_none,Option.bind_some,Option.bind_none,Option.some.injEq,Prod.mk.injEq,Nat.reduceAdd,Nat.reduceSub,Nat.reduceMul,Nat.reduceLT,Nat.reduceLeDiff,Nat.reduceEqDiff,Int.reduceEq,Int.reduceLT,Int.reduceLE,Int.reduceNe,Int.reduceAdd,beq_self_eq_true,Option.bind_eq_bind,Option.pure_def,bind_pure_comp,Option.map_eq_map,decide_eq_true_eq,ne_eq,not_false_eq_true,not_true_eq_false,Nat.lt_irrefl,Nat.reduceBEq,if_true,if_false,ite_true,ite_false,reduceCtorEq,Bool.false_eq_true,lenB_nil,lenB_slice,lenB_oslice,lenB_str,lenB_agg,indexAddrA_slice,indexAddrA_oslice,indexAddrA_ptr,indexAddrA_optr,loadA_ptr,loadA_optr,lenK,indexK,loadK,Option.toList_some,Option.toList_none,Int.reduceBEq,Int.reduceBNe,Int.reduceMod,Int.reduceDiv,Int.reduceTDiv,Int.reduceTMod,Int.reduceFDiv,Int.reduceSub,Int.reduceNeg,Int.reduceGT,Int.reduceGE,BitVec.reduceOfInt,BitVec.reduceAnd,BitVec.reduceOr,BitVec.reduceXOr,BitVec.reduceToNat,Int.cast_ofNat_Int,Int.reduceToNat,Int.reducePow,Nat.min_eq_left,Int.reduceMul,List.mapM_cons,List.mapM_nil,hT.all,nextA,h0,b2,← hD]
      refine hS.one (hpr _) ?_
      simp only [gX,gM,gL,gB,List.map_cons,List.map_nil,wantedA,evOp,opv,absC,absC0,isAggT,resA,resultA,binA,eqA,eqGuardA,isConstA,isFlatScalar,shiftOp,strOp,ordB,readN,sliceCells,lenA,storeA,newA,buildA,fillA,buildSliceA,boundsA,bndA,sliceA,ptrOK,fieldAddrA,fieldA,indexA,extractA,convA,isIntT,biA,bytesOf,setAll,List.replicate,List.cons.injEq,exists_eq_left',exists_eq_left,exists_eq_right',eq_self,Option.map_some,Option.map_none,Option.bind_some,Option.bind_none,Option.some.injEq,Prod.mk.injEq,Nat.reduceAdd,Nat.reduceSub,Nat.reduceMul,Nat.reduceLT,Nat.reduceLeDiff,Nat.reduceEqDiff,Int.reduceEq,Int.reduceLT,Int.reduceLE,Int.reduceNe,Int.reduceAdd,beq_self_eq_true,Option.bind_eq_bind,Option.pure_def,bind_pure_comp,Option.map_eq_map,decide_eq_true_eq,ne_eq,not_false_eq_true,not_true_eq_false,Nat.lt_irrefl,Nat.reduceBEq,if_true,if_false,ite_true,ite_false,reduceCtorEq,Bool.false_eq_true,lenB_nil,lenB_slice,lenB_oslice,lenB_str,lenB_agg,indexAddrA_slice,indexAddrA_oslice,indexAddrA_ptr,indexAddrA_optr,loadA_ptr,loadA_optr,lenK,indexK,loadK,Option.toList_some,Option.toList_none,Int.reduceBEq,Int.reduceBNe,Int.reduceMod,Int.reduceDiv,Int.reduceTDiv,Int.reduceTMod,Int.reduceFDiv,Int.reduceSub,Int.reduceNeg,Int.reduceGT,Int.reduceGE,BitVec.reduceOfInt,BitVec.reduceAnd,BitVec.reduceOr,BitVec.reduceXOr,BitVec.reduceToNat,Int.cast_ofNat_Int,Int.reduceToNat,Int.reducePow,Nat.min_eq_left,Int.reduceMul,List.mapM_cons,List.mapM_nil,hT.all]
      exact ⟨_, none, by unfold errH; rw [hno]; rfl, by unfold outH; rw [hno]; exact .nil, hF.trans (Fr.set _ _ _) (by simp)⟩
    · have hc7 := dg_low hdc
      have hdec := decode_low hc hc7
      have hrn : c.toNat = 65533 ∨ Utf8.valid (c.toNat : Int) = true := .inr (by
        unfold Utf8.valid
        simp only [Bool.or_eq_true, Bool.and_eq_true, decide_eq_true_eq]
        omega)
      have hpr := fun H => pRune M hM H (r := c.toNat) hrn
      rw [dgR_low hdc] at hpr
      unfold hexd at hpr
      obtain ⟨d, hde⟩ : ∃ d, d = dg c := ⟨_, rfl⟩
      have hd' : ∀ j c, j < k + 1 → s[j]? = some c → dg c < 16 := by
        intro j c' hj hc'
        by_cases hjk : j = k
        · rw [hjk, hc] at hc'; rw [← Option.some.inj hc']; exact hdc
        · exact hd j c' (by omega) hc'
      rw [← hde] at hpr
      have hd16 : d < 16 := by omega
      have n0 : ¬ (d : Int) < 0 := by omega
      have tk := tmod2 k
      have w1 : IntKind.u8.wrap ((16 * d : Nat) : Int) = ((16 * d : Nat) : Int) := by rw [w8]; omega
      have w2 : IntKind.u8.wrap (d : Int) = (d : Int) := by rw [w8]; omega
      have hsh := shl64 hd16
      have hF1 : Fr [H.length] h (h.set H.length (.it s (k + 1))) := Fr.set _ _ _
      have hr1 := hr.mono hF1 (by intro b hb; have := ho b hb; simp; omega)
      have hit : (h.set H.length (.it s (k + 1)))[H.length]? = some (.it s (k + 1)) := by rw [List.getElem?_set_self hlt]
      have hFF : Fr [] H (h.set H.length (.it s (k + 1))) := hF.trans hF1 (by simp)
      have hpl : (part s k).length ≤ 300000000 := by unfold part; rw [List.length_append, fu_len]; split <;> simp <;> omega
      obtain ⟨h1, hh1⟩ : ∃ h1, h1 = h.set H.length (.it s (k + 1)) := ⟨_, rfl⟩
      rw [← hh1] at hr1 hit hFF
      rcases Nat.mod_two_eq_zero_or_one k with p2 | p2
      · have p3 : ((k % 2 : Nat) : Int) = 0 := by omega
        rw [p3] at tk
        have hpo := part_odd p2 hc
        rw [← hde] at hpo
        rw [part_even p2] at hr1 hpl
        have hFx : Fr [] h1 (h1 ++ [.c [u8 (UInt8.ofNat (16 * d))] 5 0 0]) := Fr.app _ _
        obtain ⟨w', o2, h2', hap, hr2, hf2, hn⟩ := appB hT (M := M) (hr1.mono hFx (by simp)) (t2 := 23) (x := .slice h1.length 0 0 1 1 (some 1)) (new := [UInt8.ofNat (16 * d)]) hT.ty23 rfl rfl (by simp [sliceCells]) (by simp only [List.length_singleton]; omega)
        have hit2 : h2'[H.length]? = some (.it s (k + 1)) := hf2.get (hFx.get hit (by simp)) (by
          cases o with
          | none => simp
          | some b => have := ho b rfl; simp; omega)
        have ho2 : ∀ b, o2 = some b → H.length < b := by
          intro b hb
          rcases hn with e | ⟨b', e, hb'⟩
          · exact ho b (by rw [← e]; exact hb)
          · rw [e] at hb; cases hb
            have := lt_of_get hit
            simp at hb'; omega
        have hF2 : Fr [] H h2' := (hFF.trans hFx (by simp)).trans hf2 (by
          intro b hb
          cases o with
          | none => simp at hb
          | some b' => have := ho b' rfl; simp at hb; right; omega)
        unfold u8 at hap
        rw [u8_nat (by omega)] at hap
        simp only [gX,gM,gL,gB,List.map_cons,List.map_nil,wantedA,evOp,opv,absC,absC0,isAggT,resA,resultA,binA,eqA,eqGuardA,isConstA,isFlatScalar,shiftOp,strOp,ordB,readN,sliceCells,lenA,storeA,newA,buildA,fillA,buildSliceA,boundsA,bndA,sliceA,ptrOK,fieldAddrA,fieldA,indexA,extractA,convA,isIntT,biA,bytesOf,setAll,List.replicate,List.cons.injEq,exists_eq_left',exists_eq_left,exists_eq_right',eq_self,Option.map_some,Option.map_none,Option.bind_some,Option.bind_none,Option.some.injEq,Prod.mk.injEq,Nat.reduceAdd,Nat.reduceSub,Nat.reduceMul,Nat.reduceLT,Nat.reduceLeDiff,Nat.reduceEqDiff,Int.reduceEq,Int.reduceLT,Int.reduceLE,Int.reduceNe,Int.reduceAdd,beq_self_eq_true,Option.bind_eq_bind,Option.pure_def,bind_pure_comp,Option.map_eq_map,decide_eq_true_eq,ne_eq,not_false_eq_true,not_true_eq_false,Nat.lt_irrefl,Nat.reduceBEq,if_true,if_false,ite_true,ite_false,reduceCtorEq,Bool.false_eq_true,lenB_nil,lenB_slice,lenB_oslice,lenB_str,lenB_agg,indexAddrA_slice,indexAddrA_oslice,indexAddrA_ptr,indexAddrA_optr,loadA_ptr,loadA_optr,lenK,indexK,loadK,Option.toList_some,Option.toList_none,Int.reduceBEq,Int.reduceBNe,Int.reduceMod,Int.reduceDiv,Int.reduceTDiv,Int.reduceTMod,Int.reduceFDiv,Int.reduceSub,Int.reduceNeg,Int.reduceGT,Int.reduceGE,BitVec.reduceOfInt,BitVec.reduceAnd,BitVec.reduceOr,BitVec.reduceXOr,BitVec.reduceToNat,Int.cast_ofNat_Int,Int.reduceToNat,Int.reducePow,Nat.min_eq_left,Int.reduceMul,List.mapM_cons,List.mapM_nil,hT.all,nextA,h0,b2,hdec,← hh1]
        refine hS.one (hpr _) ?_
        simp only [gX,gM,gL,gB,List.map_cons,List.map_nil,wantedA,evOp,opv,absC,absC0,isAggT,resA,resultA,binA,eqA,eqGuardA,isConstA,isFlatScalar,strOp,ordB,readN,sliceCells,lenA,storeA,newA,buildA,fillA,buildSliceA,boundsA,bndA,sliceA,ptrOK,fieldAddrA,fieldA,indexA,extractA,convA,isIntT,biA,bytesOf,setAll,List.replicate,List.cons.injEq,exists_eq_left',exists_eq_left,exists_eq_right',eq_self,Option.map_some,Option.map_none,Option.bind_some,Option.bind_none,Option.some.injEq,Prod.mk.injEq,Nat.reduceAdd,Nat.reduceSub,Nat.reduceMul,Nat.reduceLT,Nat.reduceLeDiff,Nat.reduceEqDiff,Int.reduceEq,Int.reduceLT,Int.reduceLE,Int.reduceNe,Int.reduceAdd,beq_self_eq_true,Option.bind_eq_bind,Option.pure_def,bind_pure_comp,Option.map_eq_map,decide_eq_true_eq,ne_eq,not_false_eq_true,not_true_eq_false,Nat.lt_irrefl,Nat.reduceBEq,if_true,if_false,ite_true,ite_false,reduceCtorEq,Bool.false_eq_true,lenB_nil,lenB_slice,lenB_oslice,lenB_str,lenB_agg,indexAddrA_slice,indexAddrA_oslice,indexAddrA_ptr,indexAddrA_optr,loadA_ptr,loadA_optr,lenK,indexK,loadK,Option.toList_some,Option.toList_none,Int.reduceBEq,Int.reduceBNe,Int.reduceMod,Int.reduceDiv,Int.reduceTDiv,Int.reduceTMod,Int.reduceFDiv,Int.reduceSub,Int.reduceNeg,Int.reduceGT,Int.reduceGE,BitVec.reduceOfInt,BitVec.reduceAnd,BitVec.reduceOr,BitVec.reduceXOr,BitVec.reduceToNat,Int.cast_ofNat_Int,Int.reduceToNat,Int.reducePow,Nat.min_eq_left,Int.reduceMul,List.mapM_cons,List.mapM_nil,hT.all,n0,tk,hsh,w1,hap]
        exact hJ m _ _ _ (by omega) (Weak.refl _) ⟨k + 1, o2, w', _, _, _, _, _, _, _, _, _, _, _, _, _, _, _, _, _, _, _, _, _, _, _, _, _, _, _, _, _, _, _, _, _, _, _, _, _, rfl, by omega, hd', hit2, hF2, by rw [hpo]; exact hr2, ho2⟩
      · have p3 : ((k % 2 : Nat) : Int) = 1 := by omega
        rw [p3] at tk
        obtain ⟨b, hb⟩ : ∃ b, s[k - 1]? = some b := ⟨_, List.getElem?_eq_getElem (by omega)⟩
        have hdb := hd (k - 1) b (by omega) hb
        have hpo : part s k = fu s (k / 2) ++ [UInt8.ofNat (16 * dg b)] := by
          have := part_odd (s := s) (k := k - 1) (by omega) hb
          rw [show k - 1 + 1 = k by omega, show (k - 1) / 2 = k / 2 by omega] at this
          exact this
        have hpn := part_next p2 hb hc
        obtain ⟨d', hde'⟩ : ∃ d, d = dg b := ⟨_, rfl⟩
        rw [← hde'] at hdb hpo hpn
        rw [← hde] at hpn
        rw [hpo] at hr1 hpl
        have hcl : (cellsB (fu s (k / 2) ++ [UInt8.ofNat (16 * d')])).length = k / 2 + 1 := by simp [fu_len]
        have hln := (hr1.sees (M := M)).lenB (T := T) (ts := []) (n := k / 2 + 1) (by rw [hcl]; omega) (by omega) hT.ty23 rfl
        have hi1 : IntKind.i64.wrap (((k / 2 + 1 : Nat) : Int) - 1) = ((k / 2 : Nat) : Int) := by rw [wrap_i64 (by omega) (by omega)]; omega
        have hin : (((k / 2 : Nat) : Int)).toNat = k / 2 := Int.toNat_natCast _
        have hia := (hr1.sees (M := M)).index (T := T) (k := .i64) (n := ((k / 2 : Nat) : Int)) (by omega) (by rw [hin, hcl]; omega) (by omega) hT.ty23 rfl hT.ty5 rfl
        have hcx : (cellsB (fu s (k / 2) ++ [UInt8.ofNat (16 * d')]))[k / 2]? = some (.int .u8 ((16 * d' : Nat) : Int)) := by
          rw [List.getElem?_map, List.getElem?_append_right (by rw [fu_len]; omega), fu_len, Nat.sub_self]
          show some (u8 _) = _
          unfold u8; rw [u8_nat (by omega)]
        have hld := (hr1.sees (M := M)).load (T := T) (n := k / 2) hcx hT.ty5 rfl
        have ho8 := or8 hdb hd16
        obtain ⟨bb, B, hob, hst, hr2⟩ := store1 (T := T) (x := .int .u8 ((16 * d' + d : Nat) : Int)) hr1 (i := k / 2) (by rw [hcl]; omega) rfl rfl hT.ty5 rfl
        have hset : (cellsB (fu s (k / 2) ++ [UInt8.ofNat (16 * d')])).set (k / 2) (.int .u8 ((16 * d' + d : Nat) : Int)) = cellsB (part s (k + 1)) := by
          rw [hpn]
          unfold cellsB
          rw [List.map_append, List.map_append, List.set_append_right _ _ (by rw [List.length_map, fu_len]; omega), List.length_map, fu_len, Nat.sub_self]
          show _ ++ [_] = _ ++ [u8 _]
          unfold u8; rw [u8_nat (by omega)]
        rw [hset] at hr2
        have hbl := ho bb hob
        have hit2 : (h1.set bb B)[H.length]? = some (.it s (k + 1)) := by rw [List.getElem?_set_ne (by omega)]; exact hit
        have hF2 : Fr [] H (h1.set bb B) := hFF.trans (Fr.set _ _ _) (by intro x hx; rw [List.mem_singleton] at hx; right; omega)
        simp only [gX,gM,gL,gB,List.map_cons,List.map_nil,wantedA,evOp,opv,absC,absC0,isAggT,resA,resultA,binA,eqA,eqGuardA,isConstA,isFlatScalar,shiftOp,strOp,ordB,readN,sliceCells,lenA,storeA,newA,buildA,fillA,buildSliceA,boundsA,bndA,sliceA,ptrOK,fieldAddrA,fieldA,indexA,extractA,convA,isIntT,biA,bytesOf,setAll,List.replicate,List.cons.injEq,exists_eq_left',exists_eq_left,exists_eq_right',eq_self,Option.map_some,Option.map_none,Option.bind_some,Option.bind_none,Option.some.injEq,Prod.mk.injEq,Nat.reduceAdd,Nat.reduceSub,Nat.reduceMul,Nat.reduceLT,Nat.reduceLeDiff,Nat.reduceEqDiff,Int.reduceEq,Int.reduceLT,Int.reduceLE,Int.reduceNe,Int.reduceAdd,beq_self_eq_true,Option.bind_eq_bind,Option.pure_def,bind_pure_comp,Option.map_eq_map,decide_eq_true_eq,ne_eq,not_false_eq_true,not_true_eq_false,Nat.lt_irrefl,Nat.reduceBEq,if_true,if_false,ite_true,ite_false,reduceCtorEq,Bool.false_eq_true,lenB_nil,lenB_slice,lenB_oslice,lenB_str,lenB_agg,indexAddrA_slice,indexAddrA_oslice,indexAddrA_ptr,indexAddrA_optr,loadA_ptr,loadA_optr,lenK,indexK,loadK,Option.toList_some,Option.toList_none,Int.reduceBEq,Int.reduceBNe,Int.reduceMod,Int.reduceDiv,Int.reduceTDiv,Int.reduceTMod,Int.reduceFDiv,Int.reduceSub,Int.reduceNeg,Int.reduceGT,Int.reduceGE,BitVec.reduceOfInt,BitVec.reduceAnd,BitVec.reduceOr,BitVec.reduceXOr,BitVec.reduceToNat,Int.cast_ofNat_Int,Int.reduceToNat,Int.reducePow,Nat.min_eq_left,Int.reduceMul,List.mapM_cons,List.mapM_nil,hT.all,nextA,h0,b2,hdec,← hh1]
        refine hS.one (hpr _) ?_
        simp only [gX,gM,gL,gB,List.map_cons,List.map_nil,wantedA,evOp,opv,absC,absC0,isAggT,resA,resultA,binA,eqA,eqGuardA,isConstA,isFlatScalar,shiftOp,strOp,ordB,readN,sliceCells,lenA,newA,buildA,fillA,buildSliceA,boundsA,bndA,sliceA,ptrOK,fieldAddrA,fieldA,indexA,extractA,convA,isIntT,biA,bytesOf,setAll,List.replicate,List.cons.injEq,exists_eq_left',exists_eq_left,exists_eq_right',eq_self,Option.map_some,Option.map_none,Option.bind_some,Option.bind_none,Option.some.injEq,Prod.mk.injEq,Nat.reduceAdd,Nat.reduceSub,Nat.reduceMul,Nat.reduceLT,Nat.reduceLeDiff,Nat.reduceEqDiff,Int.reduceEq,Int.reduceLT,Int.reduceLE,Int.reduceNe,Int.reduceAdd,beq_self_eq_true,Option.bind_eq_bind,Option.pure_def,bind_pure_comp,Option.map_eq_map,decide_eq_true_eq,ne_eq,not_false_eq_true,not_true_eq_false,Nat.lt_irrefl,Nat.reduceBEq,if_true,if_false,ite_true,ite_false,reduceCtorEq,Bool.false_eq_true,lenB_nil,lenB_slice,lenB_oslice,lenB_str,lenB_agg,indexAddrA_slice,indexAddrA_oslice,indexAddrA_ptr,indexAddrA_optr,loadA_ptr,loadA_optr,lenK,indexK,loadK,Option.toList_some,Option.toList_none,Int.reduceBEq,Int.reduceBNe,Int.reduceMod,Int.reduceDiv,Int.reduceTDiv,Int.reduceTMod,Int.reduceFDiv,Int.reduceSub,Int.reduceNeg,Int.reduceGT,Int.reduceGE,BitVec.reduceOfInt,BitVec.reduceAnd,BitVec.reduceOr,BitVec.reduceXOr,BitVec.reduceToNat,Int.cast_ofNat_Int,Int.reduceToNat,Int.reducePow,Nat.min_eq_left,Int.reduceMul,List.mapM_cons,List.mapM_nil,hT.all,n0,tk,hln,hi1,hia,hin,hld,w2,ho8,hst]
        exact hJ m _ _ _ (by omega) (Weak.refl _) ⟨k + 1, o, w, _, _, _, _, _, _, _, _, _, _, _, _, _, _, _, _, _, _, _, _, _, _, _, _, _, _, _, _, _, _, _, _, _, _, _, _, _, rfl, by omega, hd', hit2, hF2, hr2, ho⟩

theorem rUnhex (M : Addr → Option AV) (H : Heap) {s : List UInt8} (hl : s.length ≤ 300000000) :
    SemF Tryd.prog M 17 [.str s] H fun r h => UnA H h r s := by
  refine fw Tryd.func17 (by kernel_rfl) rfl (by kernel_rfl) fun C L T hT hS => ?_
  have tm := tmod2 s.length
  rcases Nat.mod_two_eq_zero_or_one s.length with h2 | h2
  rotate_left
  · have b1 : ((s.length % 2 : Nat) : Int) = 1 := by omega
    rw [b1] at tm
    simp only [gX,gM,gL,gB,List.map_cons,List.map_nil,wantedA,evOp,opv,absC,absC0,isAggT,resA,resultA,binA,eqA,eqGuardA,isConstA,isFlatScalar,shiftOp,strOp,ordB,readN,sliceCells,lenA,storeA,newA,buildA,fillA,buildSliceA,boundsA,bndA,sliceA,ptrOK,fieldAddrA,fieldA,indexA,extractA,convA,isIntT,biA,bytesOf,setAll,List.replicate,List.cons.injEq,exists_eq_left',exists_eq_left,exists_eq_right',eq_self,Option.map_some,Option.map_none,Option.bind_some,Option.bind_none,Option.some.injEq,Prod.mk.injEq,Nat.reduceAdd,Nat.reduceSub,Nat.reduceMul,Nat.reduceLT,Nat.reduceLeDiff,Nat.reduceEqDiff,Int.reduceEq,Int.reduceLT,Int.reduceLE,Int.reduceNe,Int.reduceAdd,beq_self_eq_true,Option.bind_eq_bind,Option.pure_def,bind_pure_comp,Option.map_eq_map,decide_eq_true_eq,ne_eq,not_false_eq_true,not_true_eq_false,Nat.lt_irrefl,Nat.reduceBEq,if_true,if_false,ite_true,ite_false,reduceCtorEq,Bool.false_eq_true,lenB_nil,lenB_slice,lenB_oslice,lenB_str,lenB_agg,indexAddrA_slice,indexAddrA_oslice,indexAddrA_ptr,indexAddrA_optr,loadA_ptr,loadA_optr,lenK,indexK,loadK,Option.toList_some,Option.toList_none,Int.reduceBEq,Int.reduceBNe,Int.reduceMod,Int.reduceDiv,Int.reduceTDiv,Int.reduceTMod,Int.reduceFDiv,Int.reduceSub,Int.reduceNeg,Int.reduceGT,Int.reduceGE,BitVec.reduceOfInt,BitVec.reduceAnd,BitVec.reduceOr,BitVec.reduceXOr,BitVec.reduceToNat,Int.cast_ofNat_Int,Int.reduceToNat,Int.reducePow,Nat.min_eq_left,Int.reduceMul,List.mapM_cons,List.mapM_nil,hT.all,Tryd.f17,tm]
    exact ⟨_, none, by unfold errH; rw [ok_odd h2]; rfl, by unfold outH; rw [ok_odd h2]; exact .nil, Fr.refl _ _⟩
  have b1 : ((s.length % 2 : Nat) : Int) = 0 := by omega
  rw [b1] at tm
  simp only [gX,gM,gL,gB,List.map_cons,List.map_nil,wantedA,evOp,opv,absC,absC0,isAggT,resA,resultA,binA,eqA,eqGuardA,isConstA,isFlatScalar,shiftOp,strOp,ordB,readN,sliceCells,lenA,storeA,newA,buildA,fillA,buildSliceA,boundsA,bndA,sliceA,ptrOK,fieldAddrA,fieldA,indexA,extractA,convA,isIntT,biA,bytesOf,setAll,List.replicate,List.cons.injEq,exists_eq_left',exists_eq_left,exists_eq_right',eq_self,Option.map_some,Option.map_none,Option.bind_some,Option.bind_none,Option.some.injEq,Prod.mk.injEq,Nat.reduceAdd,Nat.reduceSub,Nat.reduceMul,Nat.reduceLT,Nat.reduceLeDiff,Nat.reduceEqDiff,Int.reduceEq,Int.reduceLT,Int.reduceLE,Int.reduceNe,Int.reduceAdd,beq_self_eq_true,Option.bind_eq_bind,Option.pure_def,bind_pure_comp,Option.map_eq_map,decide_eq_true_eq,ne_eq,not_false_eq_true,not_true_eq_false,Nat.lt_irrefl,Nat.reduceBEq,if_true,if_false,ite_true,ite_false,reduceCtorEq,Bool.false_eq_true,lenB_nil,lenB_slice,lenB_oslice,lenB_str,lenB_agg,indexAddrA_slice,indexAddrA_oslice,indexAddrA_ptr,indexAddrA_optr,loadA_ptr,loadA_optr,lenK,indexK,loadK,Option.toList_some,Option.toList_none,Int.reduceBEq,Int.reduceBNe,Int.reduceMod,Int.reduceDiv,Int.reduceTDiv,Int.reduceTMod,Int.reduceFDiv,Int.reduceSub,Int.reduceNeg,Int.reduceGT,Int.reduceGE,BitVec.reduceOfInt,BitVec.reduceAnd,BitVec.reduceOr,BitVec.reduceXOr,BitVec.reduceToNat,Int.cast_ofNat_Int,Int.reduceToNat,Int.reducePow,Nat.min_eq_left,Int.reduceMul,List.mapM_cons,List.mapM_nil,hT.all,Tryd.f17,tm]
  refine hS.loop (fun m e h => ∃ (k : Nat) (o : Option Nat) (w : AV) (j1 j6 j7 j8 j9 j10 j11 j12 j13 j14 j15 j16 j17 j18 j19 j20 j21 j22 j23 j24 j25 j26 j27 j28 j29 j30 j31 j32 j33 j34 j35 j36 j37 j38 j39 j40 : AV), e = [.str s, j1, .nilslice, .int .i64 0, w, .int .i64 ((2 * k : Nat) : Int), j6, j7, j8, j9, j10, j11, j12, j13, j14, j15, j16, j17, j18, j19, j20, j21, j22, j23, j24, j25, j26, j27, j28, j29, j30, j31, j32, j33, j34, j35, j36, j37, j38, j39, j40] ∧ k + m = s.length / 2 ∧ (∀ j c, j < 2 * k → s[j]? = some c → dg c < 16) ∧ Fr [] H h ∧ Rep 5 1 h w o (cellsB (fu s k)) ∧ (∀ b, o = some b → H.length ≤ b)) (s.length / 2) ⟨0, none, .nilslice, _, _, _, _, _, _, _, _, _, _, _, _, _, _, _, _, _, _, _, _, _, _, _, _, _, _, _, _, _, _, _, _, _, _, _, _, rfl, by omega, (fun j c h => absurd h (by omega)), Fr.refl _ _, .nil, by simp⟩ ?_
  rintro m e h ⟨k, o, w, j1, j6, j7, j8, j9, j10, j11, j12, j13, j14, j15, j16, j17, j18, j19, j20, j21, j22, j23, j24, j25, j26, j27, j28, j29, j30, j31, j32, j33, j34, j35, j36, j37, j38, j39, j40, rfl, hk, hd, hF, hr, ho⟩ J hJ
  cases m with
  | zero =>
    have b2 : ¬ ((2 * k : Nat) : Int) < (s.length : Int) := by omega
    have hok := ok_all h2 (fun j c hj hc => hd j c (by omega) hc)
    simp only [gX,gM,gL,gB,List.map_cons,List.map_nil,wantedA,evOp,opv,absC,absC0,isAggT,resA,resultA,binA,eqA,eqGuardA,isConstA,isFlatScalar,shiftOp,strOp,ordB,readN,sliceCells,lenA,storeA,newA,buildA,fillA,buildSliceA,boundsA,bndA,sliceA,ptrOK,fieldAddrA,fieldA,indexA,extractA,convA,isIntT,biA,bytesOf,setAll,List.replicate,List.cons.injEq,exists_eq_left',exists_eq_left,exists_eq_right',eq_self,Option.map_some,Option.map_none,Option.bind_some,Option.bind_none,Option.some.injEq,Prod.mk.injEq,Nat.reduceAdd,Nat.reduceSub,Nat.reduceMul,Nat.reduceLT,Nat.reduceLeDiff,Nat.reduceEqDiff,Int.reduceEq,Int.reduceLT,Int.reduceLE,Int.reduceNe,Int.reduceAdd,beq_self_eq_true,Option.bind_eq_bind,Option.pure_def,bind_pure_comp,Option.map_eq_map,decide_eq_true_eq,ne_eq,not_false_eq_true,not_true_eq_false,Nat.lt_irrefl,Nat.reduceBEq,if_true,if_false,ite_true,ite_false,reduceCtorEq,Bool.false_eq_true,lenB_nil,lenB_slice,lenB_oslice,lenB_str,lenB_agg,indexAddrA_slice,indexAddrA_oslice,indexAddrA_ptr,indexAddrA_optr,loadA_ptr,loadA_optr,lenK,indexK,loadK,Option.toList_some,Option.toList_none,Int.reduceBEq,Int.reduceBNe,Int.reduceMod,Int.reduceDiv,Int.reduceTDiv,Int.reduceTMod,Int.reduceFDiv,Int.reduceSub,Int.reduceNeg,Int.reduceGT,Int.reduceGE,BitVec.reduceOfInt,BitVec.reduceAnd,BitVec.reduceOr,BitVec.reduceXOr,BitVec.reduceToNat,Int.cast_ofNat_Int,Int.reduceToNat,Int.reducePow,Nat.min_eq_left,Int.reduceMul,List.mapM_cons,List.mapM_nil,hT.all,b2]
    refine ⟨w, o, ?_, ?_, hF⟩
    · unfold errH; rw [hok]; rfl
    · unfold outH; rw [hok, if_pos rfl, show s.length / 2 = k by omega]; exact hr
  | succ m =>
    have b2 : ((2 * k : Nat) : Int) < (s.length : Int) := by omega
    obtain ⟨b, hb⟩ : ∃ c, s[2 * k]? = some c := ⟨_, List.getElem?_eq_getElem (by omega)⟩
    obtain ⟨c, hc⟩ : ∃ c, s[2 * k + 1]? = some c := ⟨_, List.getElem?_eq_getElem (by omega)⟩
    have n1 : (0 : Int) ≤ ((2 * k : Nat) : Int) := by omega
    have n2 : (0 : Int) ≤ ((2 * k + 1 : Nat) : Int) := by omega
    have t1 : (((2 * k : Nat) : Int)).toNat = 2 * k := Int.toNat_natCast _
    have t2 : (((2 * k + 1 : Nat) : Int)).toNat = 2 * k + 1 := Int.toNat_natCast _
    have w0 : IntKind.i64.wrap (((2 * k : Nat) : Int) + 1) = ((2 * k + 1 : Nat) : Int) := by rw [wrap_i64 (by omega) (by omega)]; omega
    have w9 : IntKind.i64.wrap (((2 * k : Nat) : Int) + 2) = ((2 * (k + 1) : Nat) : Int) := by rw [wrap_i64 (by omega) (by omega)]; omega
    have hb1 := fun H => rDigit M H b
    have hc1 := fun H => rDigit M H c
    have hdb := dg_le b
    have hdc := dg_le c
    have hfs : fu s (k + 1) = fu s k ++ [UInt8.ofNat (16 * dg b + dg c)] := by
      rw [fu_succ]; unfold byt
      rw [List.getD_eq_getElem?_getD, List.getD_eq_getElem?_getD, hb, hc]; rfl
    have nb : ¬ dg b < 16 → okH s = false := ok_no hb
    have nc : ¬ dg c < 16 → okH s = false := ok_no hc
    have hd' : dg b < 16 → dg c < 16 → ∀ j c, j < 2 * (k + 1) → s[j]? = some c → dg c < 16 := by
      intro g1 g2 j x hj hx
      by_cases e1 : j = 2 * k
      · rw [e1, hb] at hx; rw [← Option.some.inj hx]; exact g1
      by_cases e2 : j = 2 * k + 1
      · rw [e2, hc] at hx; rw [← Option.some.inj hx]; exact g2
      exact hd j x (by omega) hx
    generalize dg b = x at *
    generalize dg c = y at *
    unfold u8 at hb1 hc1
    have bad : okH s = false → UnA H h (.tup [.nilslice, .int .i64 2]) s := fun hno => ⟨_, none, by unfold errH; rw [hno]; rfl, by unfold outH; rw [hno]; exact .nil, hF⟩
    by_cases g1 : x < 16
    rotate_left
    · have e1 : ((x : Int) == 16) = true := by rw [beq_iff_eq]; omega
      simp only [gX,gM,gL,gB,List.map_cons,List.map_nil,wantedA,evOp,opv,absC,absC0,isAggT,resA,resultA,binA,eqA,eqGuardA,isConstA,isFlatScalar,shiftOp,strOp,ordB,readN,sliceCells,lenA,storeA,newA,buildA,fillA,buildSliceA,boundsA,bndA,sliceA,ptrOK,fieldAddrA,fieldA,indexA,extractA,convA,isIntT,biA,bytesOf,setAll,List.replicate,List.cons.injEq,exists_eq_left',exists_eq_left,exists_eq_right',eq_self,Option.map_some,Option.map_none,Option.bind_some,Option.bind_none,Option.some.injEq,Prod.mk.injEq,Nat.reduceAdd,Nat.reduceSub,Nat.reduceMul,Nat.reduceLT,Nat.reduceLeDiff,Nat.reduceEqDiff,Int.reduceEq,Int.reduceLT,Int.reduceLE,Int.reduceNe,Int.reduceAdd,beq_self_eq_true,Option.bind_eq_bind,Option.pure_def,bind_pure_comp,Option.map_eq_map,decide_eq_true_eq,ne_eq,not_false_eq_true,not_true_eq_false,Nat.lt_irrefl,Nat.reduceBEq,if_true,if_false,ite_true,ite_false,reduceCtorEq,Bool.false_eq_true,lenB_nil,lenB_slice,lenB_oslice,lenB_str,lenB_agg,indexAddrA_slice,indexAddrA_oslice,indexAddrA_ptr,indexAddrA_optr,loadA_ptr,loadA_optr,lenK,indexK,loadK,Option.toList_some,Option.toList_none,Int.reduceBEq,Int.reduceBNe,Int.reduceMod,Int.reduceDiv,Int.reduceTDiv,Int.reduceTMod,Int.reduceFDiv,Int.reduceSub,Int.reduceNeg,Int.reduceGT,Int.reduceGE,BitVec.reduceOfInt,BitVec.reduceAnd,BitVec.reduceOr,BitVec.reduceXOr,BitVec.reduceToNat,Int.cast_ofNat_Int,Int.reduceToNat,Int.reducePow,Nat.min_eq_left,Int.reduceMul,List.mapM_cons,List.mapM_nil,hT.all,b2,n1,t1,hb]
      refine hS.one (hb1 _) ?_
      simp only [gX,gM,gL,gB,List.map_cons,List.map_nil,wantedA,evOp,opv,absC,absC0,isAggT,resA,resultA,binA,eqA,eqGuardA,isConstA,isFlatScalar,shiftOp,strOp,ordB,readN,sliceCells,lenA,storeA,newA,buildA,fillA,buildSliceA,boundsA,bndA,sliceA,ptrOK,fieldAddrA,fieldA,indexA,extractA,convA,isIntT,biA,bytesOf,setAll,List.replicate,List.cons.injEq,exists_eq_left',exists_eq_left,exists_eq_right',eq_self,Option.map_some,Option.map_none,Option.bind_some,Option.bind_none,Option.some.injEq,Prod.mk.injEq,Nat.reduceAdd,Nat.reduceSub,Nat.reduceMul,Nat.reduceLT,Nat.reduceLeDiff,Nat.reduceEqDiff,Int.reduceEq,Int.reduceLT,Int.reduceLE,Int.reduceNe,Int.reduceAdd,beq_self_eq_true,Option.bind_eq_bind,Option.pure_def,bind_pure_comp,Option.map_eq_map,decide_eq_true_eq,ne_eq,not_false_eq_true,not_true_eq_false,Nat.lt_irrefl,Nat.reduceBEq,if_true,if_false,ite_true,ite_false,reduceCtorEq,Bool.false_eq_true,lenB_nil,lenB_slice,lenB_oslice,lenB_str,lenB_agg,indexAddrA_slice,indexAddrA_oslice,indexAddrA_ptr,indexAddrA_optr,loadA_ptr,loadA_optr,lenK,indexK,loadK,Option.toList_some,Option.toList_none,Int.reduceBEq,Int.reduceBNe,Int.reduceMod,Int.reduceDiv,Int.reduceTDiv,Int.reduceTMod,Int.reduceFDiv,Int.reduceSub,Int.reduceNeg,Int.reduceGT,Int.reduceGE,BitVec.reduceOfInt,BitVec.reduceAnd,BitVec.reduceOr,BitVec.reduceXOr,BitVec.reduceToNat,Int.cast_ofNat_Int,Int.reduceToNat,Int.reducePow,Nat.min_eq_left,Int.reduceMul,List.mapM_cons,List.mapM_nil,hT.all,w0,n2,t2,hc]
      refine hS.one (hc1 _) ?_
      simp only [gX,gM,gL,gB,List.map_cons,List.map_nil,wantedA,evOp,opv,absC,absC0,isAggT,resA,resultA,binA,eqA,eqGuardA,isConstA,isFlatScalar,shiftOp,strOp,ordB,readN,sliceCells,lenA,storeA,newA,buildA,fillA,buildSliceA,boundsA,bndA,sliceA,ptrOK,fieldAddrA,fieldA,indexA,extractA,convA,isIntT,biA,bytesOf,setAll,List.replicate,List.cons.injEq,exists_eq_left',exists_eq_left,exists_eq_right',eq_self,Option.map_some,Option.map_none,Option.bind_some,Option.bind_none,Option.some.injEq,Prod.mk.injEq,Nat.reduceAdd,Nat.reduceSub,Nat.reduceMul,Nat.reduceLT,Nat.reduceLeDiff,Nat.reduceEqDiff,Int.reduceEq,Int.reduceLT,Int.reduceLE,Int.reduceNe,Int.reduceAdd,beq_self_eq_true,Option.bind_eq_bind,Option.pure_def,bind_pure_comp,Option.map_eq_map,decide_eq_true_eq,ne_eq,not_false_eq_true,not_true_eq_false,Nat.lt_irrefl,Nat.reduceBEq,if_true,if_false,ite_true,ite_false,reduceCtorEq,Bool.false_eq_true,lenB_nil,lenB_slice,lenB_oslice,lenB_str,lenB_agg,indexAddrA_slice,indexAddrA_oslice,indexAddrA_ptr,indexAddrA_optr,loadA_ptr,loadA_optr,lenK,indexK,loadK,Option.toList_some,Option.toList_none,Int.reduceBEq,Int.reduceBNe,Int.reduceMod,Int.reduceDiv,Int.reduceTDiv,Int.reduceTMod,Int.reduceFDiv,Int.reduceSub,Int.reduceNeg,Int.reduceGT,Int.reduceGE,BitVec.reduceOfInt,BitVec.reduceAnd,BitVec.reduceOr,BitVec.reduceXOr,BitVec.reduceToNat,Int.cast_ofNat_Int,Int.reduceToNat,Int.reducePow,Nat.min_eq_left,Int.reduceMul,List.mapM_cons,List.mapM_nil,hT.all,e1]
      exact bad (nb g1)
    have e1 : ((x : Int) == 16) = false := by rw [beq_eq_false_iff_ne]; omega
    by_cases g2 : y < 16
    rotate_left
    · have e2 : ((y : Int) == 16) = true := by rw [beq_iff_eq]; omega
      simp only [gX,gM,gL,gB,List.map_cons,List.map_nil,wantedA,evOp,opv,absC,absC0,isAggT,resA,resultA,binA,eqA,eqGuardA,isConstA,isFlatScalar,shiftOp,strOp,ordB,readN,sliceCells,lenA,storeA,newA,buildA,fillA,buildSliceA,boundsA,bndA,sliceA,ptrOK,fieldAddrA,fieldA,indexA,extractA,convA,isIntT,biA,bytesOf,setAll,List.replicate,List.cons.injEq,exists_eq_left',exists_eq_left,exists_eq_right',eq_self,Option.map_some,Option.map_none,Option.bind_some,Option.bind_none,Option.some.injEq,Prod.mk.injEq,Nat.reduceAdd,Nat.reduceSub,Nat.reduceMul,Nat.reduceLT,Nat.reduceLeDiff,Nat.reduceEqDiff,Int.reduceEq,Int.reduceLT,Int.reduceLE,Int.reduceNe,Int.reduceAdd,beq_self_eq_true,Option.bind_eq_bind,Option.pure_def,bind_pure_comp,Option.map_eq_map,decide_eq_true_eq,ne_eq,not_false_eq_true,not_true_eq_false,Nat.lt_irrefl,Nat.reduceBEq,if_true,if_false,ite_true,ite_false,reduceCtorEq,Bool.false_eq_true,lenB_nil,lenB_slice,lenB_oslice,lenB_str,lenB_agg,indexAddrA_slice,indexAddrA_oslice,indexAddrA_ptr,indexAddrA_optr,loadA_ptr,loadA_optr,lenK,indexK,loadK,Option.toList_some,Option.toList_none,Int.reduceBEq,Int.reduceBNe,Int.reduceMod,Int.reduceDiv,Int.reduceTDiv,Int.reduceTMod,Int.reduceFDiv,Int.reduceSub,Int.reduceNeg,Int.reduceGT,Int.reduceGE,BitVec.reduceOfInt,BitVec.reduceAnd,BitVec.reduceOr,BitVec.reduceXOr,BitVec.reduceToNat,Int.cast_ofNat_Int,Int.reduceToNat,Int.reducePow,Nat.min_eq_left,Int.reduceMul,List.mapM_cons,List.mapM_nil,hT.all,b2,n1,t1,hb]
      refine hS.one (hb1 _) ?_
      simp only [gX,gM,gL,gB,List.map_cons,List.map_nil,wantedA,evOp,opv,absC,absC0,isAggT,resA,resultA,binA,eqA,eqGuardA,isConstA,isFlatScalar,shiftOp,strOp,ordB,readN,sliceCells,lenA,storeA,newA,buildA,fillA,buildSliceA,boundsA,bndA,sliceA,ptrOK,fieldAddrA,fieldA,indexA,extractA,convA,isIntT,biA,bytesOf,setAll,List.replicate,List.cons.injEq,exists_eq_left',exists_eq_left,exists_eq_right',eq_self,Option.map_some,Option.map_none,Option.bind_some,Option.bind_none,Option.some.injEq,Prod.mk.injEq,Nat.reduceAdd,Nat.reduceSub,Nat.reduceMul,Nat.reduceLT,Nat.reduceLeDiff,Nat.reduceEqDiff,Int.reduceEq,Int.reduceLT,Int.reduceLE,Int.reduceNe,Int.reduceAdd,beq_self_eq_true,Option.bind_eq_bind,Option.pure_def,bind_pure_comp,Option.map_eq_map,decide_eq_true_eq,ne_eq,not_false_eq_true,not_true_eq_false,Nat.lt_irrefl,Nat.reduceBEq,if_true,if_false,ite_true,ite_false,reduceCtorEq,Bool.false_eq_true,lenB_nil,lenB_slice,lenB_oslice,lenB_str,lenB_agg,indexAddrA_slice,indexAddrA_oslice,indexAddrA_ptr,indexAddrA_optr,loadA_ptr,loadA_optr,lenK,indexK,loadK,Option.toList_some,Option.toList_none,Int.reduceBEq,Int.reduceBNe,Int.reduceMod,Int.reduceDiv,Int.reduceTDiv,Int.reduceTMod,Int.reduceFDiv,Int.reduceSub,Int.reduceNeg,Int.reduceGT,Int.reduceGE,BitVec.reduceOfInt,BitVec.reduceAnd,BitVec.reduceOr,BitVec.reduceXOr,BitVec.reduceToNat,Int.cast_ofNat_Int,Int.reduceToNat,Int.reducePow,Nat.min_eq_left,Int.reduceMul,List.mapM_cons,List.mapM_nil,hT.all,w0,n2,t2,hc]
      refine hS.one (hc1 _) ?_
      simp only [gX,gM,gL,gB,List.map_cons,List.map_nil,wantedA,evOp,opv,absC,absC0,isAggT,resA,resultA,binA,eqA,eqGuardA,isConstA,isFlatScalar,shiftOp,strOp,ordB,readN,sliceCells,lenA,storeA,newA,buildA,fillA,buildSliceA,boundsA,bndA,sliceA,ptrOK,fieldAddrA,fieldA,indexA,extractA,convA,isIntT,biA,bytesOf,setAll,List.replicate,List.cons.injEq,exists_eq_left',exists_eq_left,exists_eq_right',eq_self,Option.map_some,Option.map_none,Option.bind_some,Option.bind_none,Option.some.injEq,Prod.mk.injEq,Nat.reduceAdd,Nat.reduceSub,Nat.reduceMul,Nat.reduceLT,Nat.reduceLeDiff,Nat.reduceEqDiff,Int.reduceEq,Int.reduceLT,Int.reduceLE,Int.reduceNe,Int.reduceAdd,beq_self_eq_true,Option.bind_eq_bind,Option.pure_def,bind_pure_comp,Option.map_eq_map,decide_eq_true_eq,ne_eq,not_false_eq_true,not_true_eq_false,Nat.lt_irrefl,Nat.reduceBEq,if_true,if_false,ite_true,ite_false,reduceCtorEq,Bool.false_eq_true,lenB_nil,lenB_slice,lenB_oslice,lenB_str,lenB_agg,indexAddrA_slice,indexAddrA_oslice,indexAddrA_ptr,indexAddrA_optr,loadA_ptr,loadA_optr,lenK,indexK,loadK,Option.toList_some,Option.toList_none,Int.reduceBEq,Int.reduceBNe,Int.reduceMod,Int.reduceDiv,Int.reduceTDiv,Int.reduceTMod,Int.reduceFDiv,Int.reduceSub,Int.reduceNeg,Int.reduceGT,Int.reduceGE,BitVec.reduceOfInt,BitVec.reduceAnd,BitVec.reduceOr,BitVec.reduceXOr,BitVec.reduceToNat,Int.cast_ofNat_Int,Int.reduceToNat,Int.reducePow,Nat.min_eq_left,Int.reduceMul,List.mapM_cons,List.mapM_nil,hT.all,e1,e2]
      exact bad (nc g2)
    have e2 : ((y : Int) == 16) = false := by rw [beq_eq_false_iff_ne]; omega
    have w1 : IntKind.u8.wrap ((x : Int) * 16) = ((16 * x : Nat) : Int) := by rw [w8]; omega
    have w2 : IntKind.u8.wrap (((16 * x : Nat) : Int) + (y : Int)) = ((16 * x + y : Nat) : Int) := by rw [w8]; omega
    have hFx : Fr [] h (h ++ [.c [u8 (UInt8.ofNat (16 * x + y))] 5 0 0]) := Fr.app _ _
    obtain ⟨w', o2, h2', hap, hr2, hf2, hn⟩ := appB hT (M := M) (hr.mono hFx (by simp)) (t2 := 23) (x := .slice h.length 0 0 1 1 (some 1)) (new := [UInt8.ofNat (16 * x + y)]) hT.ty23 rfl rfl (by simp [sliceCells]) (by rw [fu_len]; simp; omega)
    have hHl := hF.len
    have ho2 : ∀ b, o2 = some b → H.length ≤ b := by
      intro b hb
      rcases hn with e | ⟨b', e, hb'⟩
      · exact ho b (by rw [← e]; exact hb)
      · rw [e] at hb; cases hb
        simp at hb'; omega
    have hF2 : Fr [] H h2' := (hF.trans hFx (by simp)).trans hf2 (by
      intro b hb
      cases o with
      | none => simp at hb
      | some b' => have := ho b' rfl; simp at hb; right; omega)
    unfold u8 at hap
    rw [u8_nat (by omega)] at hap
    simp only [gX,gM,gL,gB,List.map_cons,List.map_nil,wantedA,evOp,opv,absC,absC0,isAggT,resA,resultA,binA,eqA,eqGuardA,isConstA,isFlatScalar,shiftOp,strOp,ordB,readN,sliceCells,lenA,storeA,newA,buildA,fillA,buildSliceA,boundsA,bndA,sliceA,ptrOK,fieldAddrA,fieldA,indexA,extractA,convA,isIntT,biA,bytesOf,setAll,List.replicate,List.cons.injEq,exists_eq_left',exists_eq_left,exists_eq_right',eq_self,Option.map_some,Option.map_none,Option.bind_some,Option.bind_none,Option.some.injEq,Prod.mk.injEq,Nat.reduceAdd,Nat.reduceSub,Nat.reduceMul,Nat.reduceLT,Nat.reduceLeDiff,Nat.reduceEqDiff,Int.reduceEq,Int.reduceLT,Int.reduceLE,Int.reduceNe,Int.reduceAdd,beq_self_eq_true,Option.bind_eq_bind,Option.pure_def,bind_pure_comp,Option.map_eq_map,decide_eq_true_eq,ne_eq,not_false_eq_true,not_true_eq_false,Nat.lt_irrefl,Nat.reduceBEq,if_true,if_false,ite_true,ite_false,reduceCtorEq,Bool.false_eq_true,lenB_nil,lenB_slice,lenB_oslice,lenB_str,lenB_agg,indexAddrA_slice,indexAddrA_oslice,indexAddrA_ptr,indexAddrA_optr,loadA_ptr,loadA_optr,lenK,indexK,loadK,Option.toList_some,Option.toList_none,Int.reduceBEq,Int.reduceBNe,Int.reduceMod,Int.reduceDiv,Int.reduceTDiv,Int.reduceTMod,Int.reduceFDiv,Int.reduceSub,Int.reduceNeg,Int.reduceGT,Int.reduceGE,BitVec.reduceOfInt,BitVec.reduceAnd,BitVec.reduceOr,BitVec.reduceXOr,BitVec.reduceToNat,Int.cast_ofNat_Int,Int.reduceToNat,Int.reducePow,Nat.min_eq_left,Int.reduceMul,List.mapM_cons,List.mapM_nil,hT.all,b2,n1,t1,hb]
    refine hS.one (hb1 _) ?_
    simp only [gX,gM,gL,gB,List.map_cons,List.map_nil,wantedA,evOp,opv,absC,absC0,isAggT,resA,resultA,binA,eqA,eqGuardA,isConstA,isFlatScalar,shiftOp,strOp,ordB,readN,sliceCells,lenA,storeA,newA,buildA,fillA,buildSliceA,boundsA,bndA,sliceA,ptrOK,fieldAddrA,fieldA,indexA,extractA,convA,isIntT,biA,bytesOf,setAll,List.replicate,List.cons.injEq,exists_eq_left',exists_eq_left,exists_eq_right',eq_self,Option.map_some,Option.map_none,Option.bind_some,Option.bind_none,Option.some.injEq,Prod.mk.injEq,Nat.reduceAdd,Nat.reduceSub,Nat.reduceMul,Nat.reduceLT,Nat.reduceLeDiff,Nat.reduceEqDiff,Int.reduceEq,Int.reduceLT,Int.reduceLE,Int.reduceNe,Int.reduceAdd,beq_self_eq_true,Option.bind_eq_bind,Option.pure_def,bind_pure_comp,Option.map_eq_map,decide_eq_true_eq,ne_eq,not_false_eq_true,not_true_eq_false,Nat.lt_irrefl,Nat.reduceBEq,if_true,if_false,ite_true,ite_false,reduceCtorEq,Bool.false_eq_true,lenB_nil,lenB_slice,lenB_oslice,lenB_str,lenB_agg,indexAddrA_slice,indexAddrA_oslice,indexAddrA_ptr,indexAddrA_optr,loadA_ptr,loadA_optr,lenK,indexK,loadK,Option.toList_some,Option.toList_none,Int.reduceBEq,Int.reduceBNe,Int.reduceMod,Int.reduceDiv,Int.reduceTDiv,Int.reduceTMod,Int.reduceFDiv,Int.reduceSub,Int.reduceNeg,Int.reduceGT,Int.reduceGE,BitVec.reduceOfInt,BitVec.reduceAnd,BitVec.reduceOr,BitVec.reduceXOr,BitVec.reduceToNat,Int.cast_ofNat_Int,Int.reduceToNat,Int.reducePow,Nat.min_eq_left,Int.reduceMul,List.mapM_cons,List.mapM_nil,hT.all,w0,n2,t2,hc]
    refine hS.one (hc1 _) ?_
    simp only [gX,gM,gL,gB,List.map_cons,List.map_nil,wantedA,evOp,opv,absC,absC0,isAggT,resA,resultA,binA,eqA,eqGuardA,isConstA,isFlatScalar,shiftOp,strOp,ordB,readN,sliceCells,lenA,storeA,newA,buildA,fillA,buildSliceA,boundsA,bndA,sliceA,ptrOK,fieldAddrA,fieldA,indexA,extractA,convA,isIntT,biA,bytesOf,setAll,List.replicate,List.cons.injEq,exists_eq_left',exists_eq_left,exists_eq_right',eq_self,Option.map_some,Option.map_none,Option.bind_some,Option.bind_none,Option.some.injEq,Prod.mk.injEq,Nat.reduceAdd,Nat.reduceSub,Nat.reduceMul,Nat.reduceLT,Nat.reduceLeDiff,Nat.reduceEqDiff,Int.reduceEq,Int.reduceLT,Int.reduceLE,Int.reduceNe,Int.reduceAdd,beq_self_eq_true,Option.bind_eq_bind,Option.pure_def,bind_pure_comp,Option.map_eq_map,decide_eq_true_eq,ne_eq,not_false_eq_true,not_true_eq_false,Nat.lt_irrefl,Nat.reduceBEq,if_true,if_false,ite_true,ite_false,reduceCtorEq,Bool.false_eq_true,lenB_nil,lenB_slice,lenB_oslice,lenB_str,lenB_agg,indexAddrA_slice,indexAddrA_oslice,indexAddrA_ptr,indexAddrA_optr,loadA_ptr,loadA_optr,lenK,indexK,loadK,Option.toList_some,Option.toList_none,Int.reduceBEq,Int.reduceBNe,Int.reduceMod,Int.reduceDiv,Int.reduceTDiv,Int.reduceTMod,Int.reduceFDiv,Int.reduceSub,Int.reduceNeg,Int.reduceGT,Int.reduceGE,BitVec.reduceOfInt,BitVec.reduceAnd,BitVec.reduceOr,BitVec.reduceXOr,BitVec.reduceToNat,Int.cast_ofNat_Int,Int.reduceToNat,Int.reducePow,Nat.min_eq_left,Int.reduceMul,List.mapM_cons,List.mapM_nil,hT.all,e1,e2,w1,w2,hap,w9]
    exact hJ m _ _ _ (by omega) (Weak.refl _) ⟨k + 1, o2, w', _, _, _, _, _, _, _, _, _, _, _, _, _, _, _, _, _, _, _, _, _, _, _, _, _, _, _, _, _, _, _, _, _, _, _, _, rfl, by omega, hd' g1 g2, hF2, by rw [hfs]; exact hr2, ho2⟩

end Go.Proofs.YtmecikblalignaaDoor.B
