/- Part of a claim: readers: texts. -/
import Derived.Test.YtnmignkabcblgaaDoorD1
import Derived.Test.YtnmignkabcblgaaDoorC23
set_option linter.unusedSimpArgs false
set_option linter.unusedVariables false
set_option maxRecDepth 100000
set_option maxHeartbeats 10000000
namespace Go.Proofs.YtnmignkabcblgaaDoor.C
open Go Go.RowKit Go.Proofs.YtnmignkabcblgaaDoor.E Go.Proofs.YtnmignkabcblgaaDoor.B

theorem OBy.of_sees {M : Addr → Option AV} {v : AV} {t : List UInt8} (h : Sees M [] 1 v (cellsB t)) : OBy M v t := by
  generalize hx : cellsB t = xs at h
  cases h with
  | nil =>
    have : t = [] := by cases t with
      | nil => rfl
      | cons a l => cases hx
    subst this; exact .nil
  | old a n c _ h1 h2 h3 =>
    subst hx
    have hn : n = t.length := by simpa using h1.symm
    subst hn
    exact .old a c t h2 h3
  | own b e off n cap cs el ep sep _ h1 h2 h3 h4 => simp at h1

theorem tab_plain {a : Addr} {v : AV} (h : tabM a = some v) : plainA v = true := by
  unfold tabM at h
  split at h
  · cases h
  · split at h
    · obtain ⟨n, _, rfl⟩ := Option.map_eq_some_iff.1 h; rfl
    · split at h
      · obtain ⟨n, _, rfl⟩ := Option.map_eq_some_iff.1 h; rfl
      · cases h

theorem tab_later {M : Addr → Option AV} (hM : ∀ a v, tabM a = some v → M a = some v) {ρ : Asg} {H : Heap} {W0 W : World} (hm : MOK M W0) (hR : Rel ρ H W0 W) : ∀ a v, tabM a = some v → oldM W a = some v := by
  intro a v hv
  obtain ⟨cv, h1, h2⟩ := (hm.later hR) a v (hM a v hv)
  unfold oldM
  rw [h1]
  exact congrArg some (plain_abs (tab_plain hv) h2)

theorem validB (M : Addr → Option AV) (hM : ∀ a v, tabM a = some v → M a = some v) {H : Heap} {v : AV} {t : List UInt8} (hv : Sees M H 1 v (cellsB t)) (ht : t.length < 1000000000000000000) : SemF Tryd.prog M 71 [v] H fun r h => r = .bool (validU t) ∧ h = H := by
  refine SemF.view_flat (Q := fun r => r = .bool (validU t)) fun W0 W ρ cs hm hR hcs => ?_
  simp only [VRs] at hcs
  obtain ⟨cv, ys, rfl, h1, rfl⟩ := hcs
  exact valid0 (oldM W) (tab_later hM hm hR) (absC cv) t (OBy.of_sees (hv.view (cellsB_plain t) hm hR h1 [])) ht

theorem numB_lt (bs : List UInt8) : (numB bs 2).toNat < 65536 := by
  have one : ∀ i, i < 2 → (match bs[i]? with | some b => b.toBitVec.setWidth 64 <<< (8 * i) | none => 0#64 : BitVec 64).toNat < 2 ^ 16 := fun i hi => by
    split
    · rename_i b _
      have hb := b.toNat_lt
      have : i = 0 ∨ i = 1 := by omega
      rcases this with rfl | rfl
      · simp; omega
      · simp [Nat.shiftLeft_eq]; omega
    · simp
  have h0 := one 0 (by omega)
  have h1 := one 1 (by omega)
  simp only [numB, BitVec.toNat_or]
  exact Nat.or_lt_two_pow (Nat.or_lt_two_pow (by simp) h0) h1

theorem gV2_lt (bs : List UInt8) : (gV bs 2).toNat < 65536 := by
  unfold gV
  split
  · simp
  · exact numB_lt bs

/-- A text taken: its length, what is said, what it is, what is left. -/
def tN (bs : List UInt8) : Nat := (gV bs 2).toNat
def tE (bs : List UInt8) : Int := if bs.length < 2 then 10 else if 4096 < tN bs then 12 else if (bs.drop 2).length < tN bs then 10 else if validU ((bs.drop 2).take (tN bs)) then 0 else 14
def tS (bs : List UInt8) : List UInt8 := if tE bs = 0 then (bs.drop 2).take (tN bs) else []
def tR (bs : List UInt8) : List UInt8 := if tE bs = 0 then (bs.drop 2).drop (tN bs) else bs

/-- What is read of a reader's own cell, stored back. -/
theorem RS.back {M : Addr → Option AV} {H h : Heap} {rb : Nat} {S : List Nat} {bs bs' : List UInt8} {lv : AV} (hs : Sees M H 1 lv (cellsB bs)) (hc : Capped lv) (ho : Off S lv) (hrb : rb ∈ S) (hf : Fr [rb] H h) (h1 : RS M h rb S bs') : RS M (h.set rb (.c [.bool true, lv] 71 0 0)) rb S bs ∧ Fr [rb] H (h.set rb (.c [.bool true, lv] 71 0 0)) := by
  obtain ⟨lv', k1, _⟩ := h1
  have hf2 : Fr [rb] H (h.set rb (.c [.bool true, lv] 71 0 0)) := hf.trans (Fr.set _ _ _) (fun b hb => .inl hb)
  exact ⟨⟨lv, by rw [List.getElem?_set_self (lt_of_get k1)], hs.mono hf2 (fun b e off s n c hv hm => by
    rw [List.mem_singleton] at hm; subst hm; exact ho _ _ _ _ _ _ hv hrb), hc, ho⟩, hf2⟩

theorem pTextR (M : Addr → Option AV) (hM : ∀ a v, tabM a = some v → M a = some v) {H : Heap} {rb : Nat} {S : List Nat} {bs : List UInt8} (hr : RS M H rb S bs) (hrb : rb ∈ S) (hlen : bs.length < 1000000000000000) :
    SemF Tryd.prog M 50 [.ptr rb 0 0] H fun r h => r = .tup [.str (tS bs), .int .i64 (tE bs)] ∧ RS M h rb S (tR bs) ∧ Fr [rb] H h := by
  refine fw Tryd.func50 (by kernel_rfl) rfl (by kernel_rfl) fun C L T hT hS => ?_
  have hr0 := hr
  obtain ⟨lv, hb, hs, hc, ho⟩ := hr
  simp only [gX,gM,gL,gB,List.map_cons,List.map_nil,wantedA,evOp,opv,absC,absC0,isAggT,resA,resultA,binA,eqA,eqGuardA,isConstA,isFlatScalar,shiftOp,strOp,ordB,readN,sliceCells,lenA,storeA,newA,buildA,fillA,buildSliceA,boundsA,bndA,sliceA,ptrOK,fieldAddrA,fieldA,indexA,extractA,convA,isIntT,biA,bytesOf,setAll,List.replicate,List.cons.injEq,exists_eq_left',exists_eq_left,exists_eq_right',eq_self,Option.map_some,Option.map_none,Option.bind_some,Option.bind_none,Option.some.injEq,Prod.mk.injEq,Nat.reduceAdd,Nat.reduceSub,Nat.reduceMul,Nat.reduceLT,Nat.reduceLeDiff,Nat.reduceEqDiff,Int.reduceEq,Int.reduceLT,Int.reduceLE,Int.reduceNe,Int.reduceAdd,beq_self_eq_true,Option.bind_eq_bind,Option.pure_def,bind_pure_comp,Option.map_eq_map,decide_eq_true_eq,ne_eq,not_false_eq_true,not_true_eq_false,Nat.lt_irrefl,Nat.reduceBEq,if_true,if_false,ite_true,ite_false,reduceCtorEq,Bool.false_eq_true,lenB_nil,lenB_slice,lenB_oslice,lenB_str,lenB_agg,indexAddrA_slice,indexAddrA_oslice,indexAddrA_ptr,indexAddrA_optr,loadA_ptr,loadA_optr,lenK,indexK,loadK,Option.toList_some,Option.toList_none,Int.reduceBEq,Int.reduceBNe,Int.reduceMod,Int.reduceDiv,Int.reduceTDiv,Int.reduceTMod,Int.reduceFDiv,Int.reduceSub,Int.reduceNeg,Int.reduceGT,Int.reduceGE,BitVec.reduceOfInt,BitVec.reduceAnd,BitVec.reduceOr,BitVec.reduceXOr,BitVec.reduceToNat,Int.cast_ofNat_Int,Int.reduceToNat,Int.reducePow,Nat.min_eq_left,Int.reduceMul,List.mapM_cons,List.mapM_nil,hT.all,Tryd.f50,hb]
  refine hS.call (pU16 M hr0 hrb hlen) fun v h hq => ?_
  obtain ⟨rfl, h1, h2⟩ := hq
  have hnl := gV2_lt bs
  have wn : IntKind.u16.wrap ((gV bs 2).toNat : Int) = (tN bs : Int) := wrap_u16 (by omega) (by omega)
  have hnl' : tN bs < 65536 := hnl
  obtain ⟨n, hn⟩ : ∃ n, n = tN bs := ⟨_, rfl⟩
  rw [← hn] at wn hnl'
  obtain ⟨lv1, hb1, hs1, hc1, ho1⟩ := h1
  have hback := RS.back hs hc ho hrb h2 ⟨lv1, hb1, hs1, hc1, ho1⟩
  by_cases c1 : bs.length < 2
  · have e1 : gE bs 2 = 10 := by unfold gE; rw [if_pos c1]
    have e2 : tE bs = 10 := by unfold tE; rw [if_pos c1]
    have e3 : tS bs = [] := by unfold tS; rw [e2]; rfl
    have e4 : tR bs = bs := by unfold tR; rw [e2]; rfl
    rw [e2, e3, e4]
    simp only [gX,gM,gL,gB,List.map_cons,List.map_nil,wantedA,evOp,opv,absC,absC0,isAggT,resA,resultA,binA,eqA,eqGuardA,isConstA,isFlatScalar,shiftOp,strOp,ordB,readN,sliceCells,lenA,storeA,newA,buildA,fillA,buildSliceA,boundsA,bndA,sliceA,ptrOK,fieldAddrA,fieldA,indexA,extractA,convA,isIntT,biA,bytesOf,setAll,List.replicate,List.cons.injEq,exists_eq_left',exists_eq_left,exists_eq_right',eq_self,Option.map_some,Option.map_none,Option.bind_some,Option.bind_none,Option.some.injEq,Prod.mk.injEq,Nat.reduceAdd,Nat.reduceSub,Nat.reduceMul,Nat.reduceLT,Nat.reduceLeDiff,Nat.reduceEqDiff,Int.reduceEq,Int.reduceLT,Int.reduceLE,Int.reduceNe,Int.reduceAdd,beq_self_eq_true,Option.bind_eq_bind,Option.pure_def,bind_pure_comp,Option.map_eq_map,decide_eq_true_eq,ne_eq,not_false_eq_true,not_true_eq_false,Nat.lt_irrefl,Nat.reduceBEq,if_true,if_false,ite_true,ite_false,reduceCtorEq,Bool.false_eq_true,lenB_nil,lenB_slice,lenB_oslice,lenB_str,lenB_agg,indexAddrA_slice,indexAddrA_oslice,indexAddrA_ptr,indexAddrA_optr,loadA_ptr,loadA_optr,lenK,indexK,loadK,Option.toList_some,Option.toList_none,Int.reduceBEq,Int.reduceBNe,Int.reduceMod,Int.reduceDiv,Int.reduceTDiv,Int.reduceTMod,Int.reduceFDiv,Int.reduceSub,Int.reduceNeg,Int.reduceGT,Int.reduceGE,BitVec.reduceOfInt,BitVec.reduceAnd,BitVec.reduceOr,BitVec.reduceXOr,BitVec.reduceToNat,Int.cast_ofNat_Int,Int.reduceToNat,Int.reducePow,Nat.min_eq_left,Int.reduceMul,List.mapM_cons,List.mapM_nil,hT.all,wn,e1,hb1,hs.cell.1,hs.cell.2]
    exact hback
  have e1 : gE bs 2 = 0 := by unfold gE; rw [if_neg c1]
  have e5 : gR bs 2 = bs.drop 2 := by unfold gR; rw [if_neg c1]
  rw [e5] at hs1
  by_cases c2 : 4096 < n
  · have e2 : tE bs = 12 := by unfold tE; rw [if_neg c1, ← hn, if_pos c2]
    have e3 : tS bs = [] := by unfold tS; rw [e2]; rfl
    have e4 : tR bs = bs := by unfold tR; rw [e2]; rfl
    have g2 : (n : Int) > 4096 := by omega
    rw [e2, e3, e4]
    simp only [gX,gM,gL,gB,List.map_cons,List.map_nil,wantedA,evOp,opv,absC,absC0,isAggT,resA,resultA,binA,eqA,eqGuardA,isConstA,isFlatScalar,shiftOp,strOp,ordB,readN,sliceCells,lenA,storeA,newA,buildA,fillA,buildSliceA,boundsA,bndA,sliceA,ptrOK,fieldAddrA,fieldA,indexA,extractA,convA,isIntT,biA,bytesOf,setAll,List.replicate,List.cons.injEq,exists_eq_left',exists_eq_left,exists_eq_right',eq_self,Option.map_some,Option.map_none,Option.bind_some,Option.bind_none,Option.some.injEq,Prod.mk.injEq,Nat.reduceAdd,Nat.reduceSub,Nat.reduceMul,Nat.reduceLT,Nat.reduceLeDiff,Nat.reduceEqDiff,Int.reduceEq,Int.reduceLT,Int.reduceLE,Int.reduceNe,Int.reduceAdd,beq_self_eq_true,Option.bind_eq_bind,Option.pure_def,bind_pure_comp,Option.map_eq_map,decide_eq_true_eq,ne_eq,not_false_eq_true,not_true_eq_false,Nat.lt_irrefl,Nat.reduceBEq,if_true,if_false,ite_true,ite_false,reduceCtorEq,Bool.false_eq_true,lenB_nil,lenB_slice,lenB_oslice,lenB_str,lenB_agg,indexAddrA_slice,indexAddrA_oslice,indexAddrA_ptr,indexAddrA_optr,loadA_ptr,loadA_optr,lenK,indexK,loadK,Option.toList_some,Option.toList_none,Int.reduceBEq,Int.reduceBNe,Int.reduceMod,Int.reduceDiv,Int.reduceTDiv,Int.reduceTMod,Int.reduceFDiv,Int.reduceSub,Int.reduceNeg,Int.reduceGT,Int.reduceGE,BitVec.reduceOfInt,BitVec.reduceAnd,BitVec.reduceOr,BitVec.reduceXOr,BitVec.reduceToNat,Int.cast_ofNat_Int,Int.reduceToNat,Int.reducePow,Nat.min_eq_left,Int.reduceMul,List.mapM_cons,List.mapM_nil,hT.all,wn,e1,g2,hb1,hs.cell.1,hs.cell.2]
    exact hback
  have g2 : ¬ (n : Int) > 4096 := by omega
  have w2 : IntKind.i64.wrap (n : Int) = (n : Int) := wrap_i64 (by omega) (by omega)
  have ln1 : ∀ ts, lenB T (24 :: ts) lv1 = some (.int .i64 (bs.drop 2).length) := fun ts => hs1.lenB (by simp) (by omega) hT.ty24 rfl
  by_cases c3 : (bs.drop 2).length < n
  · have e2 : tE bs = 10 := by unfold tE; rw [if_neg c1, ← hn, if_neg c2, if_pos c3]
    have e3 : tS bs = [] := by unfold tS; rw [e2]; rfl
    have e4 : tR bs = bs := by unfold tR; rw [e2]; rfl
    have g3 : (n : Int) > ((bs.drop 2).length : Int) := by omega
    rw [e2, e3, e4]
    simp only [gX,gM,gL,gB,List.map_cons,List.map_nil,wantedA,evOp,opv,absC,absC0,isAggT,resA,resultA,binA,eqA,eqGuardA,isConstA,isFlatScalar,shiftOp,strOp,ordB,readN,sliceCells,lenA,storeA,newA,buildA,fillA,buildSliceA,boundsA,bndA,sliceA,ptrOK,fieldAddrA,fieldA,indexA,extractA,convA,isIntT,biA,bytesOf,setAll,List.replicate,List.cons.injEq,exists_eq_left',exists_eq_left,exists_eq_right',eq_self,Option.map_some,Option.map_none,Option.bind_some,Option.bind_none,Option.some.injEq,Prod.mk.injEq,Nat.reduceAdd,Nat.reduceSub,Nat.reduceMul,Nat.reduceLT,Nat.reduceLeDiff,Nat.reduceEqDiff,Int.reduceEq,Int.reduceLT,Int.reduceLE,Int.reduceNe,Int.reduceAdd,beq_self_eq_true,Option.bind_eq_bind,Option.pure_def,bind_pure_comp,Option.map_eq_map,decide_eq_true_eq,ne_eq,not_false_eq_true,not_true_eq_false,Nat.lt_irrefl,Nat.reduceBEq,if_true,if_false,ite_true,ite_false,reduceCtorEq,Bool.false_eq_true,lenB_nil,lenB_slice,lenB_oslice,lenB_str,lenB_agg,indexAddrA_slice,indexAddrA_oslice,indexAddrA_ptr,indexAddrA_optr,loadA_ptr,loadA_optr,lenK,indexK,loadK,Option.toList_some,Option.toList_none,Int.reduceBEq,Int.reduceBNe,Int.reduceMod,Int.reduceDiv,Int.reduceTDiv,Int.reduceTMod,Int.reduceFDiv,Int.reduceSub,Int.reduceNeg,Int.reduceGT,Int.reduceGE,BitVec.reduceOfInt,BitVec.reduceAnd,BitVec.reduceOr,BitVec.reduceXOr,BitVec.reduceToNat,Int.cast_ofNat_Int,Int.reduceToNat,Int.reducePow,Nat.min_eq_left,Int.reduceMul,List.mapM_cons,List.mapM_nil,hT.all,wn,e1,g2,w2,ln1,g3,hb1,hs.cell.1,hs.cell.2]
    exact hback
  have g3 : ¬ (n : Int) > ((bs.drop 2).length : Int) := by omega
  obtain ⟨pv, p1, p2, p3, p4⟩ := hs1.slice (T := T) hc1 (lo := 0) (hi := n) (by omega) (by simp at c3 ⊢; omega) hT.ty24 rfl hT.ty5 rfl none (some (.int .u16 (n : Int))) (.inl ⟨rfl, rfl⟩) (.inr ⟨_, rfl⟩)
  have hpc : (List.take n (cellsB (bs.drop 2))).drop 0 = cellsB ((bs.drop 2).take n) := by simp [cellsB, List.map_take]
  rw [hpc] at p2
  simp only [gX,gM,gL,gB,List.map_cons,List.map_nil,wantedA,evOp,opv,absC,absC0,isAggT,resA,resultA,binA,eqA,eqGuardA,isConstA,isFlatScalar,shiftOp,strOp,ordB,readN,sliceCells,lenA,storeA,newA,buildA,fillA,buildSliceA,boundsA,bndA,ptrOK,fieldAddrA,fieldA,indexA,extractA,convA,isIntT,biA,bytesOf,setAll,List.replicate,List.cons.injEq,exists_eq_left',exists_eq_left,exists_eq_right',eq_self,Option.map_some,Option.map_none,Option.bind_some,Option.bind_none,Option.some.injEq,Prod.mk.injEq,Nat.reduceAdd,Nat.reduceSub,Nat.reduceMul,Nat.reduceLT,Nat.reduceLeDiff,Nat.reduceEqDiff,Int.reduceEq,Int.reduceLT,Int.reduceLE,Int.reduceNe,Int.reduceAdd,beq_self_eq_true,Option.bind_eq_bind,Option.pure_def,bind_pure_comp,Option.map_eq_map,decide_eq_true_eq,ne_eq,not_false_eq_true,not_true_eq_false,Nat.lt_irrefl,Nat.reduceBEq,if_true,if_false,ite_true,ite_false,reduceCtorEq,Bool.false_eq_true,lenB_nil,lenB_slice,lenB_oslice,lenB_str,lenB_agg,indexAddrA_slice,indexAddrA_oslice,indexAddrA_ptr,indexAddrA_optr,loadA_ptr,loadA_optr,lenK,indexK,loadK,Option.toList_some,Option.toList_none,Int.reduceBEq,Int.reduceBNe,Int.reduceMod,Int.reduceDiv,Int.reduceTDiv,Int.reduceTMod,Int.reduceFDiv,Int.reduceSub,Int.reduceNeg,Int.reduceGT,Int.reduceGE,BitVec.reduceOfInt,BitVec.reduceAnd,BitVec.reduceOr,BitVec.reduceXOr,BitVec.reduceToNat,Int.cast_ofNat_Int,Int.reduceToNat,Int.reducePow,Nat.min_eq_left,Int.reduceMul,List.mapM_cons,List.mapM_nil,hT.all,wn,e1,g2,w2,ln1,g3,hb1,p1]
  refine hS.one (validB M hM p2 (by simp; omega)) ?_
  cases hv : validU ((bs.drop 2).take n) with
  | false =>
    have e2 : tE bs = 14 := by unfold tE; rw [if_neg c1, ← hn, if_neg c2, if_neg c3, hv]; rfl
    have e3 : tS bs = [] := by unfold tS; rw [e2]; rfl
    have e4 : tR bs = bs := by unfold tR; rw [e2]; rfl
    rw [e2, e3, e4]
    simp only [gX,gM,gL,gB,List.map_cons,List.map_nil,wantedA,evOp,opv,absC,absC0,isAggT,resA,resultA,binA,eqA,eqGuardA,isConstA,isFlatScalar,shiftOp,strOp,ordB,readN,sliceCells,lenA,storeA,newA,buildA,fillA,buildSliceA,boundsA,bndA,sliceA,ptrOK,fieldAddrA,fieldA,indexA,extractA,convA,isIntT,biA,bytesOf,setAll,List.replicate,List.cons.injEq,exists_eq_left',exists_eq_left,exists_eq_right',eq_self,Option.map_some,Option.map_none,Option.bind_some,Option.bind_none,Option.some.injEq,Prod.mk.injEq,Nat.reduceAdd,Nat.reduceSub,Nat.reduceMul,Nat.reduceLT,Nat.reduceLeDiff,Nat.reduceEqDiff,Int.reduceEq,Int.reduceLT,Int.reduceLE,Int.reduceNe,Int.reduceAdd,beq_self_eq_true,Option.bind_eq_bind,Option.pure_def,bind_pure_comp,Option.map_eq_map,decide_eq_true_eq,ne_eq,not_false_eq_true,not_true_eq_false,Nat.lt_irrefl,Nat.reduceBEq,if_true,if_false,ite_true,ite_false,reduceCtorEq,Bool.false_eq_true,lenB_nil,lenB_slice,lenB_oslice,lenB_str,lenB_agg,indexAddrA_slice,indexAddrA_oslice,indexAddrA_ptr,indexAddrA_optr,loadA_ptr,loadA_optr,lenK,indexK,loadK,Option.toList_some,Option.toList_none,Int.reduceBEq,Int.reduceBNe,Int.reduceMod,Int.reduceDiv,Int.reduceTDiv,Int.reduceTMod,Int.reduceFDiv,Int.reduceSub,Int.reduceNeg,Int.reduceGT,Int.reduceGE,BitVec.reduceOfInt,BitVec.reduceAnd,BitVec.reduceOr,BitVec.reduceXOr,BitVec.reduceToNat,Int.cast_ofNat_Int,Int.reduceToNat,Int.reducePow,Nat.min_eq_left,Int.reduceMul,List.mapM_cons,List.mapM_nil,hT.all,hb1,hs.cell.1,hs.cell.2]
    exact hback
  | true =>
    have e2 : tE bs = 0 := by unfold tE; rw [if_neg c1, ← hn, if_neg c2, if_neg c3, hv]; rfl
    have e3 : tS bs = (bs.drop 2).take n := by unfold tS; rw [e2, ← hn]; rfl
    have e4 : tR bs = (bs.drop 2).drop n := by unfold tR; rw [e2, ← hn]; rfl
    obtain ⟨qv, q1, q2, q3, q4⟩ := hs1.slice (T := T) hc1 (lo := n) (hi := (bs.drop 2).length) (by omega) (by simp) hT.ty24 rfl hT.ty5 rfl (some (.int .u16 (n : Int))) none (.inr ⟨_, rfl⟩) (.inl ⟨rfl, by simp⟩)
    have hqc : (List.take (bs.drop 2).length (cellsB (bs.drop 2))).drop n = cellsB ((bs.drop 2).drop n) := by
      rw [List.take_of_length_le (by simp)]; simp [cellsB, List.map_drop]
    rw [hqc] at q2
    have cv := convS hT p2
    rw [e2, e3, e4]
    simp only [gX,gM,gL,gB,List.map_cons,List.map_nil,wantedA,evOp,opv,absC,absC0,isAggT,resA,resultA,binA,eqA,eqGuardA,isConstA,isFlatScalar,shiftOp,strOp,ordB,readN,sliceCells,lenA,storeA,newA,buildA,fillA,buildSliceA,boundsA,bndA,ptrOK,fieldAddrA,fieldA,indexA,extractA,isIntT,biA,bytesOf,setAll,List.replicate,List.cons.injEq,exists_eq_left',exists_eq_left,exists_eq_right',eq_self,Option.map_some,Option.map_none,Option.bind_some,Option.bind_none,Option.some.injEq,Prod.mk.injEq,Nat.reduceAdd,Nat.reduceSub,Nat.reduceMul,Nat.reduceLT,Nat.reduceLeDiff,Nat.reduceEqDiff,Int.reduceEq,Int.reduceLT,Int.reduceLE,Int.reduceNe,Int.reduceAdd,beq_self_eq_true,Option.bind_eq_bind,Option.pure_def,bind_pure_comp,Option.map_eq_map,decide_eq_true_eq,ne_eq,not_false_eq_true,not_true_eq_false,Nat.lt_irrefl,Nat.reduceBEq,if_true,if_false,ite_true,ite_false,reduceCtorEq,Bool.false_eq_true,lenB_nil,lenB_slice,lenB_oslice,lenB_str,lenB_agg,indexAddrA_slice,indexAddrA_oslice,indexAddrA_ptr,indexAddrA_optr,loadA_ptr,loadA_optr,lenK,indexK,loadK,Option.toList_some,Option.toList_none,Int.reduceBEq,Int.reduceBNe,Int.reduceMod,Int.reduceDiv,Int.reduceTDiv,Int.reduceTMod,Int.reduceFDiv,Int.reduceSub,Int.reduceNeg,Int.reduceGT,Int.reduceGE,BitVec.reduceOfInt,BitVec.reduceAnd,BitVec.reduceOr,BitVec.reduceXOr,BitVec.reduceToNat,Int.cast_ofNat_Int,Int.reduceToNat,Int.reducePow,Nat.min_eq_left,Int.reduceMul,List.mapM_cons,List.mapM_nil,hT.all,hb1,p1,q1,cv,q2.cell.1,q2.cell.2]
    exact ⟨⟨qv, by rw [List.getElem?_set_self (lt_of_get hb1)], q2.mono (Fr.set _ _ _) (fun b e off s n c hv hm => by
      rw [List.mem_singleton] at hm; subst hm; exact (ho1.within q4) _ _ _ _ _ _ hv hrb), q3, ho1.within q4⟩, h2.trans (Fr.set _ _ _) (fun b hb => .inl hb)⟩

end Go.Proofs.YtnmignkabcblgaaDoor.C
