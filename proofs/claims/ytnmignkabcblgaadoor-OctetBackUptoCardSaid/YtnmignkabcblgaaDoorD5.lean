/- Part of a claim: the document's reader: texts. -/
import Derived.Test.YtnmignkabcblgaaDoorD2
import Derived.Test.YtnmignkabcblgaaDoorC6
set_option linter.unusedSimpArgs false
set_option linter.unusedVariables false
set_option maxRecDepth 100000
set_option maxHeartbeats 10000000
namespace Go.Proofs.YtnmignkabcblgaaDoor.C
open Go Go.RowKit Go.Proofs.YtnmignkabcblgaaDoor.E Go.Proofs.YtnmignkabcblgaaDoor.B

/-- The place behind a text. -/
def tK (bs : List UInt8) (k : Nat) : Nat := if tE (bs.drop k) = 0 then k + 2 + tN (bs.drop k) else k

theorem tK_drop (bs : List UInt8) (k : Nat) : bs.drop (tK bs k) = tR (bs.drop k) := by
  unfold tK tR
  split
  · rw [List.drop_drop, List.drop_drop, Nat.add_assoc]
  · rfl

theorem RR.at {M : Addr → Option AV} {h : Heap} {pb : Nat} {S : List Nat} {bs : List UInt8} {bv : AV} {k' : Nat} {x : HB} (hb : h[pb]? = some x) (hs : Sees M h 1 bv (cellsB bs)) (hc : Capped bv) (ho : Off S bv) (hpb : pb ∈ S) (hk : k' ≤ bs.length) : RR M (h.set pb (.c [bv, .int .i64 (k' : Int)] 65 0 0)) pb S bs k' :=
  ⟨bv, by rw [List.getElem?_set_self (lt_of_get hb)], hs.mono (Fr.set _ _ _) (fun b e off s n c hv hm => by
    rw [List.mem_singleton] at hm; subst hm; exact ho _ _ _ _ _ _ hv hpb), hc, ho, hk⟩

theorem rTextR (M : Addr → Option AV) {H : Heap} {pb : Nat} {S : List Nat} {bs : List UInt8} {k : Nat} (hr : RR M H pb S bs k) (hpb : pb ∈ S) (hlen : bs.length < 1000000000000000) :
    SemF Tryd.prog M 63 [.ptr pb 0 0] H fun r h => r = .tup [.str (tS (bs.drop k)), .int .i64 (tE (bs.drop k))] ∧ RR M h pb S bs (tK bs k) ∧ Fr [pb] H h := by
  refine fw Tryd.func63 (by kernel_rfl) rfl (by kernel_rfl) fun C L T hT hS => ?_
  have hr0 := hr
  obtain ⟨bv, hb, hs, hc, ho, hk⟩ := hr
  simp only [gX,gM,gL,gB,List.map_cons,List.map_nil,wantedA,evOp,opv,absC,absC0,isAggT,resA,resultA,binA,eqA,eqGuardA,isConstA,isFlatScalar,shiftOp,strOp,ordB,readN,sliceCells,lenA,storeA,newA,buildA,fillA,buildSliceA,boundsA,bndA,sliceA,ptrOK,fieldAddrA,fieldA,indexA,extractA,convA,isIntT,biA,bytesOf,setAll,List.replicate,List.cons.injEq,exists_eq_left',exists_eq_left,exists_eq_right',eq_self,Option.map_some,Option.map_none,Option.bind_some,Option.bind_none,Option.some.injEq,Prod.mk.injEq,Nat.reduceAdd,Nat.reduceSub,Nat.reduceMul,Nat.reduceLT,Nat.reduceLeDiff,Nat.reduceEqDiff,Int.reduceEq,Int.reduceLT,Int.reduceLE,Int.reduceNe,Int.reduceAdd,beq_self_eq_true,Option.bind_eq_bind,Option.pure_def,bind_pure_comp,Option.map_eq_map,decide_eq_true_eq,ne_eq,not_false_eq_true,not_true_eq_false,Nat.lt_irrefl,Nat.reduceBEq,if_true,if_false,ite_true,ite_false,reduceCtorEq,Bool.false_eq_true,lenB_nil,lenB_slice,lenB_oslice,lenB_str,lenB_agg,indexAddrA_slice,indexAddrA_oslice,indexAddrA_ptr,indexAddrA_optr,loadA_ptr,loadA_optr,lenK,indexK,loadK,Option.toList_some,Option.toList_none,Int.reduceBEq,Int.reduceBNe,Int.reduceMod,Int.reduceDiv,Int.reduceTDiv,Int.reduceTMod,Int.reduceFDiv,Int.reduceSub,Int.reduceNeg,Int.reduceGT,Int.reduceGE,BitVec.reduceOfInt,BitVec.reduceAnd,BitVec.reduceOr,BitVec.reduceXOr,BitVec.reduceToNat,Int.cast_ofNat_Int,Int.reduceToNat,Int.reducePow,Nat.min_eq_left,Int.reduceMul,List.mapM_cons,List.mapM_nil,hT.all,Tryd.f63,hb]
  refine hS.call (rNumR M hr0 hpb hlen 2 (by omega)) fun v h hq => ?_
  obtain ⟨rfl, h1, h2⟩ := hq
  obtain ⟨rest, hrest⟩ : ∃ rest, rest = bs.drop k := ⟨_, rfl⟩
  have hrl : rest.length = bs.length - k := by rw [hrest]; exact List.length_drop
  have hnl : tN rest < 65536 := gV2_lt rest
  obtain ⟨n, hn⟩ : ∃ n, n = tN rest := ⟨_, rfl⟩
  have hgv : ((gV rest 2).toNat : Int) = (n : Int) := by rw [hn]; rfl
  have hh1 := h1
  obtain ⟨bv1, hb1, hs1, hc1, ho1, hk1⟩ := h1
  unfold tK
  rw [← hrest]
  have stay : RR M (h.set pb (.c [bv1, .int .i64 (k : Int)] 65 0 0)) pb S bs k ∧ Fr [pb] H (h.set pb (.c [bv1, .int .i64 (k : Int)] 65 0 0)) := ⟨RR.at hb1 hs1 hc1 ho1 hpb hk, h2.trans (Fr.set _ _ _) (fun b hb => .inl hb)⟩
  by_cases c1 : rest.length < 2
  · have e1 : gE rest 2 = 10 := by unfold gE; rw [if_pos c1]
    have e2 : tE rest = 10 := by unfold tE; rw [if_pos c1]
    have e3 : tS rest = [] := by unfold tS; rw [e2]; rfl
    have e4 : gK bs k 2 = k := by unfold gK; rw [← hrest, if_pos c1]
    rw [e4] at hh1
    rw [e2, e3]
    simp only [gX,gM,gL,gB,List.map_cons,List.map_nil,wantedA,evOp,opv,absC,absC0,isAggT,resA,resultA,binA,eqA,eqGuardA,isConstA,isFlatScalar,shiftOp,strOp,ordB,readN,sliceCells,lenA,storeA,newA,buildA,fillA,buildSliceA,boundsA,bndA,sliceA,ptrOK,fieldAddrA,fieldA,indexA,extractA,convA,isIntT,biA,bytesOf,setAll,List.replicate,List.cons.injEq,exists_eq_left',exists_eq_left,exists_eq_right',eq_self,Option.map_some,Option.map_none,Option.bind_some,Option.bind_none,Option.some.injEq,Prod.mk.injEq,Nat.reduceAdd,Nat.reduceSub,Nat.reduceMul,Nat.reduceLT,Nat.reduceLeDiff,Nat.reduceEqDiff,Int.reduceEq,Int.reduceLT,Int.reduceLE,Int.reduceNe,Int.reduceAdd,beq_self_eq_true,Option.bind_eq_bind,Option.pure_def,bind_pure_comp,Option.map_eq_map,decide_eq_true_eq,ne_eq,not_false_eq_true,not_true_eq_false,Nat.lt_irrefl,Nat.reduceBEq,if_true,if_false,ite_true,ite_false,reduceCtorEq,Bool.false_eq_true,lenB_nil,lenB_slice,lenB_oslice,lenB_str,lenB_agg,indexAddrA_slice,indexAddrA_oslice,indexAddrA_ptr,indexAddrA_optr,loadA_ptr,loadA_optr,lenK,indexK,loadK,Option.toList_some,Option.toList_none,Int.reduceBEq,Int.reduceBNe,Int.reduceMod,Int.reduceDiv,Int.reduceTDiv,Int.reduceTMod,Int.reduceFDiv,Int.reduceSub,Int.reduceNeg,Int.reduceGT,Int.reduceGE,BitVec.reduceOfInt,BitVec.reduceAnd,BitVec.reduceOr,BitVec.reduceXOr,BitVec.reduceToNat,Int.cast_ofNat_Int,Int.reduceToNat,Int.reducePow,Nat.min_eq_left,Int.reduceMul,List.mapM_cons,List.mapM_nil,hT.all,e1]
    exact ⟨hh1, h2⟩
  have e1 : gE rest 2 = 0 := by unfold gE; rw [if_neg c1]
  have e4 : gK bs k 2 = k + 2 := by unfold gK; rw [← hrest, if_neg c1]
  rw [e4] at hh1 hb1 hk1
  by_cases c2 : 4096 < n
  · have e2 : tE rest = 12 := by unfold tE; rw [if_neg c1, ← hn, if_pos c2]
    have e3 : tS rest = [] := by unfold tS; rw [e2]; rfl
    have g2 : (n : Int) > 4096 := by omega
    rw [e2, e3]
    simp only [gX,gM,gL,gB,List.map_cons,List.map_nil,wantedA,evOp,opv,absC,absC0,isAggT,resA,resultA,binA,eqA,eqGuardA,isConstA,isFlatScalar,shiftOp,strOp,ordB,readN,sliceCells,lenA,storeA,newA,buildA,fillA,buildSliceA,boundsA,bndA,sliceA,ptrOK,fieldAddrA,fieldA,indexA,extractA,convA,isIntT,biA,bytesOf,setAll,List.replicate,List.cons.injEq,exists_eq_left',exists_eq_left,exists_eq_right',eq_self,Option.map_some,Option.map_none,Option.bind_some,Option.bind_none,Option.some.injEq,Prod.mk.injEq,Nat.reduceAdd,Nat.reduceSub,Nat.reduceMul,Nat.reduceLT,Nat.reduceLeDiff,Nat.reduceEqDiff,Int.reduceEq,Int.reduceLT,Int.reduceLE,Int.reduceNe,Int.reduceAdd,beq_self_eq_true,Option.bind_eq_bind,Option.pure_def,bind_pure_comp,Option.map_eq_map,decide_eq_true_eq,ne_eq,not_false_eq_true,not_true_eq_false,Nat.lt_irrefl,Nat.reduceBEq,if_true,if_false,ite_true,ite_false,reduceCtorEq,Bool.false_eq_true,lenB_nil,lenB_slice,lenB_oslice,lenB_str,lenB_agg,indexAddrA_slice,indexAddrA_oslice,indexAddrA_ptr,indexAddrA_optr,loadA_ptr,loadA_optr,lenK,indexK,loadK,Option.toList_some,Option.toList_none,Int.reduceBEq,Int.reduceBNe,Int.reduceMod,Int.reduceDiv,Int.reduceTDiv,Int.reduceTMod,Int.reduceFDiv,Int.reduceSub,Int.reduceNeg,Int.reduceGT,Int.reduceGE,BitVec.reduceOfInt,BitVec.reduceAnd,BitVec.reduceOr,BitVec.reduceXOr,BitVec.reduceToNat,Int.cast_ofNat_Int,Int.reduceToNat,Int.reducePow,Nat.min_eq_left,Int.reduceMul,List.mapM_cons,List.mapM_nil,hT.all,e1,hgv,g2,hb1,(show cellsOf bv1 = [bv1] from hs1.cell.1)]
    exact stay
  have g2 : ¬ (n : Int) > 4096 := by omega
  have hd2 : bs.drop (k + 2) = rest.drop 2 := by rw [hrest, List.drop_drop]
  have w1 : IntKind.u64.wrap ((rest.drop 2).length : Int) = ((rest.drop 2).length : Int) := wrap_u64 (by omega) (by simp; omega)
  have hdl : (rest.drop 2).length = rest.length - 2 := List.length_drop
  simp only [gX,gM,gL,gB,List.map_cons,List.map_nil,wantedA,evOp,opv,absC,absC0,isAggT,resA,resultA,binA,eqA,eqGuardA,isConstA,isFlatScalar,shiftOp,strOp,ordB,readN,sliceCells,lenA,storeA,newA,buildA,fillA,buildSliceA,boundsA,bndA,sliceA,ptrOK,fieldAddrA,fieldA,indexA,extractA,convA,isIntT,biA,bytesOf,setAll,List.replicate,List.cons.injEq,exists_eq_left',exists_eq_left,exists_eq_right',eq_self,Option.map_some,Option.map_none,Option.bind_some,Option.bind_none,Option.some.injEq,Prod.mk.injEq,Nat.reduceAdd,Nat.reduceSub,Nat.reduceMul,Nat.reduceLT,Nat.reduceLeDiff,Nat.reduceEqDiff,Int.reduceEq,Int.reduceLT,Int.reduceLE,Int.reduceNe,Int.reduceAdd,beq_self_eq_true,Option.bind_eq_bind,Option.pure_def,bind_pure_comp,Option.map_eq_map,decide_eq_true_eq,ne_eq,not_false_eq_true,not_true_eq_false,Nat.lt_irrefl,Nat.reduceBEq,if_true,if_false,ite_true,ite_false,reduceCtorEq,Bool.false_eq_true,lenB_nil,lenB_slice,lenB_oslice,lenB_str,lenB_agg,indexAddrA_slice,indexAddrA_oslice,indexAddrA_ptr,indexAddrA_optr,loadA_ptr,loadA_optr,lenK,indexK,loadK,Option.toList_some,Option.toList_none,Int.reduceBEq,Int.reduceBNe,Int.reduceMod,Int.reduceDiv,Int.reduceTDiv,Int.reduceTMod,Int.reduceFDiv,Int.reduceSub,Int.reduceNeg,Int.reduceGT,Int.reduceGE,BitVec.reduceOfInt,BitVec.reduceAnd,BitVec.reduceOr,BitVec.reduceXOr,BitVec.reduceToNat,Int.cast_ofNat_Int,Int.reduceToNat,Int.reducePow,Nat.min_eq_left,Int.reduceMul,List.mapM_cons,List.mapM_nil,hT.all,e1,hgv,g2]
  refine hS.one (rLeft M hh1 hlen) ?_
  rw [hd2]
  by_cases c3 : (rest.drop 2).length < n
  · have e2 : tE rest = 10 := by unfold tE; rw [if_neg c1, ← hn, if_neg c2, if_pos c3]
    have e3 : tS rest = [] := by unfold tS; rw [e2]; rfl
    have g3 : ((rest.drop 2).length : Int) < (n : Int) := by omega
    rw [e2, e3]
    simp only [gX,gM,gL,gB,List.map_cons,List.map_nil,wantedA,evOp,opv,absC,absC0,isAggT,resA,resultA,binA,eqA,eqGuardA,isConstA,isFlatScalar,shiftOp,strOp,ordB,readN,sliceCells,lenA,storeA,newA,buildA,fillA,buildSliceA,boundsA,bndA,sliceA,ptrOK,fieldAddrA,fieldA,indexA,extractA,convA,isIntT,biA,bytesOf,setAll,List.replicate,List.cons.injEq,exists_eq_left',exists_eq_left,exists_eq_right',eq_self,Option.map_some,Option.map_none,Option.bind_some,Option.bind_none,Option.some.injEq,Prod.mk.injEq,Nat.reduceAdd,Nat.reduceSub,Nat.reduceMul,Nat.reduceLT,Nat.reduceLeDiff,Nat.reduceEqDiff,Int.reduceEq,Int.reduceLT,Int.reduceLE,Int.reduceNe,Int.reduceAdd,beq_self_eq_true,Option.bind_eq_bind,Option.pure_def,bind_pure_comp,Option.map_eq_map,decide_eq_true_eq,ne_eq,not_false_eq_true,not_true_eq_false,Nat.lt_irrefl,Nat.reduceBEq,if_true,if_false,ite_true,ite_false,reduceCtorEq,Bool.false_eq_true,lenB_nil,lenB_slice,lenB_oslice,lenB_str,lenB_agg,indexAddrA_slice,indexAddrA_oslice,indexAddrA_ptr,indexAddrA_optr,loadA_ptr,loadA_optr,lenK,indexK,loadK,Option.toList_some,Option.toList_none,Int.reduceBEq,Int.reduceBNe,Int.reduceMod,Int.reduceDiv,Int.reduceTDiv,Int.reduceTMod,Int.reduceFDiv,Int.reduceSub,Int.reduceNeg,Int.reduceGT,Int.reduceGE,BitVec.reduceOfInt,BitVec.reduceAnd,BitVec.reduceOr,BitVec.reduceXOr,BitVec.reduceToNat,Int.cast_ofNat_Int,Int.reduceToNat,Int.reducePow,Nat.min_eq_left,Int.reduceMul,List.mapM_cons,List.mapM_nil,hT.all,w1,g3,hb1]
    exact stay
  have g3 : ¬ ((rest.drop 2).length : Int) < (n : Int) := by omega
  have w2 : IntKind.i64.wrap (n : Int) = (n : Int) := wrap_i64 (by omega) (by omega)
  have w3 : IntKind.i64.wrap (((k + 2 : Nat) : Int) + n) = ((k + 2 + n : Nat) : Int) := by rw [wrap_i64 (by omega) (by omega)]; omega
  have w4 : IntKind.i64.wrap (((k + 2 + n : Nat) : Int) - n) = ((k + 2 : Nat) : Int) := by rw [wrap_i64 (by omega) (by omega)]; omega
  obtain ⟨pv, p1, p2, p3, p4⟩ := hs1.slice (T := T) hc1 (lo := k + 2) (hi := k + 2 + n) (by omega) (by simp; omega) hT.ty24 rfl hT.ty5 rfl (some (.int .i64 ((k + 2 : Nat) : Int))) (some (.int .i64 ((k + 2 + n : Nat) : Int))) (.inr ⟨_, rfl⟩) (.inr ⟨_, rfl⟩)
  have hpc : (List.take (k + 2 + n) (cellsB bs)).drop (k + 2) = cellsB ((rest.drop 2).take n) := by
    rw [List.drop_take, show k + 2 + n - (k + 2) = n by omega, ← hd2]; simp [cellsB, List.map_take, List.map_drop]
  rw [hpc] at p2
  have cv := convS hT p2
  have ci : ∀ H k x, convA T M H 3 28 (.int k x) = some (.int .u64 (IntKind.u64.wrap x), H) := fun H k x => by simp only [convA, hT.ty3, hT.ty28]
  have cj : ∀ H k x, convA T M H 28 3 (.int k x) = some (.int .i64 (IntKind.i64.wrap x), H) := fun H k x => by simp only [convA, hT.ty3, hT.ty28]
  simp only [gX,gM,gL,gB,List.map_cons,List.map_nil,wantedA,evOp,opv,absC,absC0,isAggT,resA,resultA,binA,eqA,eqGuardA,isConstA,isFlatScalar,shiftOp,strOp,ordB,readN,sliceCells,lenA,storeA,newA,buildA,fillA,buildSliceA,boundsA,bndA,ptrOK,fieldAddrA,fieldA,indexA,extractA,isIntT,biA,bytesOf,setAll,List.replicate,List.cons.injEq,exists_eq_left',exists_eq_left,exists_eq_right',eq_self,Option.map_some,Option.map_none,Option.bind_some,Option.bind_none,Option.some.injEq,Prod.mk.injEq,Nat.reduceAdd,Nat.reduceSub,Nat.reduceMul,Nat.reduceLT,Nat.reduceLeDiff,Nat.reduceEqDiff,Int.reduceEq,Int.reduceLT,Int.reduceLE,Int.reduceNe,Int.reduceAdd,beq_self_eq_true,Option.bind_eq_bind,Option.pure_def,bind_pure_comp,Option.map_eq_map,decide_eq_true_eq,ne_eq,not_false_eq_true,not_true_eq_false,Nat.lt_irrefl,Nat.reduceBEq,if_true,if_false,ite_true,ite_false,reduceCtorEq,Bool.false_eq_true,lenB_nil,lenB_slice,lenB_oslice,lenB_str,lenB_agg,indexAddrA_slice,indexAddrA_oslice,indexAddrA_ptr,indexAddrA_optr,loadA_ptr,loadA_optr,lenK,indexK,loadK,Option.toList_some,Option.toList_none,Int.reduceBEq,Int.reduceBNe,Int.reduceMod,Int.reduceDiv,Int.reduceTDiv,Int.reduceTMod,Int.reduceFDiv,Int.reduceSub,Int.reduceNeg,Int.reduceGT,Int.reduceGE,BitVec.reduceOfInt,BitVec.reduceAnd,BitVec.reduceOr,BitVec.reduceXOr,BitVec.reduceToNat,Int.cast_ofNat_Int,Int.reduceToNat,Int.reducePow,Nat.min_eq_left,Int.reduceMul,List.mapM_cons,List.mapM_nil,hT.all,w1,g3,hb1,w2,w3,p1,cv,ci,cj]
  refine hS.ex (rValid M h ((rest.drop 2).take n) (by rw [List.length_take]; omega)) ?_
  cases hv : validU ((rest.drop 2).take n) with
  | false =>
    have e2 : tE rest = 14 := by unfold tE; rw [if_neg c1, ← hn, if_neg c2, if_neg c3, hv]; rfl
    have e3 : tS rest = [] := by unfold tS; rw [e2]; rfl
    rw [e2, e3]
    simp only [gX,gM,gL,gB,List.map_cons,List.map_nil,wantedA,evOp,opv,absC,absC0,isAggT,resA,resultA,binA,eqA,eqGuardA,isConstA,isFlatScalar,shiftOp,strOp,ordB,readN,sliceCells,lenA,storeA,newA,buildA,fillA,buildSliceA,boundsA,bndA,sliceA,ptrOK,fieldAddrA,fieldA,indexA,extractA,convA,isIntT,biA,bytesOf,setAll,List.replicate,List.cons.injEq,exists_eq_left',exists_eq_left,exists_eq_right',eq_self,Option.map_some,Option.map_none,Option.bind_some,Option.bind_none,Option.some.injEq,Prod.mk.injEq,Nat.reduceAdd,Nat.reduceSub,Nat.reduceMul,Nat.reduceLT,Nat.reduceLeDiff,Nat.reduceEqDiff,Int.reduceEq,Int.reduceLT,Int.reduceLE,Int.reduceNe,Int.reduceAdd,beq_self_eq_true,Option.bind_eq_bind,Option.pure_def,bind_pure_comp,Option.map_eq_map,decide_eq_true_eq,ne_eq,not_false_eq_true,not_true_eq_false,Nat.lt_irrefl,Nat.reduceBEq,if_true,if_false,ite_true,ite_false,reduceCtorEq,Bool.false_eq_true,lenB_nil,lenB_slice,lenB_oslice,lenB_str,lenB_agg,indexAddrA_slice,indexAddrA_oslice,indexAddrA_ptr,indexAddrA_optr,loadA_ptr,loadA_optr,lenK,indexK,loadK,Option.toList_some,Option.toList_none,Int.reduceBEq,Int.reduceBNe,Int.reduceMod,Int.reduceDiv,Int.reduceTDiv,Int.reduceTMod,Int.reduceFDiv,Int.reduceSub,Int.reduceNeg,Int.reduceGT,Int.reduceGE,BitVec.reduceOfInt,BitVec.reduceAnd,BitVec.reduceOr,BitVec.reduceXOr,BitVec.reduceToNat,Int.cast_ofNat_Int,Int.reduceToNat,Int.reducePow,Nat.min_eq_left,Int.reduceMul,List.mapM_cons,List.mapM_nil,hT.all,hb1]
    exact stay
  | true =>
    have e2 : tE rest = 0 := by unfold tE; rw [if_neg c1, ← hn, if_neg c2, if_neg c3, hv]; rfl
    have e3 : tS rest = (rest.drop 2).take n := by unfold tS; rw [e2, ← hn]; rfl
    obtain ⟨h', hh'⟩ : ∃ h', h' = h.set pb (.c [bv1, .int .i64 ((k + 2 + n : Nat) : Int)] 65 0 0) := ⟨_, rfl⟩
    have hat : RR M h' pb S bs (k + 2 + n) := hh' ▸ RR.at hb1 hs1 hc1 ho1 hpb (by omega)
    have hb2 : h'[pb]? = some (.c [bv1, .int .i64 ((k + 2 + n : Nat) : Int)] 65 0 0) := by rw [hh', List.getElem?_set_self (lt_of_get hb1)]
    have hf2 : Fr [pb] H h' := hh' ▸ h2.trans (Fr.set _ _ _) (fun b hb => .inl hb)
    have hs2 : Sees M h' 1 bv1 (cellsB bs) := hh' ▸ hs1.mono (Fr.set _ _ _) (fun b e off s n c hv hm => by
      rw [List.mem_singleton] at hm; subst hm; exact ho1 _ _ _ _ _ _ hv hpb)
    obtain ⟨qv, q1, q2, q3, q4⟩ := hs2.slice (T := T) hc1 (lo := k + 2) (hi := k + 2 + n) (by omega) (by simp; omega) hT.ty24 rfl hT.ty5 rfl (some (.int .i64 ((k + 2 : Nat) : Int))) (some (.int .i64 ((k + 2 + n : Nat) : Int))) (.inr ⟨_, rfl⟩) (.inr ⟨_, rfl⟩)
    rw [hpc] at q2
    have cq := convS hT q2
    rw [e2, e3]
    simp only [gX,gM,gL,gB,List.map_cons,List.map_nil,wantedA,evOp,opv,absC,absC0,isAggT,resA,resultA,binA,eqA,eqGuardA,isConstA,isFlatScalar,shiftOp,strOp,ordB,readN,sliceCells,lenA,storeA,newA,buildA,fillA,buildSliceA,boundsA,bndA,ptrOK,fieldAddrA,fieldA,indexA,extractA,isIntT,biA,bytesOf,setAll,List.replicate,List.cons.injEq,exists_eq_left',exists_eq_left,exists_eq_right',eq_self,Option.map_some,Option.map_none,Option.bind_some,Option.bind_none,Option.some.injEq,Prod.mk.injEq,Nat.reduceAdd,Nat.reduceSub,Nat.reduceMul,Nat.reduceLT,Nat.reduceLeDiff,Nat.reduceEqDiff,Int.reduceEq,Int.reduceLT,Int.reduceLE,Int.reduceNe,Int.reduceAdd,beq_self_eq_true,Option.bind_eq_bind,Option.pure_def,bind_pure_comp,Option.map_eq_map,decide_eq_true_eq,ne_eq,not_false_eq_true,not_true_eq_false,Nat.lt_irrefl,Nat.reduceBEq,if_true,if_false,ite_true,ite_false,reduceCtorEq,Bool.false_eq_true,lenB_nil,lenB_slice,lenB_oslice,lenB_str,lenB_agg,indexAddrA_slice,indexAddrA_oslice,indexAddrA_ptr,indexAddrA_optr,loadA_ptr,loadA_optr,lenK,indexK,loadK,Option.toList_some,Option.toList_none,Int.reduceBEq,Int.reduceBNe,Int.reduceMod,Int.reduceDiv,Int.reduceTDiv,Int.reduceTMod,Int.reduceFDiv,Int.reduceSub,Int.reduceNeg,Int.reduceGT,Int.reduceGE,BitVec.reduceOfInt,BitVec.reduceAnd,BitVec.reduceOr,BitVec.reduceXOr,BitVec.reduceToNat,Int.cast_ofNat_Int,Int.reduceToNat,Int.reducePow,Nat.min_eq_left,Int.reduceMul,List.mapM_cons,List.mapM_nil,hT.all,hb1,w2,w3,w4,← hh',hb2,q1,cq,ci,cj]
    exact ⟨hn ▸ hat, hf2⟩

end Go.Proofs.YtnmignkabcblgaaDoor.C
