/- Part of a claim: strings.Builder's methods. -/
import Derived.Test.YtecfmnldanahiaaDoorP5
import Derived.Test.YtecfmnldanahiaaDoorBB
set_option linter.unusedSimpArgs false
set_option linter.unusedVariables false
set_option maxRecDepth 100000
set_option maxHeartbeats 10000000
namespace Go.Proofs.YtecfmnldanahiaaDoor.B
open Go Go.RowKit Go.Proofs.YtecfmnldanahiaaDoor.E Go.Proofs.YtecfmnldanahiaaDoor.PC

abbrev BSp := BS 74 5
abbrev BGp := BG 74 5

theorem eq_ptr {T : Tab} (hT : Ty T) {o q : Operand} {b : Nat} : binA T .eql 71 o q (.ptr b 0 0) .nilptr = some (.bool false) := by
  simp [binA, eqGuardA, eqA, hT.all]

theorem conv_up {T : Tab} (hT : Ty T) {M : Addr → Option AV} {H : Heap} {b : Nat} {self v : AV} (h0 : H[b]? = some (.c [self, v] 74 0 0)) : convM T M H 71 116 (.ptr b 0 0) = some (.ptr b 0 0, H) := by
  simp [convM, convP, hT.all, h0]
theorem conv_down {T : Tab} (hT : Ty T) {M : Addr → Option AV} {H : Heap} {b : Nat} {self v : AV} (h0 : H[b]? = some (.c [self, v] 74 0 0)) : convM T M H 116 71 (.ptr b 0 0) = some (.ptr b 0 0, H) := by
  simp [convM, convP, hT.all, h0]

theorem bCheck (M : Addr → Option AV) {H : Heap} {b : Nat} {self v : AV} (h0 : H[b]? = some (.c [self, v] 74 0 0)) (hs : self = .nilptr ∨ self = .ptr b 0 0) :
    SemF Tryd.prog M 60 [.ptr b 0 0] H fun r h => r = .tup [] ∧ h = H.set b (.c [.ptr b 0 0, v] 74 0 0) := by
  refine fw Tryd.func60 (by kernel_rfl) rfl (by kernel_rfl) fun C L T hT hS => ?_
  rcases hs with rfl | rfl
  · have c1 := conv_up hT (M := M) h0
    have c2 := conv_down hT (M := M) h0
    simp only [gX,gM,gL,gB,List.map_cons,List.map_nil,wantedA,evOp,opv,absC,absC0,isAggT,resA,resultA,binA,eqA,eqGuardA,isConstA,isFlatScalar,shiftOp,strOp,ordB,readN,sliceCells,lenA,storeA,newA,buildA,fillA,buildSliceA,boundsA,bndA,sliceA,ptrOK,fieldAddrA,fieldA,indexA,extractA,convA,isIntT,biA,bytesOf,setAll,List.replicate,List.cons.injEq,exists_eq_left',exists_eq_left,exists_eq_right',eq_self,Option.map_some,Option.map_none,Option.bind_some,Option.bind_none,Option.some.injEq,Prod.mk.injEq,Nat.reduceAdd,Nat.reduceSub,Nat.reduceMul,Nat.reduceLT,Nat.reduceLeDiff,Nat.reduceEqDiff,Int.reduceEq,Int.reduceLT,Int.reduceLE,Int.reduceNe,Int.reduceAdd,beq_self_eq_true,Option.bind_eq_bind,Option.pure_def,bind_pure_comp,Option.map_eq_map,decide_eq_true_eq,ne_eq,not_false_eq_true,not_true_eq_false,Nat.lt_irrefl,Nat.reduceBEq,if_true,if_false,ite_true,ite_false,reduceCtorEq,Bool.false_eq_true,lenB_nil,lenB_slice,lenB_oslice,lenB_str,lenB_agg,indexAddrA_slice,indexAddrA_oslice,indexAddrA_ptr,indexAddrA_optr,loadA_ptr,loadA_optr,lenK,indexK,loadK,Option.toList_some,Option.toList_none,Int.reduceBEq,Int.reduceBNe,Int.reduceMod,Int.reduceDiv,Int.reduceTDiv,Int.reduceTMod,Int.reduceFDiv,Int.reduceSub,Int.reduceNeg,Int.reduceGT,Int.reduceGE,BitVec.reduceOfInt,BitVec.reduceAnd,BitVec.reduceOr,BitVec.reduceXOr,BitVec.reduceToNat,Int.cast_ofNat_Int,Int.reduceToNat,Int.reducePow,Nat.min_eq_left,Int.reduceMul,List.mapM_cons,List.mapM_nil,hT.all,Tryd.f60,h0,c1]
    refine hS.one (X0_ok M 76 sameX rfl [.ptr b 0 0] H (.ptr b 0 0) H rfl) ?_
    simp only [gX,gM,gL,gB,List.map_cons,List.map_nil,wantedA,evOp,opv,absC,absC0,isAggT,resA,resultA,binA,eqA,eqGuardA,isConstA,isFlatScalar,shiftOp,strOp,ordB,readN,sliceCells,lenA,storeA,newA,buildA,fillA,buildSliceA,boundsA,bndA,sliceA,ptrOK,fieldAddrA,fieldA,indexA,extractA,convA,isIntT,biA,bytesOf,setAll,List.replicate,List.cons.injEq,exists_eq_left',exists_eq_left,exists_eq_right',eq_self,Option.map_some,Option.map_none,Option.bind_some,Option.bind_none,Option.some.injEq,Prod.mk.injEq,Nat.reduceAdd,Nat.reduceSub,Nat.reduceMul,Nat.reduceLT,Nat.reduceLeDiff,Nat.reduceEqDiff,Int.reduceEq,Int.reduceLT,Int.reduceLE,Int.reduceNe,Int.reduceAdd,beq_self_eq_true,Option.bind_eq_bind,Option.pure_def,bind_pure_comp,Option.map_eq_map,decide_eq_true_eq,ne_eq,not_false_eq_true,not_true_eq_false,Nat.lt_irrefl,Nat.reduceBEq,if_true,if_false,ite_true,ite_false,reduceCtorEq,Bool.false_eq_true,lenB_nil,lenB_slice,lenB_oslice,lenB_str,lenB_agg,indexAddrA_slice,indexAddrA_oslice,indexAddrA_ptr,indexAddrA_optr,loadA_ptr,loadA_optr,lenK,indexK,loadK,Option.toList_some,Option.toList_none,Int.reduceBEq,Int.reduceBNe,Int.reduceMod,Int.reduceDiv,Int.reduceTDiv,Int.reduceTMod,Int.reduceFDiv,Int.reduceSub,Int.reduceNeg,Int.reduceGT,Int.reduceGE,BitVec.reduceOfInt,BitVec.reduceAnd,BitVec.reduceOr,BitVec.reduceXOr,BitVec.reduceToNat,Int.cast_ofNat_Int,Int.reduceToNat,Int.reducePow,Nat.min_eq_left,Int.reduceMul,List.mapM_cons,List.mapM_nil,hT.all,h0,c2]
  · simp only [gX,gM,gL,gB,List.map_cons,List.map_nil,wantedA,evOp,opv,absC,absC0,isAggT,resA,resultA,binA,eqA,eqGuardA,isConstA,isFlatScalar,shiftOp,strOp,ordB,readN,sliceCells,lenA,storeA,newA,buildA,fillA,buildSliceA,boundsA,bndA,sliceA,ptrOK,fieldAddrA,fieldA,indexA,extractA,convA,isIntT,biA,bytesOf,setAll,List.replicate,List.cons.injEq,exists_eq_left',exists_eq_left,exists_eq_right',eq_self,Option.map_some,Option.map_none,Option.bind_some,Option.bind_none,Option.some.injEq,Prod.mk.injEq,Nat.reduceAdd,Nat.reduceSub,Nat.reduceMul,Nat.reduceLT,Nat.reduceLeDiff,Nat.reduceEqDiff,Int.reduceEq,Int.reduceLT,Int.reduceLE,Int.reduceNe,Int.reduceAdd,beq_self_eq_true,Option.bind_eq_bind,Option.pure_def,bind_pure_comp,Option.map_eq_map,decide_eq_true_eq,ne_eq,not_false_eq_true,not_true_eq_false,Nat.lt_irrefl,Nat.reduceBEq,if_true,if_false,ite_true,ite_false,reduceCtorEq,Bool.false_eq_true,lenB_nil,lenB_slice,lenB_oslice,lenB_str,lenB_agg,indexAddrA_slice,indexAddrA_oslice,indexAddrA_ptr,indexAddrA_optr,loadA_ptr,loadA_optr,lenK,indexK,loadK,Option.toList_some,Option.toList_none,Int.reduceBEq,Int.reduceBNe,Int.reduceMod,Int.reduceDiv,Int.reduceTDiv,Int.reduceTMod,Int.reduceFDiv,Int.reduceSub,Int.reduceNeg,Int.reduceGT,Int.reduceGE,BitVec.reduceOfInt,BitVec.reduceAnd,BitVec.reduceOr,BitVec.reduceXOr,BitVec.reduceToNat,Int.cast_ofNat_Int,Int.reduceToNat,Int.reducePow,Nat.min_eq_left,Int.reduceMul,List.mapM_cons,List.mapM_nil,hT.all,Tryd.f60,h0]
    exact (set_same h0).symm

/-- Bytes put behind bytes. -/
theorem appB {T : Tab} (hT : Ty T) {M : Addr → Option AV} {H : Heap} {v x : AV} {o : Option Nat} {bs new : List UInt8} (h : Rep 5 1 H v o (cellsB bs)) {t2 : TypeId} {i2 : TI} (ht2 : T t2 = some i2) (hi2 : isIntT i2.und = false) (hx : lenA x = some new.length) (hc : sliceCells M H x 1 = some (cellsB new)) (room : bs.length + new.length ≤ 140737488355328) :
    ∃ v' o' H', appendA T M H [72, t2] v x = some (v', H') ∧ Rep 5 1 H' v' o' (cellsB (bs ++ new)) ∧ Fr o.toList H H' ∧ Rep.New H o o' := by
  have := h.append (t := 72) (t2 := t2) (ts := []) (T := T) (M := M) (hT.ty72) rfl ht2 hi2 hT.ty5 rfl (by omega) (by simp) rfl hx hc (cellsB_cell _) (by simp) (cellsB_cell _) (by simp; omega)
  simpa only [cellsB, List.map_append] using this

theorem bByte (M : Addr → Option AV) {H : Heap} {b : Nat} {o : Option Nat} {bs : List UInt8} (hw : BSp H b o bs) (c : UInt8) (room : bs.length + 1 ≤ 140737488355328) :
    SemF Tryd.prog M 43 [.ptr b 0 0, u8 c] H fun r h => r = .nilIface ∧ ∃ o', BGp H h b o o' (bs ++ [c]) := by
  refine fw Tryd.func43 (by kernel_rfl) rfl (by kernel_rfl) fun C L T hT hS => ?_
  obtain ⟨⟨self, v, h0, hs, hr⟩, hne⟩ := hw
  simp only [gX,gM,gL,gB,List.map_cons,List.map_nil,wantedA,evOp,opv,absC,absC0,isAggT,resA,resultA,binA,eqA,eqGuardA,isConstA,isFlatScalar,shiftOp,strOp,ordB,readN,sliceCells,lenA,storeA,newA,buildA,fillA,buildSliceA,boundsA,bndA,sliceA,ptrOK,fieldAddrA,fieldA,indexA,extractA,convA,isIntT,biA,bytesOf,setAll,List.replicate,List.cons.injEq,exists_eq_left',exists_eq_left,exists_eq_right',eq_self,Option.map_some,Option.map_none,Option.bind_some,Option.bind_none,Option.some.injEq,Prod.mk.injEq,Nat.reduceAdd,Nat.reduceSub,Nat.reduceMul,Nat.reduceLT,Nat.reduceLeDiff,Nat.reduceEqDiff,Int.reduceEq,Int.reduceLT,Int.reduceLE,Int.reduceNe,Int.reduceAdd,beq_self_eq_true,Option.bind_eq_bind,Option.pure_def,bind_pure_comp,Option.map_eq_map,decide_eq_true_eq,ne_eq,not_false_eq_true,not_true_eq_false,Nat.lt_irrefl,Nat.reduceBEq,if_true,if_false,ite_true,ite_false,reduceCtorEq,Bool.false_eq_true,lenB_nil,lenB_slice,lenB_oslice,lenB_str,lenB_agg,indexAddrA_slice,indexAddrA_oslice,indexAddrA_ptr,indexAddrA_optr,loadA_ptr,loadA_optr,lenK,indexK,loadK,Option.toList_some,Option.toList_none,Int.reduceBEq,Int.reduceBNe,Int.reduceMod,Int.reduceDiv,Int.reduceTDiv,Int.reduceTMod,Int.reduceFDiv,Int.reduceSub,Int.reduceNeg,Int.reduceGT,Int.reduceGE,BitVec.reduceOfInt,BitVec.reduceAnd,BitVec.reduceOr,BitVec.reduceXOr,BitVec.reduceToNat,Int.cast_ofNat_Int,Int.reduceToNat,Int.reducePow,Nat.min_eq_left,Int.reduceMul,List.mapM_cons,List.mapM_nil,hT.all,Tryd.f43]
  refine hS.one (bCheck M h0 hs) ?_
  have hlt := lt_of_get h0
  have hF1 : Fr [b] H (H.set b (.c [.ptr b 0 0, v] 74 0 0)) := Fr.set _ _ _
  have hr1 := hr.mono hF1 (by rintro c hc hm; rw [List.mem_singleton] at hm; subst hm; exact hne hc)
  have h1 : (H.set b (.c [.ptr b 0 0, v] 74 0 0))[b]? = some (.c [.ptr b 0 0, v] 74 0 0) := by rw [List.getElem?_set_self hlt]
  have hw1 : BSp H b o bs := ⟨⟨self, v, h0, hs, hr⟩, hne⟩
  obtain ⟨H1, hH1⟩ : ∃ H1, H1 = H.set b (.c [.ptr b 0 0, v] 74 0 0) := ⟨_, rfl⟩
  rw [← hH1] at hF1 hr1 h1 ⊢
  have hF2 : Fr [] H1 (H1 ++ [.c [u8 c] 5 0 0]) := Fr.app _ _
  obtain ⟨s', o2, h2, ha, hr2, hf, hn⟩ := appB hT (M := M) (hr1.mono hF2 (by simp)) (t2 := 72) (x := .slice H1.length 0 0 1 1 (some 1)) (new := [c]) hT.ty72 rfl rfl (by simp [sliceCells]) (by simpa using room)
  have h3 : h2[b]? = some (.c [.ptr b 0 0, v] 74 0 0) := hf.get (hF2.get h1 (by simp)) (by
    cases o with
    | none => simp
    | some x => simp; rintro rfl; exact hne rfl)
  simp only [gX,gM,gL,gB,List.map_cons,List.map_nil,wantedA,evOp,opv,absC,absC0,isAggT,resA,resultA,binA,eqA,eqGuardA,isConstA,isFlatScalar,shiftOp,strOp,ordB,readN,sliceCells,lenA,storeA,newA,buildA,fillA,buildSliceA,boundsA,bndA,sliceA,ptrOK,fieldAddrA,fieldA,indexA,extractA,convA,isIntT,biA,bytesOf,setAll,List.replicate,List.cons.injEq,exists_eq_left',exists_eq_left,exists_eq_right',eq_self,Option.map_some,Option.map_none,Option.bind_some,Option.bind_none,Option.some.injEq,Prod.mk.injEq,Nat.reduceAdd,Nat.reduceSub,Nat.reduceMul,Nat.reduceLT,Nat.reduceLeDiff,Nat.reduceEqDiff,Int.reduceEq,Int.reduceLT,Int.reduceLE,Int.reduceNe,Int.reduceAdd,beq_self_eq_true,Option.bind_eq_bind,Option.pure_def,bind_pure_comp,Option.map_eq_map,decide_eq_true_eq,ne_eq,not_false_eq_true,not_true_eq_false,Nat.lt_irrefl,Nat.reduceBEq,if_true,if_false,ite_true,ite_false,reduceCtorEq,Bool.false_eq_true,lenB_nil,lenB_slice,lenB_oslice,lenB_str,lenB_agg,indexAddrA_slice,indexAddrA_oslice,indexAddrA_ptr,indexAddrA_optr,loadA_ptr,loadA_optr,lenK,indexK,loadK,Option.toList_some,Option.toList_none,Int.reduceBEq,Int.reduceBNe,Int.reduceMod,Int.reduceDiv,Int.reduceTDiv,Int.reduceTMod,Int.reduceFDiv,Int.reduceSub,Int.reduceNeg,Int.reduceGT,Int.reduceGE,BitVec.reduceOfInt,BitVec.reduceAnd,BitVec.reduceOr,BitVec.reduceXOr,BitVec.reduceToNat,Int.cast_ofNat_Int,Int.reduceToNat,Int.reducePow,Nat.min_eq_left,Int.reduceMul,List.mapM_cons,List.mapM_nil,hT.all,h1,cellsOf_u8,isCell_u8,ha,h3,hr2.one.1,hr2.one.2]
  exact ⟨o2, hw1.store (hF1.trans hF2 (by simp)) hf hr2 (hn)⟩

theorem bString (M : Addr → Option AV) {H : Heap} {b : Nat} {o : Option Nat} {bs : List UInt8} (hw : BSp H b o bs) (s : List UInt8) (room : bs.length + s.length ≤ 140737488355328) :
    SemF Tryd.prog M 41 [.ptr b 0 0, .str s] H fun r h => r = .tup [.int .i64 s.length, .nilIface] ∧ ∃ o', BGp H h b o o' (bs ++ s) := by
  refine fw Tryd.func41 (by kernel_rfl) rfl (by kernel_rfl) fun C L T hT hS => ?_
  obtain ⟨⟨self, v, h0, hs, hr⟩, hne⟩ := hw
  simp only [gX,gM,gL,gB,List.map_cons,List.map_nil,wantedA,evOp,opv,absC,absC0,isAggT,resA,resultA,binA,eqA,eqGuardA,isConstA,isFlatScalar,shiftOp,strOp,ordB,readN,sliceCells,lenA,storeA,newA,buildA,fillA,buildSliceA,boundsA,bndA,sliceA,ptrOK,fieldAddrA,fieldA,indexA,extractA,convA,isIntT,biA,bytesOf,setAll,List.replicate,List.cons.injEq,exists_eq_left',exists_eq_left,exists_eq_right',eq_self,Option.map_some,Option.map_none,Option.bind_some,Option.bind_none,Option.some.injEq,Prod.mk.injEq,Nat.reduceAdd,Nat.reduceSub,Nat.reduceMul,Nat.reduceLT,Nat.reduceLeDiff,Nat.reduceEqDiff,Int.reduceEq,Int.reduceLT,Int.reduceLE,Int.reduceNe,Int.reduceAdd,beq_self_eq_true,Option.bind_eq_bind,Option.pure_def,bind_pure_comp,Option.map_eq_map,decide_eq_true_eq,ne_eq,not_false_eq_true,not_true_eq_false,Nat.lt_irrefl,Nat.reduceBEq,if_true,if_false,ite_true,ite_false,reduceCtorEq,Bool.false_eq_true,lenB_nil,lenB_slice,lenB_oslice,lenB_str,lenB_agg,indexAddrA_slice,indexAddrA_oslice,indexAddrA_ptr,indexAddrA_optr,loadA_ptr,loadA_optr,lenK,indexK,loadK,Option.toList_some,Option.toList_none,Int.reduceBEq,Int.reduceBNe,Int.reduceMod,Int.reduceDiv,Int.reduceTDiv,Int.reduceTMod,Int.reduceFDiv,Int.reduceSub,Int.reduceNeg,Int.reduceGT,Int.reduceGE,BitVec.reduceOfInt,BitVec.reduceAnd,BitVec.reduceOr,BitVec.reduceXOr,BitVec.reduceToNat,Int.cast_ofNat_Int,Int.reduceToNat,Int.reducePow,Nat.min_eq_left,Int.reduceMul,List.mapM_cons,List.mapM_nil,hT.all,Tryd.f41]
  refine hS.one (bCheck M h0 hs) ?_
  have hlt := lt_of_get h0
  have hF1 : Fr [b] H (H.set b (.c [.ptr b 0 0, v] 74 0 0)) := Fr.set _ _ _
  have hr1 := hr.mono hF1 (by rintro c hc hm; rw [List.mem_singleton] at hm; subst hm; exact hne hc)
  have h1 : (H.set b (.c [.ptr b 0 0, v] 74 0 0))[b]? = some (.c [.ptr b 0 0, v] 74 0 0) := by rw [List.getElem?_set_self hlt]
  have hw1 : BSp H b o bs := ⟨⟨self, v, h0, hs, hr⟩, hne⟩
  obtain ⟨H1, hH1⟩ : ∃ H1, H1 = H.set b (.c [.ptr b 0 0, v] 74 0 0) := ⟨_, rfl⟩
  rw [← hH1] at hF1 hr1 h1 ⊢
  obtain ⟨s', o2, h2, ha, hr2, hf, hn⟩ := appB hT (M := M) hr1 (t2 := 9) (x := .str s) (new := s) hT.ty9 rfl rfl (by simp [sliceCells, u8]) (by simpa using room)
  have h3 : h2[b]? = some (.c [.ptr b 0 0, v] 74 0 0) := hf.get h1 (by
    cases o with
    | none => simp
    | some x => simp; rintro rfl; exact hne rfl)
  simp only [gX,gM,gL,gB,List.map_cons,List.map_nil,wantedA,evOp,opv,absC,absC0,isAggT,resA,resultA,binA,eqA,eqGuardA,isConstA,isFlatScalar,shiftOp,strOp,ordB,readN,sliceCells,lenA,storeA,newA,buildA,fillA,buildSliceA,boundsA,bndA,sliceA,ptrOK,fieldAddrA,fieldA,indexA,extractA,convA,isIntT,biA,bytesOf,setAll,List.replicate,List.cons.injEq,exists_eq_left',exists_eq_left,exists_eq_right',eq_self,Option.map_some,Option.map_none,Option.bind_some,Option.bind_none,Option.some.injEq,Prod.mk.injEq,Nat.reduceAdd,Nat.reduceSub,Nat.reduceMul,Nat.reduceLT,Nat.reduceLeDiff,Nat.reduceEqDiff,Int.reduceEq,Int.reduceLT,Int.reduceLE,Int.reduceNe,Int.reduceAdd,beq_self_eq_true,Option.bind_eq_bind,Option.pure_def,bind_pure_comp,Option.map_eq_map,decide_eq_true_eq,ne_eq,not_false_eq_true,not_true_eq_false,Nat.lt_irrefl,Nat.reduceBEq,if_true,if_false,ite_true,ite_false,reduceCtorEq,Bool.false_eq_true,lenB_nil,lenB_slice,lenB_oslice,lenB_str,lenB_agg,indexAddrA_slice,indexAddrA_oslice,indexAddrA_ptr,indexAddrA_optr,loadA_ptr,loadA_optr,lenK,indexK,loadK,Option.toList_some,Option.toList_none,Int.reduceBEq,Int.reduceBNe,Int.reduceMod,Int.reduceDiv,Int.reduceTDiv,Int.reduceTMod,Int.reduceFDiv,Int.reduceSub,Int.reduceNeg,Int.reduceGT,Int.reduceGE,BitVec.reduceOfInt,BitVec.reduceAnd,BitVec.reduceOr,BitVec.reduceXOr,BitVec.reduceToNat,Int.cast_ofNat_Int,Int.reduceToNat,Int.reducePow,Nat.min_eq_left,Int.reduceMul,List.mapM_cons,List.mapM_nil,hT.all,h1,ha,h3,hr2.one.1,hr2.one.2]
  exact ⟨o2, hw1.store hF1 hf hr2 hn⟩

/-- What is written, as a string. -/
theorem bText (M : Addr → Option AV) {H : Heap} {b : Nat} {o : Option Nat} {bs : List UInt8} (hw : BSp H b o bs) (hz : bs ≠ []) (room : bs.length ≤ 140737488355328) :
    SemF Tryd.prog M 44 [.ptr b 0 0] H fun r h => r = .str bs := by
  refine fw Tryd.func44 (by kernel_rfl) rfl (by kernel_rfl) fun C L T hT hS => ?_
  obtain ⟨⟨self, v, h0, hs, hr⟩, hne⟩ := hw
  have hl : 0 < bs.length := List.length_pos_iff.2 hz
  have hl2 : ¬ bs.length = 0 := by omega
  have hl3 : 0 < (bs.length : Int) ∧ ((bs.length : Int)).toNat ≤ (cellsB bs).length ∧ ((bs.length : Int)).toNat ≤ 9223372036854775807 := ⟨by omega, by simp, by omega⟩
  have hl4 : bytesOf (List.take ((bs.length : Int)).toNat (cellsB bs)) = some bs := by
    rw [Int.toNat_natCast, List.take_of_length_le (by simp), bytesOf_cells]
  generalize hcs : cellsB bs = cs at hr
  cases hr with
  | nil => cases bs with
    | nil => exact absurd rfl hz
    | cons x l => cases hcs
  | own c ep sep n _ k1 k2 k3 =>
    subst hcs
    have hn : n = bs.length := by simp at k3; omega
    subst hn
    simp only [gX,gM,gL,gB,List.map_cons,List.map_nil,wantedA,evOp,opv,absC,absC0,isAggT,resA,resultA,binA,eqA,eqGuardA,isConstA,isFlatScalar,shiftOp,strOp,ordB,readN,sliceCells,lenA,storeA,newA,buildA,fillA,buildSliceA,boundsA,bndA,sliceA,ptrOK,fieldAddrA,fieldA,indexA,extractA,convA,isIntT,biA,setAll,List.replicate,List.cons.injEq,exists_eq_left',exists_eq_left,exists_eq_right',eq_self,Option.map_some,Option.map_none,Option.bind_some,Option.bind_none,Option.some.injEq,Prod.mk.injEq,Nat.reduceAdd,Nat.reduceSub,Nat.reduceMul,Nat.reduceLT,Nat.reduceLeDiff,Nat.reduceEqDiff,Int.reduceEq,Int.reduceLT,Int.reduceLE,Int.reduceNe,Int.reduceAdd,beq_self_eq_true,Option.bind_eq_bind,Option.pure_def,bind_pure_comp,Option.map_eq_map,decide_eq_true_eq,ne_eq,not_false_eq_true,not_true_eq_false,Nat.lt_irrefl,Nat.reduceBEq,if_true,if_false,ite_true,ite_false,reduceCtorEq,Bool.false_eq_true,lenB_nil,lenB_slice,lenB_oslice,lenB_str,lenB_agg,indexAddrA_slice,indexAddrA_oslice,indexAddrA_ptr,indexAddrA_optr,loadA_ptr,loadA_optr,lenK,indexK,loadK,Option.toList_some,Option.toList_none,Int.reduceBEq,Int.reduceBNe,Int.reduceMod,Int.reduceDiv,Int.reduceTDiv,Int.reduceTMod,Int.reduceFDiv,Int.reduceSub,Int.reduceNeg,Int.reduceGT,Int.reduceGE,BitVec.reduceOfInt,BitVec.reduceAnd,BitVec.reduceOr,BitVec.reduceXOr,BitVec.reduceToNat,Int.cast_ofNat_Int,Int.reduceToNat,Int.reducePow,Nat.min_eq_left,Int.reduceMul,List.mapM_cons,List.mapM_nil,hT.all,Tryd.f44,h0,k1,hl2,hl3,hl4,sliceDataA,unsafeStrA]
  | empty c ep sep k1 k2 => cases bs with
    | nil => exact absurd rfl hz
    | cons x l => cases hcs

end Go.Proofs.YtecfmnldanahiaaDoor.B
