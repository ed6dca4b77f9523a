/- Part of a claim: the writer: bytes behind bytes. -/
import Derived.Test.YtnmignkabcblgaaDoorC2
set_option linter.unusedSimpArgs false
set_option linter.unusedVariables false
set_option maxRecDepth 100000
set_option maxHeartbeats 10000000
namespace Go.Proofs.YtnmignkabcblgaaDoor.C
open Go Go.RowKit Go.Proofs.YtnmignkabcblgaaDoor.E Go.Proofs.YtnmignkabcblgaaDoor.B

/-- Bytes put behind bytes. -/
theorem appB {T : Tab} (hT : Ty T) {M : Addr → Option AV} {H : Heap} {v x : AV} {o : Option Nat} {bs new : List UInt8} (h : Rep 5 1 H v o (cellsB bs)) {t2 : TypeId} {i2 : TI} (ht2 : T t2 = some i2) (hi2 : isIntT i2.und = false) (hx : lenA x = some new.length) (hc : sliceCells M H x 1 = some (cellsB new)) (room : bs.length + new.length ≤ 140737488355328) :
    ∃ v' o' H', appendA T M H [24, t2] v x = some (v', H') ∧ Rep 5 1 H' v' o' (cellsB (bs ++ new)) ∧ Fr o.toList H H' ∧ Rep.New H o o' := by
  have := h.append (t := 24) (t2 := t2) (ts := []) (T := T) (M := M) hT.ty24 rfl ht2 hi2 hT.ty5 rfl (by omega) (by simp) rfl hx hc (cellsB_cell _) (by simp) (cellsB_cell _) (by simp; omega)
  simpa only [cellsB, List.map_append] using this

/-- A writer that holds bytes. -/
def WS (H : Heap) (wb : Nat) (o : Option Nat) (bs : List UInt8) : Prop := ∃ v, H[wb]? = some (.c [v] 26 0 0) ∧ Rep 5 1 H v o (cellsB bs) ∧ o ≠ some wb

/-- What a writer's method does to the heap. -/
structure WG (H H' : Heap) (wb : Nat) (o o' : Option Nat) (bs : List UInt8) : Prop where
  ws : WS H' wb o' bs
  fr : Fr (wb :: o.toList) H H'
  new : Rep.New H o o'

theorem WG.trans {H H' H'' : Heap} {wb : Nat} {o o' o'' : Option Nat} {bs bs' : List UInt8} (h : WG H H' wb o o' bs) (k : WG H' H'' wb o' o'' bs') : WG H H'' wb o o'' bs' :=
  ⟨k.ws, h.fr.trans k.fr (by
    intro b hb
    rcases List.mem_cons.1 hb with rfl | hb
    · exact .inl (List.mem_cons_self ..)
    · rcases h.new with e | ⟨x, e, hx⟩
      · exact .inl (List.mem_cons_of_mem _ (e ▸ hb))
      · rw [e] at hb
        simp at hb; subst hb; exact .inr hx), Rep.New.trans h.new k.new h.fr.len⟩

/-- The writer's bytes stored anew. -/
theorem WS.store {H H' H'' : Heap} {wb : Nat} {o o' : Option Nat} {bs bs' : List UInt8} {s' : AV} (hw : WS H wb o bs) (h1 : Fr [] H H') (h2 : Fr o.toList H' H'') (hr : Rep 5 1 H'' s' o' (cellsB bs')) (hn : Rep.New H' o o') : WG H (H''.set wb (.c [s'] 26 0 0)) wb o o' bs' := by
  obtain ⟨s, hs1, hs2, hs3⟩ := hw
  have hlt := lt_of_get hs1
  have hne : o' ≠ some wb := hn.ne (Nat.lt_of_lt_of_le hlt h1.len) hs3
  refine ⟨⟨s', ?_, hr.mono (Fr.set _ _ _) (fun b hb => ?_), hne⟩, ?_, ?_⟩
  · rw [List.getElem?_set_self (by have := h1.len; have := h2.len; omega)]
  · rintro hm
    rw [List.mem_singleton] at hm; subst hm; exact hne hb
  · exact ((h1.mono (Y := wb :: o.toList) (by simp)).trans h2 (fun b hb => .inl (List.mem_cons_of_mem _ hb))).trans (Fr.set _ _ _) (by intro b hb; rw [List.mem_singleton] at hb; subst hb; exact .inl (List.mem_cons_self ..))
  · rcases hn with rfl | ⟨x, rfl, hx⟩
    · exact .inl rfl
    · exact .inr ⟨x, rfl, by have := h1.len; omega⟩

theorem put (M : Addr → Option AV) {H : Heap} {wb : Nat} {o : Option Nat} {bs : List UInt8} (hw : WS H wb o bs) (v : Int) (n : Nat) (room : bs.length + n ≤ 140737488355328) :
    SemF Tryd.prog M 42 [.ptr wb 0 0, .int .u64 v, .int .i64 n] H fun r h => r = .tup [] ∧ ∃ o', WG H h wb o o' (bs ++ leI v n) := by
  refine fw Tryd.func42 (by kernel_rfl) rfl (by kernel_rfl) fun C L T hT hS => ?_
  simp only [gX,gM,gL,gB,List.map_cons,List.map_nil,wantedA,evOp,opv,absC,absC0,isAggT,resA,resultA,binA,eqA,eqGuardA,isConstA,isFlatScalar,shiftOp,strOp,ordB,readN,sliceCells,lenA,storeA,newA,buildA,fillA,buildSliceA,boundsA,bndA,sliceA,ptrOK,fieldAddrA,fieldA,indexA,extractA,convA,isIntT,biA,bytesOf,setAll,List.replicate,List.cons.injEq,exists_eq_left',exists_eq_left,exists_eq_right',eq_self,Option.map_some,Option.map_none,Option.bind_some,Option.bind_none,Option.some.injEq,Prod.mk.injEq,Nat.reduceAdd,Nat.reduceSub,Nat.reduceMul,Nat.reduceLT,Nat.reduceLeDiff,Nat.reduceEqDiff,Int.reduceEq,Int.reduceLT,Int.reduceLE,Int.reduceNe,Int.reduceAdd,beq_self_eq_true,Option.bind_eq_bind,Option.pure_def,bind_pure_comp,Option.map_eq_map,decide_eq_true_eq,ne_eq,not_false_eq_true,not_true_eq_false,Nat.lt_irrefl,Nat.reduceBEq,if_true,if_false,ite_true,ite_false,reduceCtorEq,Bool.false_eq_true,lenB_nil,lenB_slice,lenB_oslice,lenB_str,lenB_agg,indexAddrA_slice,indexAddrA_oslice,indexAddrA_ptr,indexAddrA_optr,loadA_ptr,loadA_optr,lenK,indexK,loadK,Option.toList_some,Option.toList_none,Int.reduceBEq,Int.reduceBNe,Int.reduceMod,Int.reduceDiv,Int.reduceTDiv,Int.reduceTMod,Int.reduceFDiv,Int.reduceSub,Int.reduceNeg,Int.reduceGT,Int.reduceGE,BitVec.reduceOfInt,BitVec.reduceAnd,BitVec.reduceOr,BitVec.reduceXOr,BitVec.reduceToNat,Int.cast_ofNat_Int,Int.reduceToNat,Int.reducePow,Nat.min_eq_left,Int.reduceMul,List.mapM_cons,List.mapM_nil,hT.all,Tryd.f42]
  refine hS.loop (fun m e h => ∃ (i : Nat) (x : Int) (bs1 : List UInt8) (o1 : Option Nat) (j10 j11 j12 j13 j14 j15 j16 j17 j18 j19 j20 j21 j22 j23 j24 : AV), e = [.ptr wb 0 0, .int .u64 x, .int .i64 n, .tup [], .tup [], .tup [], .ptr wb 0 0, .bool false, .int .i64 n, .int .i64 i, j10, j11, j12, j13, j14, j15, j16, j17, j18, j19, j20, j21, j22, j23, j24] ∧ i + m = n ∧ bs1 ++ leI x m = bs ++ leI v n ∧ WG H h wb o o1 bs1) n ⟨0, v, bs, o, _, _, _, _, _, _, _, _, _, _, _, _, _, _, _, rfl, by omega, rfl, hw, Fr.refl _ _, .inl rfl⟩ ?_
  rintro m e h ⟨i, x, bs1, o1, j10, j11, j12, j13, j14, j15, j16, j17, j18, j19, j20, j21, j22, j23, j24, rfl, hi, hb, hg⟩ J hJ
  cases m with
  | zero =>
    have hlt : ¬ (i : Int) < n := by omega
    obtain ⟨s, hs1, hs2, hs3⟩ := hg.ws
    simp only [gX,gM,gL,gB,List.map_cons,List.map_nil,wantedA,evOp,opv,absC,absC0,isAggT,resA,resultA,binA,eqA,eqGuardA,isConstA,isFlatScalar,shiftOp,strOp,ordB,readN,sliceCells,lenA,storeA,newA,buildA,fillA,buildSliceA,boundsA,bndA,sliceA,ptrOK,fieldAddrA,fieldA,indexA,extractA,convA,isIntT,biA,bytesOf,setAll,List.replicate,List.cons.injEq,exists_eq_left',exists_eq_left,exists_eq_right',eq_self,Option.map_some,Option.map_none,Option.bind_some,Option.bind_none,Option.some.injEq,Prod.mk.injEq,Nat.reduceAdd,Nat.reduceSub,Nat.reduceMul,Nat.reduceLT,Nat.reduceLeDiff,Nat.reduceEqDiff,Int.reduceEq,Int.reduceLT,Int.reduceLE,Int.reduceNe,Int.reduceAdd,beq_self_eq_true,Option.bind_eq_bind,Option.pure_def,bind_pure_comp,Option.map_eq_map,decide_eq_true_eq,ne_eq,not_false_eq_true,not_true_eq_false,Nat.lt_irrefl,Nat.reduceBEq,if_true,if_false,ite_true,ite_false,reduceCtorEq,Bool.false_eq_true,lenB_nil,lenB_slice,lenB_oslice,lenB_str,lenB_agg,indexAddrA_slice,indexAddrA_oslice,indexAddrA_ptr,indexAddrA_optr,loadA_ptr,loadA_optr,lenK,indexK,loadK,Option.toList_some,Option.toList_none,Int.reduceBEq,Int.reduceBNe,Int.reduceMod,Int.reduceDiv,Int.reduceTDiv,Int.reduceTMod,Int.reduceFDiv,Int.reduceSub,Int.reduceNeg,Int.reduceGT,Int.reduceGE,BitVec.reduceOfInt,BitVec.reduceAnd,BitVec.reduceOr,BitVec.reduceXOr,BitVec.reduceToNat,Int.cast_ofNat_Int,Int.reduceToNat,Int.reducePow,Nat.min_eq_left,Int.reduceMul,List.mapM_cons,List.mapM_nil,hT.all,hlt]
    rw [leI, List.append_nil] at hb
    exact ⟨o1, hb ▸ hg⟩
  | succ m =>
    have hws := hg.ws
    obtain ⟨s, hs1, hs2, hs3⟩ := hg.ws
    have hlt : (i : Int) < n := by omega
    have hf1 : Fr [] h (h ++ [.c [u8 (byteI x)] 5 0 0]) := Fr.app _ _
    obtain ⟨s', o2, h2, ha, hr, hf, hn⟩ := appB hT (M := M) (hs2.mono hf1 (by simp)) (t2 := 24) (x := .slice h.length 0 0 1 1 (some 1)) (new := [byteI x]) hT.ty24 rfl rfl (by simp [sliceCells]) (by
      have := congrArg List.length hb
      simp only [List.length_append, leI_length] at this
      simp only [List.length_singleton]; omega)
    have hs4 : h2[wb]? = some (.c [s] 26 0 0) := hf.get (hf1.get hs1 (by simp)) (by
      cases o1 with
      | none => simp
      | some b => simp; rintro rfl; exact hs3 rfl)
    have hwi : IntKind.i64.wrap ((i : Int) + 1) = ((i + 1 : Nat) : Int) := by rw [wrap_i64 (by omega) (by omega)]; omega
    simp only [gX,gM,gL,gB,List.map_cons,List.map_nil,wantedA,evOp,opv,absC,absC0,isAggT,resA,resultA,binA,eqA,eqGuardA,isConstA,isFlatScalar,shiftOp,strOp,ordB,readN,sliceCells,lenA,storeA,newA,buildA,fillA,buildSliceA,boundsA,bndA,sliceA,ptrOK,fieldAddrA,fieldA,indexA,extractA,convA,isIntT,biA,bytesOf,setAll,List.replicate,List.cons.injEq,exists_eq_left',exists_eq_left,exists_eq_right',eq_self,Option.map_some,Option.map_none,Option.bind_some,Option.bind_none,Option.some.injEq,Prod.mk.injEq,Nat.reduceAdd,Nat.reduceSub,Nat.reduceMul,Nat.reduceLT,Nat.reduceLeDiff,Nat.reduceEqDiff,Int.reduceEq,Int.reduceLT,Int.reduceLE,Int.reduceNe,Int.reduceAdd,beq_self_eq_true,Option.bind_eq_bind,Option.pure_def,bind_pure_comp,Option.map_eq_map,decide_eq_true_eq,ne_eq,not_false_eq_true,not_true_eq_false,Nat.lt_irrefl,Nat.reduceBEq,if_true,if_false,ite_true,ite_false,reduceCtorEq,Bool.false_eq_true,lenB_nil,lenB_slice,lenB_oslice,lenB_str,lenB_agg,indexAddrA_slice,indexAddrA_oslice,indexAddrA_ptr,indexAddrA_optr,loadA_ptr,loadA_optr,lenK,indexK,loadK,Option.toList_some,Option.toList_none,Int.reduceBEq,Int.reduceBNe,Int.reduceMod,Int.reduceDiv,Int.reduceTDiv,Int.reduceTMod,Int.reduceFDiv,Int.reduceSub,Int.reduceNeg,Int.reduceGT,Int.reduceGE,BitVec.reduceOfInt,BitVec.reduceAnd,BitVec.reduceOr,BitVec.reduceXOr,BitVec.reduceToNat,Int.cast_ofNat_Int,Int.reduceToNat,Int.reducePow,Nat.min_eq_left,Int.reduceMul,List.mapM_cons,List.mapM_nil,hT.all,hlt,hs1,wrap_u8,cellsOf_u8,isCell_u8,shr8,ha,hs4,hr.one.1,hr.one.2,hwi]
    refine hJ m _ _ _ (by omega) (Weak.refl _) ⟨i + 1, _, bs1 ++ [byteI x], o2, _, _, _, _, _, _, _, _, _, _, _, _, _, _, _, rfl, by omega, ?_, hg.trans (hws.store hf1 hf hr hn)⟩
    rw [← hb, leI, List.append_assoc]; rfl

end Go.Proofs.YtnmignkabcblgaaDoor.C
