/- Part of a claim: the writer, numbers in bytes, sums, copies. (Turned by port_oct.py out of oc2/.) -/
import Derived.Test.YtmecikblalignaaDoorX3
set_option linter.unusedSimpArgs false
set_option linter.unusedVariables false
set_option maxRecDepth 100000
set_option maxHeartbeats 10000000
namespace Go.Proofs.YtmecikblalignaaDoor.B
open Go Go.RowKit Go.Proofs.YtmecikblalignaaDoor.E

theorem cellsB_plain (l : List UInt8) : (cellsB l).all plainA = true := by
  simp only [List.all_map, List.all_eq_true]
  intro x _; rfl
theorem shr8' : (2 : Int) ^ 8 = 256 := by decide

/-- The lowest byte. -/
def byteI (v : Int) : UInt8 := UInt8.ofNat (v % 256).toNat
theorem wrap_u8 (v : Int) : AV.int .u8 (IntKind.u8.wrap v) = u8 (byteI v) := by
  have h : IntKind.u8.wrap v = v % 256 := rfl
  rw [h]
  unfold u8 byteI
  congr 1
  simp only [UInt8.toNat_ofNat']
  omega

/-- The lowest bytes, the lowest first. -/
def leI (v : Int) : Nat → List UInt8
  | 0 => []
  | n + 1 => byteI v :: leI (v.fdiv 256) n

theorem leI_length : ∀ (n : Nat) (v : Int), (leI v n).length = n
  | 0, _ => rfl
  | n + 1, v => by rw [leI, List.length_cons, leI_length n]

/-- The bytes, taken one by one. -/
def numI (v : Int) (n : Nat) : List UInt8 := (List.range n).map fun i => byteI (v.fdiv (2 ^ (8 * i)))

theorem numI_eq : ∀ (n : Nat) (v : Int), numI v n = leI v n
  | 0, _ => rfl
  | n + 1, v => by
    have ih := numI_eq n (v.fdiv 256)
    unfold numI at ih ⊢
    rw [List.range_succ_eq_map, List.map_cons, List.map_map, leI, ← ih]
    congr 1
    · simp
    · refine List.map_congr_left fun i _ => ?_
      show byteI (v.fdiv (2 ^ (8 * (i + 1)))) = byteI ((v.fdiv 256).fdiv (2 ^ (8 * i)))
      congr 1
      have hp : (0 : Int) ≤ 2 ^ (8 * i) := Int.pow_nonneg (by omega)
      have hq : (0 : Int) ≤ 2 ^ (8 * (i + 1)) := Int.pow_nonneg (by omega)
      rw [Int.fdiv_eq_ediv_of_nonneg _ hq, Int.fdiv_eq_ediv_of_nonneg _ hp, Int.fdiv_eq_ediv_of_nonneg _ (by omega : (0 : Int) ≤ 256), Int.ediv_ediv, if_neg (by omega), Int.sub_zero]
      congr 1
      rw [show 8 * (i + 1) = 8 + 8 * i by omega, Int.pow_add]; rfl

structure Made (H H' : Heap) (v : AV) (o : Option Nat) (bs : List UInt8) : Prop where
  rep : Rep 5 1 H' v o (cellsB bs)
  fr : Fr [] H H'
  new : Rep.New H none o

/-- A writer that holds bytes. -/
def WS (H : Heap) (wb : Nat) (o : Option Nat) (bs : List UInt8) : Prop := ∃ v, H[wb]? = some (.c [v] 43 0 0) ∧ Rep 5 1 H v o (cellsB bs) ∧ o ≠ some wb

/-- What a writer's method does to the heap. -/
structure WG (H H' : Heap) (wb : Nat) (o o' : Option Nat) (bs : List UInt8) : Prop where
  ws : WS H' wb o' bs
  fr : Fr (wb :: o.toList) H H'
  new : Rep.New H o o'

theorem WG.trans {H H' H'' : Heap} {wb : Nat} {o o' o'' : Option Nat} {bs bs' : List UInt8} (h : WG H H' wb o o' bs) (k : WG H' H'' wb o' o'' bs') : WG H H'' wb o o'' bs' :=
  ⟨k.ws, h.fr.trans k.fr (by
    intro b hb
    rcases List.mem_cons.1 hb with rfl | hb
    · exact .inl (List.mem_cons_self ..)
    · rcases h.new with e | ⟨x, e, hx⟩
      · exact .inl (List.mem_cons_of_mem _ (e ▸ hb))
      · rw [e] at hb
        simp at hb; subst hb; exact .inr hx), Rep.New.trans h.new k.new h.fr.len⟩

/-- The writer's bytes stored anew. -/
theorem WS.store {H H' H'' : Heap} {wb : Nat} {o o' : Option Nat} {bs bs' : List UInt8} {s' : AV} (hw : WS H wb o bs) (h1 : Fr [] H H') (h2 : Fr o.toList H' H'') (hr : Rep 5 1 H'' s' o' (cellsB bs')) (hn : Rep.New H' o o') : WG H (H''.set wb (.c [s'] 43 0 0)) wb o o' bs' := by
  obtain ⟨s, hs1, hs2, hs3⟩ := hw
  have hlt := lt_of_get hs1
  have hne : o' ≠ some wb := hn.ne (Nat.lt_of_lt_of_le hlt h1.len) hs3
  refine ⟨⟨s', ?_, hr.mono (Fr.set _ _ _) (fun b hb => ?_), hne⟩, ?_, ?_⟩
  · rw [List.getElem?_set_self (by have := h1.len; have := h2.len; omega)]
  · rintro hm
    rw [List.mem_singleton] at hm; subst hm; exact hne hb
  · exact ((h1.mono (Y := wb :: o.toList) (by simp)).trans h2 (fun b hb => .inl (List.mem_cons_of_mem _ hb))).trans (Fr.set _ _ _) (by intro b hb; rw [List.mem_singleton] at hb; subst hb; exact .inl (List.mem_cons_self ..))
  · rcases hn with rfl | ⟨x, rfl, hx⟩
    · exact .inl rfl
    · exact .inr ⟨x, rfl, by have := h1.len; omega⟩

theorem put (M : Addr → Option AV) {H : Heap} {wb : Nat} {o : Option Nat} {bs : List UInt8} (hw : WS H wb o bs) (v : Int) (n : Nat) (room : bs.length + n ≤ 140737488355328) :
    SemF Tryd.prog M 37 [.ptr wb 0 0, .int .u64 v, .int .i64 n] H fun r h => r = .tup [] ∧ ∃ o', WG H h wb o o' (bs ++ leI v n) := by
  refine fw Tryd.func37 (by kernel_rfl) rfl (by kernel_rfl) fun C L T hT hS => ?_
  simp only [gX,gM,gL,gB,List.map_cons,List.map_nil,wantedA,evOp,opv,absC,absC0,isAggT,resA,resultA,binA,eqA,eqGuardA,isConstA,isFlatScalar,shiftOp,strOp,ordB,readN,sliceCells,lenA,storeA,newA,buildA,fillA,buildSliceA,boundsA,bndA,sliceA,ptrOK,fieldAddrA,fieldA,indexA,extractA,convA,isIntT,biA,bytesOf,setAll,List.replicate,List.cons.injEq,exists_eq_left',exists_eq_left,exists_eq_right',eq_self,Option.map_some,Option.map_none,Option.bind_some,Option.bind_none,Option.some.injEq,Prod.mk.injEq,Nat.reduceAdd,Nat.reduceSub,Nat.reduceMul,Nat.reduceLT,Nat.reduceLeDiff,Nat.reduceEqDiff,Int.reduceEq,Int.reduceLT,Int.reduceLE,Int.reduceNe,Int.reduceAdd,beq_self_eq_true,Option.bind_eq_bind,Option.pure_def,bind_pure_comp,Option.map_eq_map,decide_eq_true_eq,ne_eq,not_false_eq_true,not_true_eq_false,Nat.lt_irrefl,Nat.reduceBEq,if_true,if_false,ite_true,ite_false,reduceCtorEq,Bool.false_eq_true,lenB_nil,lenB_slice,lenB_oslice,lenB_str,lenB_agg,indexAddrA_slice,indexAddrA_oslice,indexAddrA_ptr,indexAddrA_optr,loadA_ptr,loadA_optr,lenK,indexK,loadK,Option.toList_some,Option.toList_none,Int.reduceBEq,Int.reduceBNe,Int.reduceMod,Int.reduceDiv,Int.reduceTDiv,Int.reduceTMod,Int.reduceFDiv,Int.reduceSub,Int.reduceNeg,Int.reduceGT,Int.reduceGE,BitVec.reduceOfInt,BitVec.reduceAnd,BitVec.reduceOr,BitVec.reduceXOr,BitVec.reduceToNat,Int.cast_ofNat_Int,Int.reduceToNat,Int.reducePow,Nat.min_eq_left,Int.reduceMul,List.mapM_cons,List.mapM_nil,hT.all,Tryd.f37]
  refine hS.loop (fun m e h => ∃ (i : Nat) (x : Int) (bs1 : List UInt8) (o1 : Option Nat) (j10 j11 j12 j13 j14 j15 j16 j17 j18 j19 j20 j21 j22 j23 j24 : AV), e = [.ptr wb 0 0, .int .u64 x, .int .i64 n, .tup [], .tup [], .tup [], .ptr wb 0 0, .bool false, .int .i64 n, .int .i64 i, j10, j11, j12, j13, j14, j15, j16, j17, j18, j19, j20, j21, j22, j23, j24] ∧ i + m = n ∧ bs1 ++ leI x m = bs ++ leI v n ∧ WG H h wb o o1 bs1) n ⟨0, v, bs, o, _, _, _, _, _, _, _, _, _, _, _, _, _, _, _, rfl, by omega, rfl, hw, Fr.refl _ _, .inl rfl⟩ ?_
  rintro m e h ⟨i, x, bs1, o1, j10, j11, j12, j13, j14, j15, j16, j17, j18, j19, j20, j21, j22, j23, j24, rfl, hi, hb, hg⟩ J hJ
  cases m with
  | zero =>
    have hlt : ¬ (i : Int) < n := by omega
    obtain ⟨s, hs1, hs2, hs3⟩ := hg.ws
    simp only [gX,gM,gL,gB,List.map_cons,List.map_nil,wantedA,evOp,opv,absC,absC0,isAggT,resA,resultA,binA,eqA,eqGuardA,isConstA,isFlatScalar,shiftOp,strOp,ordB,readN,sliceCells,lenA,storeA,newA,buildA,fillA,buildSliceA,boundsA,bndA,sliceA,ptrOK,fieldAddrA,fieldA,indexA,extractA,convA,isIntT,biA,bytesOf,setAll,List.replicate,List.cons.injEq,exists_eq_left',exists_eq_left,exists_eq_right',eq_self,Option.map_some,Option.map_none,Option.bind_some,Option.bind_none,Option.some.injEq,Prod.mk.injEq,Nat.reduceAdd,Nat.reduceSub,Nat.reduceMul,Nat.reduceLT,Nat.reduceLeDiff,Nat.reduceEqDiff,Int.reduceEq,Int.reduceLT,Int.reduceLE,Int.reduceNe,Int.reduceAdd,beq_self_eq_true,Option.bind_eq_bind,Option.pure_def,bind_pure_comp,Option.map_eq_map,decide_eq_true_eq,ne_eq,not_false_eq_true,not_true_eq_false,Nat.lt_irrefl,Nat.reduceBEq,if_true,if_false,ite_true,ite_false,reduceCtorEq,Bool.false_eq_true,lenB_nil,lenB_slice,lenB_oslice,lenB_str,lenB_agg,indexAddrA_slice,indexAddrA_oslice,indexAddrA_ptr,indexAddrA_optr,loadA_ptr,loadA_optr,lenK,indexK,loadK,Option.toList_some,Option.toList_none,Int.reduceBEq,Int.reduceBNe,Int.reduceMod,Int.reduceDiv,Int.reduceTDiv,Int.reduceTMod,Int.reduceFDiv,Int.reduceSub,Int.reduceNeg,Int.reduceGT,Int.reduceGE,BitVec.reduceOfInt,BitVec.reduceAnd,BitVec.reduceOr,BitVec.reduceXOr,BitVec.reduceToNat,Int.cast_ofNat_Int,Int.reduceToNat,Int.reducePow,Nat.min_eq_left,Int.reduceMul,List.mapM_cons,List.mapM_nil,hT.all,hlt]
    rw [leI, List.append_nil] at hb
    exact ⟨o1, hb ▸ hg⟩
  | succ m =>
    have hws := hg.ws
    obtain ⟨s, hs1, hs2, hs3⟩ := hg.ws
    have hlt : (i : Int) < n := by omega
    have hf1 : Fr [] h (h ++ [.c [u8 (byteI x)] 5 0 0]) := Fr.app _ _
    obtain ⟨s', o2, h2, ha, hr, hf, hn⟩ := appB hT (M := M) (hs2.mono hf1 (by simp)) (t2 := 23) (x := .slice h.length 0 0 1 1 (some 1)) (new := [byteI x]) hT.ty23 rfl rfl (by simp [sliceCells]) (by
      have := congrArg List.length hb
      simp only [List.length_append, leI_length] at this
      simp only [List.length_singleton]; omega)
    have hs4 : h2[wb]? = some (.c [s] 43 0 0) := hf.get (hf1.get hs1 (by simp)) (by
      cases o1 with
      | none => simp
      | some b => simp; rintro rfl; exact hs3 rfl)
    have hwi : IntKind.i64.wrap ((i : Int) + 1) = ((i + 1 : Nat) : Int) := by rw [wrap_i64 (by omega) (by omega)]; omega
    simp only [gX,gM,gL,gB,List.map_cons,List.map_nil,wantedA,evOp,opv,absC,absC0,isAggT,resA,resultA,binA,eqA,eqGuardA,isConstA,isFlatScalar,shiftOp,strOp,ordB,readN,sliceCells,lenA,storeA,newA,buildA,fillA,buildSliceA,boundsA,bndA,sliceA,ptrOK,fieldAddrA,fieldA,indexA,extractA,convA,isIntT,biA,bytesOf,setAll,List.replicate,List.cons.injEq,exists_eq_left',exists_eq_left,exists_eq_right',eq_self,Option.map_some,Option.map_none,Option.bind_some,Option.bind_none,Option.some.injEq,Prod.mk.injEq,Nat.reduceAdd,Nat.reduceSub,Nat.reduceMul,Nat.reduceLT,Nat.reduceLeDiff,Nat.reduceEqDiff,Int.reduceEq,Int.reduceLT,Int.reduceLE,Int.reduceNe,Int.reduceAdd,beq_self_eq_true,Option.bind_eq_bind,Option.pure_def,bind_pure_comp,Option.map_eq_map,decide_eq_true_eq,ne_eq,not_false_eq_true,not_true_eq_false,Nat.lt_irrefl,Nat.reduceBEq,if_true,if_false,ite_true,ite_false,reduceCtorEq,Bool.false_eq_true,lenB_nil,lenB_slice,lenB_oslice,lenB_str,lenB_agg,indexAddrA_slice,indexAddrA_oslice,indexAddrA_ptr,indexAddrA_optr,loadA_ptr,loadA_optr,lenK,indexK,loadK,Option.toList_some,Option.toList_none,Int.reduceBEq,Int.reduceBNe,Int.reduceMod,Int.reduceDiv,Int.reduceTDiv,Int.reduceTMod,Int.reduceFDiv,Int.reduceSub,Int.reduceNeg,Int.reduceGT,Int.reduceGE,BitVec.reduceOfInt,BitVec.reduceAnd,BitVec.reduceOr,BitVec.reduceXOr,BitVec.reduceToNat,Int.cast_ofNat_Int,Int.reduceToNat,Int.reducePow,Nat.min_eq_left,Int.reduceMul,List.mapM_cons,List.mapM_nil,hT.all,hlt,hs1,wrap_u8,cellsOf_u8,isCell_u8,shr8',ha,hs4,hr.one.1,hr.one.2,hwi]
    refine hJ m _ _ _ (by omega) (Weak.refl _) ⟨i + 1, _, bs1 ++ [byteI x], o2, _, _, _, _, _, _, _, _, _, _, _, _, _, _, _, rfl, by omega, ?_, hg.trans (hws.store hf1 hf hr hn)⟩
    rw [← hb, leI, List.append_assoc]; rfl


theorem wU32 (M : Addr → Option AV) {H : Heap} {wb : Nat} {o : Option Nat} {bs : List UInt8} (hw : WS H wb o bs) (v : Int) (room : bs.length + 8 ≤ 140737488355328) :
    SemF Tryd.prog M 20 [.ptr wb 0 0, .int .u32 v] H fun r h => r = .tup [] ∧ ∃ o', WG H h wb o o' (bs ++ leI (IntKind.u64.wrap v) 4) := by
  refine fw Tryd.func20 (by kernel_rfl) rfl (by kernel_rfl) fun C L T hT hS => ?_
  simp only [gX,gM,gL,gB,List.map_cons,List.map_nil,wantedA,evOp,opv,absC,absC0,isAggT,resA,resultA,binA,eqA,eqGuardA,isConstA,isFlatScalar,shiftOp,strOp,ordB,readN,sliceCells,lenA,storeA,newA,buildA,fillA,buildSliceA,boundsA,bndA,sliceA,ptrOK,fieldAddrA,fieldA,indexA,extractA,convA,isIntT,biA,bytesOf,setAll,List.replicate,List.cons.injEq,exists_eq_left',exists_eq_left,exists_eq_right',eq_self,Option.map_some,Option.map_none,Option.bind_some,Option.bind_none,Option.some.injEq,Prod.mk.injEq,Nat.reduceAdd,Nat.reduceSub,Nat.reduceMul,Nat.reduceLT,Nat.reduceLeDiff,Nat.reduceEqDiff,Int.reduceEq,Int.reduceLT,Int.reduceLE,Int.reduceNe,Int.reduceAdd,beq_self_eq_true,Option.bind_eq_bind,Option.pure_def,bind_pure_comp,Option.map_eq_map,decide_eq_true_eq,ne_eq,not_false_eq_true,not_true_eq_false,Nat.lt_irrefl,Nat.reduceBEq,if_true,if_false,ite_true,ite_false,reduceCtorEq,Bool.false_eq_true,lenB_nil,lenB_slice,lenB_oslice,lenB_str,lenB_agg,indexAddrA_slice,indexAddrA_oslice,indexAddrA_ptr,indexAddrA_optr,loadA_ptr,loadA_optr,lenK,indexK,loadK,Option.toList_some,Option.toList_none,Int.reduceBEq,Int.reduceBNe,Int.reduceMod,Int.reduceDiv,Int.reduceTDiv,Int.reduceTMod,Int.reduceFDiv,Int.reduceSub,Int.reduceNeg,Int.reduceGT,Int.reduceGE,BitVec.reduceOfInt,BitVec.reduceAnd,BitVec.reduceOr,BitVec.reduceXOr,BitVec.reduceToNat,Int.cast_ofNat_Int,Int.reduceToNat,Int.reducePow,Nat.min_eq_left,Int.reduceMul,List.mapM_cons,List.mapM_nil,hT.all,Tryd.f20]
  refine hS.call (put M hw _ 4 (by omega)) fun v h hq => ?_
  simp only [gX,gM,gL,gB,List.map_cons,List.map_nil,wantedA,evOp,opv,absC,absC0,isAggT,resA,resultA,binA,eqA,eqGuardA,isConstA,isFlatScalar,shiftOp,strOp,ordB,readN,sliceCells,lenA,storeA,newA,buildA,fillA,buildSliceA,boundsA,bndA,sliceA,ptrOK,fieldAddrA,fieldA,indexA,extractA,convA,isIntT,biA,bytesOf,setAll,List.replicate,List.cons.injEq,exists_eq_left',exists_eq_left,exists_eq_right',eq_self,Option.map_some,Option.map_none,Option.bind_some,Option.bind_none,Option.some.injEq,Prod.mk.injEq,Nat.reduceAdd,Nat.reduceSub,Nat.reduceMul,Nat.reduceLT,Nat.reduceLeDiff,Nat.reduceEqDiff,Int.reduceEq,Int.reduceLT,Int.reduceLE,Int.reduceNe,Int.reduceAdd,beq_self_eq_true,Option.bind_eq_bind,Option.pure_def,bind_pure_comp,Option.map_eq_map,decide_eq_true_eq,ne_eq,not_false_eq_true,not_true_eq_false,Nat.lt_irrefl,Nat.reduceBEq,if_true,if_false,ite_true,ite_false,reduceCtorEq,Bool.false_eq_true,lenB_nil,lenB_slice,lenB_oslice,lenB_str,lenB_agg,indexAddrA_slice,indexAddrA_oslice,indexAddrA_ptr,indexAddrA_optr,loadA_ptr,loadA_optr,lenK,indexK,loadK,Option.toList_some,Option.toList_none,Int.reduceBEq,Int.reduceBNe,Int.reduceMod,Int.reduceDiv,Int.reduceTDiv,Int.reduceTMod,Int.reduceFDiv,Int.reduceSub,Int.reduceNeg,Int.reduceGT,Int.reduceGE,BitVec.reduceOfInt,BitVec.reduceAnd,BitVec.reduceOr,BitVec.reduceXOr,BitVec.reduceToNat,Int.cast_ofNat_Int,Int.reduceToNat,Int.reducePow,Nat.min_eq_left,Int.reduceMul,List.mapM_cons,List.mapM_nil,hT.all]
  exact hq.2


theorem rNum (M : Addr → Option AV) (H : Heap) (v : Int) (n : Nat) (hn : n ≤ 8) : SemF Tryd.prog M 21 [.int .u64 v, .int .i64 n] H fun r h => ∃ o, Made H h r o (numI v n) := by
  refine fw Tryd.func21 (by kernel_rfl) rfl (by kernel_rfl) fun C L T hT hS => ?_
  simp only [gX,gM,gL,gB,List.map_cons,List.map_nil,wantedA,evOp,opv,absC,absC0,isAggT,resA,resultA,binA,eqA,eqGuardA,isConstA,isFlatScalar,shiftOp,strOp,ordB,readN,sliceCells,lenA,storeA,newA,buildA,fillA,buildSliceA,boundsA,bndA,sliceA,ptrOK,fieldAddrA,fieldA,indexA,extractA,convA,isIntT,biA,bytesOf,setAll,List.replicate,List.cons.injEq,exists_eq_left',exists_eq_left,exists_eq_right',eq_self,Option.map_some,Option.map_none,Option.bind_some,Option.bind_none,Option.some.injEq,Prod.mk.injEq,Nat.reduceAdd,Nat.reduceSub,Nat.reduceMul,Nat.reduceLT,Nat.reduceLeDiff,Nat.reduceEqDiff,Int.reduceEq,Int.reduceLT,Int.reduceLE,Int.reduceNe,Int.reduceAdd,beq_self_eq_true,Option.bind_eq_bind,Option.pure_def,bind_pure_comp,Option.map_eq_map,decide_eq_true_eq,ne_eq,not_false_eq_true,not_true_eq_false,Nat.lt_irrefl,Nat.reduceBEq,if_true,if_false,ite_true,ite_false,reduceCtorEq,Bool.false_eq_true,lenB_nil,lenB_slice,lenB_oslice,lenB_str,lenB_agg,indexAddrA_slice,indexAddrA_oslice,indexAddrA_ptr,indexAddrA_optr,loadA_ptr,loadA_optr,lenK,indexK,loadK,Option.toList_some,Option.toList_none,Int.reduceBEq,Int.reduceBNe,Int.reduceMod,Int.reduceDiv,Int.reduceTDiv,Int.reduceTMod,Int.reduceFDiv,Int.reduceSub,Int.reduceNeg,Int.reduceGT,Int.reduceGE,BitVec.reduceOfInt,BitVec.reduceAnd,BitVec.reduceOr,BitVec.reduceXOr,BitVec.reduceToNat,Int.cast_ofNat_Int,Int.reduceToNat,Int.reducePow,Nat.min_eq_left,Int.reduceMul,List.mapM_cons,List.mapM_nil,hT.all,Tryd.f21]
  refine hS.loop (fun m e h => ∃ (i : Nat) (s : AV) (o1 : Option Nat) (j7 j8 j9 j10 j11 j12 j13 j14 j15 j16 j17 j18 j19 j20 j21 : AV), e = [.int .u64 v, .int .i64 n, .tup [], .tup [], .nilslice, s, .int .i64 i, j7, j8, j9, j10, j11, j12, j13, j14, j15, j16, j17, j18, j19, j20, j21] ∧ i + m = n ∧ Made H h s o1 (numI v i)) n ⟨0, .nilslice, none, _, _, _, _, _, _, _, _, _, _, _, _, _, _, _, rfl, by omega, .nil, Fr.refl _ _, .inl rfl⟩ ?_
  rintro m e h ⟨i, s, o1, j7, j8, j9, j10, j11, j12, j13, j14, j15, j16, j17, j18, j19, j20, j21, rfl, hi, hg⟩ J hJ
  cases m with
  | zero =>
    have hlt : ¬ (i : Int) < n := by omega
    simp only [gX,gM,gL,gB,List.map_cons,List.map_nil,wantedA,evOp,opv,absC,absC0,isAggT,resA,resultA,binA,eqA,eqGuardA,isConstA,isFlatScalar,shiftOp,strOp,ordB,readN,sliceCells,lenA,storeA,newA,buildA,fillA,buildSliceA,boundsA,bndA,sliceA,ptrOK,fieldAddrA,fieldA,indexA,extractA,convA,isIntT,biA,bytesOf,setAll,List.replicate,List.cons.injEq,exists_eq_left',exists_eq_left,exists_eq_right',eq_self,Option.map_some,Option.map_none,Option.bind_some,Option.bind_none,Option.some.injEq,Prod.mk.injEq,Nat.reduceAdd,Nat.reduceSub,Nat.reduceMul,Nat.reduceLT,Nat.reduceLeDiff,Nat.reduceEqDiff,Int.reduceEq,Int.reduceLT,Int.reduceLE,Int.reduceNe,Int.reduceAdd,beq_self_eq_true,Option.bind_eq_bind,Option.pure_def,bind_pure_comp,Option.map_eq_map,decide_eq_true_eq,ne_eq,not_false_eq_true,not_true_eq_false,Nat.lt_irrefl,Nat.reduceBEq,if_true,if_false,ite_true,ite_false,reduceCtorEq,Bool.false_eq_true,lenB_nil,lenB_slice,lenB_oslice,lenB_str,lenB_agg,indexAddrA_slice,indexAddrA_oslice,indexAddrA_ptr,indexAddrA_optr,loadA_ptr,loadA_optr,lenK,indexK,loadK,Option.toList_some,Option.toList_none,Int.reduceBEq,Int.reduceBNe,Int.reduceMod,Int.reduceDiv,Int.reduceTDiv,Int.reduceTMod,Int.reduceFDiv,Int.reduceSub,Int.reduceNeg,Int.reduceGT,Int.reduceGE,BitVec.reduceOfInt,BitVec.reduceAnd,BitVec.reduceOr,BitVec.reduceXOr,BitVec.reduceToNat,Int.cast_ofNat_Int,Int.reduceToNat,Int.reducePow,Nat.min_eq_left,Int.reduceMul,List.mapM_cons,List.mapM_nil,hT.all,hlt]
    exact ⟨o1, by rw [← show i = n by omega]; exact hg⟩
  | succ m =>
    have hlt : (i : Int) < n := by omega
    have hw1 : IntKind.i64.wrap (8 * (i : Int)) = 8 * (i : Int) := wrap_i64 (by omega) (by omega)
    have hw2 : IntKind.u64.wrap (8 * (i : Int)) = 8 * (i : Int) := wrap_u64 (by omega) (by omega)
    have hwi : IntKind.i64.wrap ((i : Int) + 1) = ((i + 1 : Nat) : Int) := by rw [wrap_i64 (by omega) (by omega)]; omega
    have h0 : ¬ (8 * (i : Int) < 0) := by omega
    have hsh : min (8 * (i : Int)).toNat 64 = 8 * i := by omega
    have hf1 : Fr [] h (h ++ [.c [u8 (byteI (v.fdiv (2 ^ (8 * i))))] 5 0 0]) := Fr.app _ _
    have hlen : (numI v i).length = i := by simp [numI]
    obtain ⟨s', o2, h2, ha, hr, hf, hnew⟩ := appB hT (M := M) (hg.rep.mono hf1 (by simp)) (t2 := 23) (x := .slice h.length 0 0 1 1 (some 1)) (new := [byteI (v.fdiv (2 ^ (8 * i)))]) hT.ty23 rfl rfl (by simp [sliceCells]) (by rw [hlen]; simp only [List.length_singleton]; omega)
    simp only [gX,gM,gL,gB,List.map_cons,List.map_nil,wantedA,evOp,opv,absC,absC0,isAggT,resA,resultA,binA,eqA,eqGuardA,isConstA,isFlatScalar,shiftOp,strOp,ordB,readN,sliceCells,lenA,storeA,newA,buildA,fillA,buildSliceA,boundsA,bndA,sliceA,ptrOK,fieldAddrA,fieldA,indexA,extractA,convA,isIntT,biA,bytesOf,setAll,List.replicate,List.cons.injEq,exists_eq_left',exists_eq_left,exists_eq_right',eq_self,Option.map_some,Option.map_none,Option.bind_some,Option.bind_none,Option.some.injEq,Prod.mk.injEq,Nat.reduceAdd,Nat.reduceSub,Nat.reduceMul,Nat.reduceLT,Nat.reduceLeDiff,Nat.reduceEqDiff,Int.reduceEq,Int.reduceLT,Int.reduceLE,Int.reduceNe,Int.reduceAdd,beq_self_eq_true,Option.bind_eq_bind,Option.pure_def,bind_pure_comp,Option.map_eq_map,decide_eq_true_eq,ne_eq,not_false_eq_true,not_true_eq_false,Nat.lt_irrefl,Nat.reduceBEq,if_true,if_false,ite_true,ite_false,reduceCtorEq,Bool.false_eq_true,lenB_nil,lenB_slice,lenB_oslice,lenB_str,lenB_agg,indexAddrA_slice,indexAddrA_oslice,indexAddrA_ptr,indexAddrA_optr,loadA_ptr,loadA_optr,lenK,indexK,loadK,Option.toList_some,Option.toList_none,Int.reduceBEq,Int.reduceBNe,Int.reduceMod,Int.reduceDiv,Int.reduceTDiv,Int.reduceTMod,Int.reduceFDiv,Int.reduceSub,Int.reduceNeg,Int.reduceGT,Int.reduceGE,BitVec.reduceOfInt,BitVec.reduceAnd,BitVec.reduceOr,BitVec.reduceXOr,BitVec.reduceToNat,Int.cast_ofNat_Int,Int.reduceToNat,Int.reducePow,Nat.min_eq_left,Int.reduceMul,List.mapM_cons,List.mapM_nil,hT.all,hlt,wrap_u8,cellsOf_u8,isCell_u8,hw1,hw2,hwi,h0,hsh,ha]
    refine hJ m _ _ _ (by omega) (Weak.refl _) ⟨i + 1, s', o2, _, _, _, _, _, _, _, _, _, _, _, _, _, _, _, rfl, by omega, ?_, ?_, ?_⟩
    · have : numI v (i + 1) = numI v i ++ [byteI (v.fdiv (2 ^ (8 * i)))] := by unfold numI; rw [List.range_succ, List.map_append]; rfl
      rw [this]; exact hr
    · exact (hg.fr.trans hf1 (by simp)).trans hf (by
        intro b hb
        rcases hg.new with e | ⟨x, e, hx⟩
        · rw [e] at hb; simp at hb
        · rw [e] at hb; simp at hb; subst hb; exact .inr hx)
    · exact Rep.New.trans hg.new hnew (by have := hg.fr.len; have := hf1.len; omega)


theorem wrap_bv32 (x : BitVec 32) : IntKind.u32.wrap (x.toNat : Int) = x.toNat := wrap_u32 (by omega) (by have := x.isLt; omega)
theorem ofInt_bv32 (x : BitVec 32) : BitVec.ofInt 32 (x.toNat : Int) = x := by simp

/-- One bit of a sum. -/
def crcStep (x : BitVec 32) : BitVec 32 := if x.getLsbD 0 then (x >>> 1) ^^^ 2197175160#32 else x >>> 1
def crcSteps : Nat → BitVec 32 → BitVec 32
  | 0, x => x
  | n + 1, x => crcSteps n (crcStep x)
theorem crcSteps_succ : ∀ (n : Nat) (x : BitVec 32), crcSteps (n + 1) x = crcStep (crcSteps n x)
  | 0, _ => rfl
  | n + 1, x => by rw [crcSteps, crcSteps_succ n]; rfl
/-- One byte. -/
def crcByte (x : BitVec 32) (b : UInt8) : BitVec 32 := crcSteps 8 (x ^^^ b.toBitVec.setWidth 32)
def crcRaw (bs : List UInt8) : BitVec 32 := bs.foldl crcByte 4294967295#32
def crc (bs : List UInt8) : BitVec 32 := ~~~ crcRaw bs

theorem byte_bv32 (b : UInt8) : IntKind.u32.wrap (b.toNat : Int) = ((b.toBitVec.setWidth 32).toNat : Int) := by
  have : b.toNat < 256 := b.toNat_lt
  rw [wrap_u32 (by omega) (by omega)]
  simp

theorem lsb_and (x : BitVec 32) : ((x &&& 1#32).toNat : Int) = if x.getLsbD 0 then 1 else 0 := by
  have h : (x &&& 1#32).toNat = x.toNat % 2 := by
    rw [BitVec.toNat_and]
    exact Nat.and_one_is_mod _
  rw [h]
  have h2 : x.getLsbD 0 = decide (x.toNat % 2 = 1) := by
    rw [BitVec.getLsbD]
    simp [Nat.testBit_zero]
  rw [h2]
  by_cases h3 : x.toNat % 2 = 1
  · simp [h3]
  · simp [h3]; omega
theorem lsb_mod (x : BitVec 32) : (x.toNat : Int).tmod 2 = if x.getLsbD 0 then 1 else 0 := by
  rw [← lsb_and]
  have h : (x &&& 1#32).toNat = x.toNat % 2 := by
    rw [BitVec.toNat_and]
    exact Nat.and_one_is_mod _
  rw [h]
  rw [Int.tmod_eq_emod_of_nonneg (by omega)]
  omega
theorem shr_bv32 (x : BitVec 32) : (x.toNat : Int).fdiv 2 = ((x >>> 1).toNat : Int) := by
  rw [Int.fdiv_eq_ediv_of_nonneg _ (by omega), BitVec.toNat_ushiftRight, Nat.shiftRight_eq_div_pow]
  omega
theorem div_bv32 (x : BitVec 32) : (x.toNat : Int).tdiv 2 = ((x >>> 1).toNat : Int) := by
  rw [← shr_bv32, Int.tdiv_eq_ediv_of_nonneg (by omega), Int.fdiv_eq_ediv_of_nonneg _ (by omega)]

theorem pSum (M : Addr → Option AV) {H : Heap} {v : AV} {vs : List AV} {bss : List (List UInt8)} (hv : Sees M H 1 v vs) (hl : vs.length = bss.length) (hlen : bss.length < 1000000000000000000) (hb : ∀ (i : Nat) (x : AV) (bs : List UInt8), vs[i]? = some x → bss[i]? = some bs → Sees M H 1 x (cellsB bs) ∧ bs.length < 1000000000000000000) :
    SemF Tryd.prog M 6 [v] H fun r h => r = .int .u32 (crc bss.flatten).toNat ∧ h = H := by
  refine fw Tryd.func6 (by kernel_rfl) rfl (by kernel_rfl) fun C L T hT hS => ?_
  have e1 : ∀ ts, lenB T (22 :: ts) v = some (.int .i64 bss.length) := fun ts => by rw [← hl]; exact hv.lenB (by omega) (by omega) hT.ty22 rfl
  simp only [gX,gM,gL,gB,List.map_cons,List.map_nil,wantedA,evOp,opv,absC,absC0,isAggT,resA,resultA,binA,eqA,eqGuardA,isConstA,isFlatScalar,shiftOp,strOp,ordB,readN,sliceCells,lenA,storeA,newA,buildA,fillA,buildSliceA,boundsA,bndA,sliceA,ptrOK,fieldAddrA,fieldA,indexA,extractA,convA,isIntT,biA,bytesOf,setAll,List.replicate,List.cons.injEq,exists_eq_left',exists_eq_left,exists_eq_right',eq_self,Option.map_some,Option.map_none,Option.bind_some,Option.bind_none,Option.some.injEq,Prod.mk.injEq,Nat.reduceAdd,Nat.reduceSub,Nat.reduceMul,Nat.reduceLT,Nat.reduceLeDiff,Nat.reduceEqDiff,Int.reduceEq,Int.reduceLT,Int.reduceLE,Int.reduceNe,Int.reduceAdd,beq_self_eq_true,Option.bind_eq_bind,Option.pure_def,bind_pure_comp,Option.map_eq_map,decide_eq_true_eq,ne_eq,not_false_eq_true,not_true_eq_false,Nat.lt_irrefl,Nat.reduceBEq,if_true,if_false,ite_true,ite_false,reduceCtorEq,Bool.false_eq_true,lenB_nil,lenB_slice,lenB_oslice,lenB_str,lenB_agg,indexAddrA_slice,indexAddrA_oslice,indexAddrA_ptr,indexAddrA_optr,loadA_ptr,loadA_optr,lenK,indexK,loadK,Option.toList_some,Option.toList_none,Int.reduceBEq,Int.reduceBNe,Int.reduceMod,Int.reduceDiv,Int.reduceTDiv,Int.reduceTMod,Int.reduceFDiv,Int.reduceSub,Int.reduceNeg,Int.reduceGT,Int.reduceGE,BitVec.reduceOfInt,BitVec.reduceAnd,BitVec.reduceOr,BitVec.reduceXOr,BitVec.reduceToNat,Int.cast_ofNat_Int,Int.reduceToNat,Int.reducePow,Nat.min_eq_left,Int.reduceMul,List.mapM_cons,List.mapM_nil,hT.all,Tryd.f6,e1]
  refine hS.loop (fun m e h => ∃ (i : Nat) (x : BitVec 32) (j4 j5 j6 j7 j8 : AV) (j : List AV), e = v :: .tup [] :: .int .u32 0 :: .int .u32 x.toNat :: j4 :: j5 :: j6 :: j7 :: j8 :: v :: .int .i64 bss.length :: .int .i64 i :: j ∧ j.length = 28 ∧ i + m = bss.length ∧ x = crcRaw (bss.take i).flatten ∧ H = h) bss.length ⟨0, 4294967295#32, _, _, _, _, _, _, rfl, rfl, by omega, rfl, rfl⟩ ?_
  rintro m e h ⟨i, x, j4, j5, j6, j7, j8, j, rfl, hj, hi, hx, rfl⟩ J hJ
  obtain ⟨g, rfl⟩ : ∃ g : Nat → AV, j = [g 0, g 1, g 2, g 3, g 4, g 5, g 6, g 7, g 8, g 9, g 10, g 11, g 12, g 13, g 14, g 15, g 16, g 17, g 18, g 19, g 20, g 21, g 22, g 23, g 24, g 25, g 26, g 27] := junk 28 j hj
  by_cases hlt : i < bss.length
  rotate_left
  · have g1 : ¬ (i : Int) < bss.length := by omega
    simp only [gX,gM,gL,gB,List.map_cons,List.map_nil,wantedA,evOp,opv,absC,absC0,isAggT,resA,resultA,binA,eqA,eqGuardA,isConstA,isFlatScalar,shiftOp,strOp,ordB,readN,sliceCells,lenA,storeA,newA,buildA,fillA,buildSliceA,boundsA,bndA,sliceA,ptrOK,fieldAddrA,fieldA,indexA,extractA,convA,isIntT,biA,bytesOf,setAll,List.replicate,List.cons.injEq,exists_eq_left',exists_eq_left,exists_eq_right',eq_self,Option.map_some,Option.map_none,Option.bind_some,Option.bind_none,Option.some.injEq,Prod.mk.injEq,Nat.reduceAdd,Nat.reduceSub,Nat.reduceMul,Nat.reduceLT,Nat.reduceLeDiff,Nat.reduceEqDiff,Int.reduceEq,Int.reduceLT,Int.reduceLE,Int.reduceNe,Int.reduceAdd,beq_self_eq_true,Option.bind_eq_bind,Option.pure_def,bind_pure_comp,Option.map_eq_map,decide_eq_true_eq,ne_eq,not_false_eq_true,not_true_eq_false,Nat.lt_irrefl,Nat.reduceBEq,if_true,if_false,ite_true,ite_false,reduceCtorEq,Bool.false_eq_true,lenB_nil,lenB_slice,lenB_oslice,lenB_str,lenB_agg,indexAddrA_slice,indexAddrA_oslice,indexAddrA_ptr,indexAddrA_optr,loadA_ptr,loadA_optr,lenK,indexK,loadK,Option.toList_some,Option.toList_none,Int.reduceBEq,Int.reduceBNe,Int.reduceMod,Int.reduceDiv,Int.reduceTDiv,Int.reduceTMod,Int.reduceFDiv,Int.reduceSub,Int.reduceNeg,Int.reduceGT,Int.reduceGE,BitVec.reduceOfInt,BitVec.reduceAnd,BitVec.reduceOr,BitVec.reduceXOr,BitVec.reduceToNat,Int.cast_ofNat_Int,Int.reduceToNat,Int.reducePow,Nat.min_eq_left,Int.reduceMul,List.mapM_cons,List.mapM_nil,hT.all,g1,ofInt_bv32,wrap_bv32]
    have : bss.take i = bss := List.take_of_length_le (by omega)
    rw [this] at hx
    rw [hx, crc]
    congr 3
    first | done | simp [BitVec.xor_comm]
  have g1 : (i : Int) < bss.length := by omega
  obtain ⟨bs, hbs⟩ : ∃ bs, bss[i]? = some bs := ⟨bss[i], List.getElem?_eq_getElem hlt⟩
  obtain ⟨pv, hpv⟩ : ∃ pv, vs[i]? = some pv := ⟨vs[i]'(by omega), List.getElem?_eq_getElem (by omega)⟩
  obtain ⟨hp, hpl⟩ := hb i pv bs hpv hbs
  have e2 : indexAddrA T H 22 v (.int .i64 (i : Int)) = some (placeA v i 1) := by
    have := hv.index (T := T) (k := .i64) (n := (i : Int)) (by omega) (by omega) (by omega) hT.ty22 rfl hT.ty23 rfl
    simpa using this
  have e3 : loadA T M H 23 (placeA v i 1) = some pv := hv.load hpv hT.ty23 rfl
  have e4 : ∀ ts, lenB T (23 :: ts) pv = some (.int .i64 bs.length) := fun ts => hp.lenB (by simp) (by omega) hT.ty23 rfl
  have hwi : IntKind.i64.wrap ((i : Int) + 1) = ((i + 1 : Nat) : Int) := by rw [wrap_i64 (by omega) (by omega)]; omega
  simp only [gX,gM,gL,gB,List.map_cons,List.map_nil,wantedA,evOp,opv,absC,absC0,isAggT,resA,resultA,binA,eqA,eqGuardA,isConstA,isFlatScalar,shiftOp,strOp,ordB,readN,sliceCells,lenA,storeA,newA,buildA,fillA,buildSliceA,boundsA,bndA,sliceA,ptrOK,fieldAddrA,fieldA,indexA,extractA,convA,isIntT,biA,bytesOf,setAll,List.replicate,List.cons.injEq,exists_eq_left',exists_eq_left,exists_eq_right',eq_self,Option.map_some,Option.map_none,Option.bind_some,Option.bind_none,Option.some.injEq,Prod.mk.injEq,Nat.reduceAdd,Nat.reduceSub,Nat.reduceMul,Nat.reduceLT,Nat.reduceLeDiff,Nat.reduceEqDiff,Int.reduceEq,Int.reduceLT,Int.reduceLE,Int.reduceNe,Int.reduceAdd,beq_self_eq_true,Option.bind_eq_bind,Option.pure_def,bind_pure_comp,Option.map_eq_map,decide_eq_true_eq,ne_eq,not_false_eq_true,not_true_eq_false,Nat.lt_irrefl,Nat.reduceBEq,if_true,if_false,ite_true,ite_false,reduceCtorEq,Bool.false_eq_true,lenB_nil,lenB_slice,lenB_oslice,lenB_str,lenB_agg,indexAddrA_slice,indexAddrA_oslice,indexAddrA_ptr,indexAddrA_optr,loadA_ptr,loadA_optr,lenK,indexK,loadK,Option.toList_some,Option.toList_none,Int.reduceBEq,Int.reduceBNe,Int.reduceMod,Int.reduceDiv,Int.reduceTDiv,Int.reduceTMod,Int.reduceFDiv,Int.reduceSub,Int.reduceNeg,Int.reduceGT,Int.reduceGE,BitVec.reduceOfInt,BitVec.reduceAnd,BitVec.reduceOr,BitVec.reduceXOr,BitVec.reduceToNat,Int.cast_ofNat_Int,Int.reduceToNat,Int.reducePow,Nat.min_eq_left,Int.reduceMul,List.mapM_cons,List.mapM_nil,hT.all,g1,e2,e3,e4]
  refine hS.loop (fun m' e h => ∃ (q : Nat) (y : BitVec 32) (j7 j8 : AV) (j : List AV), e = v :: .tup [] :: .int .u32 0 :: .int .u32 y.toNat :: j4 :: pv :: j6 :: j7 :: j8 :: v :: .int .i64 bss.length :: .int .i64 i :: .bool true :: placeA v i 1 :: pv :: pv :: .int .i64 bs.length :: .int .i64 q :: j ∧ j.length = 22 ∧ q + m' = bs.length ∧ y = (bs.take q).foldl crcByte x ∧ H = h) bs.length ⟨0, x, _, _, _, rfl, rfl, by omega, rfl, rfl⟩ ?_
  clear hj
  rintro m' e h ⟨q, y, j7, j8, j, rfl, hj, hq, hy, rfl⟩ J' hJ'
  obtain ⟨g, rfl⟩ : ∃ g : Nat → AV, j = [g 0, g 1, g 2, g 3, g 4, g 5, g 6, g 7, g 8, g 9, g 10, g 11, g 12, g 13, g 14, g 15, g 16, g 17, g 18, g 19, g 20, g 21] := junk 22 j hj
  by_cases hlt2 : q < bs.length
  rotate_left
  · have g2 : ¬ (q : Int) < bs.length := by omega
    simp only [gX,gM,gL,gB,List.map_cons,List.map_nil,wantedA,evOp,opv,absC,absC0,isAggT,resA,resultA,binA,eqA,eqGuardA,isConstA,isFlatScalar,shiftOp,strOp,ordB,readN,sliceCells,lenA,storeA,newA,buildA,fillA,buildSliceA,boundsA,bndA,sliceA,ptrOK,fieldAddrA,fieldA,indexA,extractA,convA,isIntT,biA,bytesOf,setAll,List.replicate,List.cons.injEq,exists_eq_left',exists_eq_left,exists_eq_right',eq_self,Option.map_some,Option.map_none,Option.bind_some,Option.bind_none,Option.some.injEq,Prod.mk.injEq,Nat.reduceAdd,Nat.reduceSub,Nat.reduceMul,Nat.reduceLT,Nat.reduceLeDiff,Nat.reduceEqDiff,Int.reduceEq,Int.reduceLT,Int.reduceLE,Int.reduceNe,Int.reduceAdd,beq_self_eq_true,Option.bind_eq_bind,Option.pure_def,bind_pure_comp,Option.map_eq_map,decide_eq_true_eq,ne_eq,not_false_eq_true,not_true_eq_false,Nat.lt_irrefl,Nat.reduceBEq,if_true,if_false,ite_true,ite_false,reduceCtorEq,Bool.false_eq_true,lenB_nil,lenB_slice,lenB_oslice,lenB_str,lenB_agg,indexAddrA_slice,indexAddrA_oslice,indexAddrA_ptr,indexAddrA_optr,loadA_ptr,loadA_optr,lenK,indexK,loadK,Option.toList_some,Option.toList_none,Int.reduceBEq,Int.reduceBNe,Int.reduceMod,Int.reduceDiv,Int.reduceTDiv,Int.reduceTMod,Int.reduceFDiv,Int.reduceSub,Int.reduceNeg,Int.reduceGT,Int.reduceGE,BitVec.reduceOfInt,BitVec.reduceAnd,BitVec.reduceOr,BitVec.reduceXOr,BitVec.reduceToNat,Int.cast_ofNat_Int,Int.reduceToNat,Int.reducePow,Nat.min_eq_left,Int.reduceMul,List.mapM_cons,List.mapM_nil,hT.all,g2,hwi]
    refine hJ (m - 1) _ _ _ (by omega) (Weak.refl _) ⟨i + 1, y, _, _, _, _, _, _, rfl, rfl, by omega, ?_, rfl⟩
    have ht : bs.take q = bs := List.take_of_length_le (by omega)
    rw [hy, hx, ht, List.take_add_one, hbs]
    simp [crcRaw]
  have g2 : (q : Int) < bs.length := by omega
  have hcb : (cellsB bs)[q]? = some (u8 bs[q]) := by simp [List.getElem?_eq_getElem hlt2]
  have e5 : indexAddrA T H 23 pv (.int .i64 (q : Int)) = some (placeA pv q 1) := by
    have := hp.index (T := T) (k := .i64) (n := (q : Int)) (by omega) (by simp; omega) (by omega) hT.ty23 rfl hT.ty5 rfl
    simpa using this
  have e6 : loadA T M H 5 (placeA pv q 1) = some (.int .u8 bs[q].toNat) := hp.load hcb hT.ty5 rfl
  have hwq : IntKind.i64.wrap ((q : Int) + 1) = ((q + 1 : Nat) : Int) := by rw [wrap_i64 (by omega) (by omega)]; omega
  simp only [gX,gM,gL,gB,List.map_cons,List.map_nil,wantedA,evOp,opv,absC,absC0,isAggT,resA,resultA,binA,eqA,eqGuardA,isConstA,isFlatScalar,shiftOp,strOp,ordB,readN,sliceCells,lenA,storeA,newA,buildA,fillA,buildSliceA,boundsA,bndA,sliceA,ptrOK,fieldAddrA,fieldA,indexA,extractA,convA,isIntT,biA,bytesOf,setAll,List.replicate,List.cons.injEq,exists_eq_left',exists_eq_left,exists_eq_right',eq_self,Option.map_some,Option.map_none,Option.bind_some,Option.bind_none,Option.some.injEq,Prod.mk.injEq,Nat.reduceAdd,Nat.reduceSub,Nat.reduceMul,Nat.reduceLT,Nat.reduceLeDiff,Nat.reduceEqDiff,Int.reduceEq,Int.reduceLT,Int.reduceLE,Int.reduceNe,Int.reduceAdd,beq_self_eq_true,Option.bind_eq_bind,Option.pure_def,bind_pure_comp,Option.map_eq_map,decide_eq_true_eq,ne_eq,not_false_eq_true,not_true_eq_false,Nat.lt_irrefl,Nat.reduceBEq,if_true,if_false,ite_true,ite_false,reduceCtorEq,Bool.false_eq_true,lenB_nil,lenB_slice,lenB_oslice,lenB_str,lenB_agg,indexAddrA_slice,indexAddrA_oslice,indexAddrA_ptr,indexAddrA_optr,loadA_ptr,loadA_optr,lenK,indexK,loadK,Option.toList_some,Option.toList_none,Int.reduceBEq,Int.reduceBNe,Int.reduceMod,Int.reduceDiv,Int.reduceTDiv,Int.reduceTMod,Int.reduceFDiv,Int.reduceSub,Int.reduceNeg,Int.reduceGT,Int.reduceGE,BitVec.reduceOfInt,BitVec.reduceAnd,BitVec.reduceOr,BitVec.reduceXOr,BitVec.reduceToNat,Int.cast_ofNat_Int,Int.reduceToNat,Int.reducePow,Nat.min_eq_left,Int.reduceMul,List.mapM_cons,List.mapM_nil,hT.all,g2,e5,e6,byte_bv32,ofInt_bv32,wrap_bv32]
  refine hS.loop (fun m'' e h => ∃ (k : Nat) (z : BitVec 32) (j8 : AV) (j : List AV), e = v :: .tup [] :: .int .u32 0 :: .int .u32 z.toNat :: j4 :: pv :: j6 :: .int .u8 bs[q].toNat :: j8 :: v :: .int .i64 bss.length :: .int .i64 i :: .bool true :: placeA v i 1 :: pv :: pv :: .int .i64 bs.length :: .int .i64 q :: .bool true :: placeA pv q 1 :: .int .u8 bs[q].toNat :: .int .u32 y.toNat :: .int .u8 bs[q].toNat :: .int .u32 (bs[q].toBitVec.setWidth 32).toNat :: .int .u32 (y ^^^ bs[q].toBitVec.setWidth 32).toNat :: .int .i64 k :: j ∧ j.length = 14 ∧ k + m'' = 8 ∧ z = crcSteps k (y ^^^ bs[q].toBitVec.setWidth 32) ∧ H = h) 8 ⟨0, _, _, _, rfl, rfl, by omega, rfl, rfl⟩ ?_
  clear hj
  rintro m'' e h ⟨k, z, j8, j, rfl, hj, hk, hz, rfl⟩ J'' hJ''
  obtain ⟨g, rfl⟩ : ∃ g : Nat → AV, j = [g 0, g 1, g 2, g 3, g 4, g 5, g 6, g 7, g 8, g 9, g 10, g 11, g 12, g 13] := junk 14 j hj
  by_cases hlt3 : k < 8
  rotate_left
  · have g3 : ¬ (k : Int) < 8 := by omega
    simp only [gX,gM,gL,gB,List.map_cons,List.map_nil,wantedA,evOp,opv,absC,absC0,isAggT,resA,resultA,binA,eqA,eqGuardA,isConstA,isFlatScalar,shiftOp,strOp,ordB,readN,sliceCells,lenA,storeA,newA,buildA,fillA,buildSliceA,boundsA,bndA,sliceA,ptrOK,fieldAddrA,fieldA,indexA,extractA,convA,isIntT,biA,bytesOf,setAll,List.replicate,List.cons.injEq,exists_eq_left',exists_eq_left,exists_eq_right',eq_self,Option.map_some,Option.map_none,Option.bind_some,Option.bind_none,Option.some.injEq,Prod.mk.injEq,Nat.reduceAdd,Nat.reduceSub,Nat.reduceMul,Nat.reduceLT,Nat.reduceLeDiff,Nat.reduceEqDiff,Int.reduceEq,Int.reduceLT,Int.reduceLE,Int.reduceNe,Int.reduceAdd,beq_self_eq_true,Option.bind_eq_bind,Option.pure_def,bind_pure_comp,Option.map_eq_map,decide_eq_true_eq,ne_eq,not_false_eq_true,not_true_eq_false,Nat.lt_irrefl,Nat.reduceBEq,if_true,if_false,ite_true,ite_false,reduceCtorEq,Bool.false_eq_true,lenB_nil,lenB_slice,lenB_oslice,lenB_str,lenB_agg,indexAddrA_slice,indexAddrA_oslice,indexAddrA_ptr,indexAddrA_optr,loadA_ptr,loadA_optr,lenK,indexK,loadK,Option.toList_some,Option.toList_none,Int.reduceBEq,Int.reduceBNe,Int.reduceMod,Int.reduceDiv,Int.reduceTDiv,Int.reduceTMod,Int.reduceFDiv,Int.reduceSub,Int.reduceNeg,Int.reduceGT,Int.reduceGE,BitVec.reduceOfInt,BitVec.reduceAnd,BitVec.reduceOr,BitVec.reduceXOr,BitVec.reduceToNat,Int.cast_ofNat_Int,Int.reduceToNat,Int.reducePow,Nat.min_eq_left,Int.reduceMul,List.mapM_cons,List.mapM_nil,hT.all,g3,hwq]
    refine hJ' (m' - 1) _ _ _ (by omega) (Weak.refl _) ⟨q + 1, z, _, _, _, rfl, rfl, by omega, ?_, rfl⟩
    have hk8 : k = 8 := by omega
    have ht : bs.take (q + 1) = bs.take q ++ [bs[q]] := by rw [List.take_add_one, List.getElem?_eq_getElem hlt2]; rfl
    rw [ht, List.foldl_append, hz, hk8, hy]; rfl
  have g3 : (k : Int) < 8 := by omega
  have hwk : IntKind.i64.wrap ((k : Int) + 1) = ((k + 1 : Nat) : Int) := by rw [wrap_i64 (by omega) (by omega)]; omega
  have hl1 := lsb_and z
  cases hb0 : z.getLsbD 0 with
  | true =>
    rw [hb0, if_pos rfl] at hl1
    simp only [gX,gM,gL,gB,List.map_cons,List.map_nil,wantedA,evOp,opv,absC,absC0,isAggT,resA,resultA,binA,eqA,eqGuardA,isConstA,isFlatScalar,shiftOp,strOp,ordB,readN,sliceCells,lenA,storeA,newA,buildA,fillA,buildSliceA,boundsA,bndA,sliceA,ptrOK,fieldAddrA,fieldA,indexA,extractA,convA,isIntT,biA,bytesOf,setAll,List.replicate,List.cons.injEq,exists_eq_left',exists_eq_left,exists_eq_right',eq_self,Option.map_some,Option.map_none,Option.bind_some,Option.bind_none,Option.some.injEq,Prod.mk.injEq,Nat.reduceAdd,Nat.reduceSub,Nat.reduceMul,Nat.reduceLT,Nat.reduceLeDiff,Nat.reduceEqDiff,Int.reduceEq,Int.reduceLT,Int.reduceLE,Int.reduceNe,Int.reduceAdd,beq_self_eq_true,Option.bind_eq_bind,Option.pure_def,bind_pure_comp,Option.map_eq_map,decide_eq_true_eq,ne_eq,not_false_eq_true,not_true_eq_false,Nat.lt_irrefl,Nat.reduceBEq,if_true,if_false,ite_true,ite_false,reduceCtorEq,Bool.false_eq_true,lenB_nil,lenB_slice,lenB_oslice,lenB_str,lenB_agg,indexAddrA_slice,indexAddrA_oslice,indexAddrA_ptr,indexAddrA_optr,loadA_ptr,loadA_optr,lenK,indexK,loadK,Option.toList_some,Option.toList_none,Int.reduceBEq,Int.reduceBNe,Int.reduceMod,Int.reduceDiv,Int.reduceTDiv,Int.reduceTMod,Int.reduceFDiv,Int.reduceSub,Int.reduceNeg,Int.reduceGT,Int.reduceGE,BitVec.reduceOfInt,BitVec.reduceAnd,BitVec.reduceOr,BitVec.reduceXOr,BitVec.reduceToNat,Int.cast_ofNat_Int,Int.reduceToNat,Int.reducePow,Nat.min_eq_left,Int.reduceMul,List.mapM_cons,List.mapM_nil,hT.all,g3,hwk,ofInt_bv32,wrap_bv32,hl1,shr_bv32]
    refine hJ'' (m'' - 1) _ _ _ (by omega) (Weak.refl _) ⟨k + 1, (z >>> 1) ^^^ 2197175160#32, _, _, rfl, rfl, by omega, ?_, rfl⟩
    rw [crcSteps_succ, ← hz, crcStep, hb0, if_pos rfl]
  | false =>
    rw [hb0, if_neg Bool.false_ne_true] at hl1
    simp only [gX,gM,gL,gB,List.map_cons,List.map_nil,wantedA,evOp,opv,absC,absC0,isAggT,resA,resultA,binA,eqA,eqGuardA,isConstA,isFlatScalar,shiftOp,strOp,ordB,readN,sliceCells,lenA,storeA,newA,buildA,fillA,buildSliceA,boundsA,bndA,sliceA,ptrOK,fieldAddrA,fieldA,indexA,extractA,convA,isIntT,biA,bytesOf,setAll,List.replicate,List.cons.injEq,exists_eq_left',exists_eq_left,exists_eq_right',eq_self,Option.map_some,Option.map_none,Option.bind_some,Option.bind_none,Option.some.injEq,Prod.mk.injEq,Nat.reduceAdd,Nat.reduceSub,Nat.reduceMul,Nat.reduceLT,Nat.reduceLeDiff,Nat.reduceEqDiff,Int.reduceEq,Int.reduceLT,Int.reduceLE,Int.reduceNe,Int.reduceAdd,beq_self_eq_true,Option.bind_eq_bind,Option.pure_def,bind_pure_comp,Option.map_eq_map,decide_eq_true_eq,ne_eq,not_false_eq_true,not_true_eq_false,Nat.lt_irrefl,Nat.reduceBEq,if_true,if_false,ite_true,ite_false,reduceCtorEq,Bool.false_eq_true,lenB_nil,lenB_slice,lenB_oslice,lenB_str,lenB_agg,indexAddrA_slice,indexAddrA_oslice,indexAddrA_ptr,indexAddrA_optr,loadA_ptr,loadA_optr,lenK,indexK,loadK,Option.toList_some,Option.toList_none,Int.reduceBEq,Int.reduceBNe,Int.reduceMod,Int.reduceDiv,Int.reduceTDiv,Int.reduceTMod,Int.reduceFDiv,Int.reduceSub,Int.reduceNeg,Int.reduceGT,Int.reduceGE,BitVec.reduceOfInt,BitVec.reduceAnd,BitVec.reduceOr,BitVec.reduceXOr,BitVec.reduceToNat,Int.cast_ofNat_Int,Int.reduceToNat,Int.reducePow,Nat.min_eq_left,Int.reduceMul,List.mapM_cons,List.mapM_nil,hT.all,g3,hwk,ofInt_bv32,wrap_bv32,hl1,shr_bv32]
    refine hJ'' (m'' - 1) _ _ _ (by omega) (Weak.refl _) ⟨k + 1, z >>> 1, _, _, rfl, rfl, by omega, ?_, rfl⟩
    rw [crcSteps_succ, ← hz, crcStep, hb0, if_neg Bool.false_ne_true]


theorem xor_ones (x : BitVec 32) : x ^^^ 4294967295#32 = ~~~x := by
  rw [show (4294967295#32) = BitVec.allOnes 32 from rfl, BitVec.xor_allOnes]

theorem rSum (M : Addr → Option AV) {H : Heap} {v : AV} {bs : List UInt8} (hv : Sees M H 1 v (cellsB bs)) (hlen : bs.length < 1000000000000000000) :
    SemF Tryd.prog M 13 [v] H fun r h => r = .int .u32 (crc bs).toNat ∧ h = H := by
  refine fw Tryd.func13 (by kernel_rfl) rfl (by kernel_rfl) fun C L T hT hS => ?_
  have e1 : ∀ ts, lenB T (23 :: ts) v = some (.int .i64 bs.length) := fun ts => hv.lenB (by simp) (by omega) hT.ty23 rfl
  simp only [gX,gM,gL,gB,List.map_cons,List.map_nil,wantedA,evOp,opv,absC,absC0,isAggT,resA,resultA,binA,eqA,eqGuardA,isConstA,isFlatScalar,shiftOp,strOp,ordB,readN,sliceCells,lenA,storeA,newA,buildA,fillA,buildSliceA,boundsA,bndA,sliceA,ptrOK,fieldAddrA,fieldA,indexA,extractA,convA,isIntT,biA,bytesOf,setAll,List.replicate,List.cons.injEq,exists_eq_left',exists_eq_left,exists_eq_right',eq_self,Option.map_some,Option.map_none,Option.bind_some,Option.bind_none,Option.some.injEq,Prod.mk.injEq,Nat.reduceAdd,Nat.reduceSub,Nat.reduceMul,Nat.reduceLT,Nat.reduceLeDiff,Nat.reduceEqDiff,Int.reduceEq,Int.reduceLT,Int.reduceLE,Int.reduceNe,Int.reduceAdd,beq_self_eq_true,Option.bind_eq_bind,Option.pure_def,bind_pure_comp,Option.map_eq_map,decide_eq_true_eq,ne_eq,not_false_eq_true,not_true_eq_false,Nat.lt_irrefl,Nat.reduceBEq,if_true,if_false,ite_true,ite_false,reduceCtorEq,Bool.false_eq_true,lenB_nil,lenB_slice,lenB_oslice,lenB_str,lenB_agg,indexAddrA_slice,indexAddrA_oslice,indexAddrA_ptr,indexAddrA_optr,loadA_ptr,loadA_optr,lenK,indexK,loadK,Option.toList_some,Option.toList_none,Int.reduceBEq,Int.reduceBNe,Int.reduceMod,Int.reduceDiv,Int.reduceTDiv,Int.reduceTMod,Int.reduceFDiv,Int.reduceSub,Int.reduceNeg,Int.reduceGT,Int.reduceGE,BitVec.reduceOfInt,BitVec.reduceAnd,BitVec.reduceOr,BitVec.reduceXOr,BitVec.reduceToNat,Int.cast_ofNat_Int,Int.reduceToNat,Int.reducePow,Nat.min_eq_left,Int.reduceMul,List.mapM_cons,List.mapM_nil,hT.all,Tryd.f13]
  refine hS.loop (fun m e h => ∃ (i : Nat) (x : BitVec 32) (j : List AV), e = v :: .tup [] :: .int .u32 0 :: .int .u32 x.toNat :: .int .i64 i :: j ∧ j.length = 29 ∧ i + m = bs.length ∧ x = (bs.take i).foldl crcByte 4294967295#32 ∧ H = h) bs.length ⟨0, 4294967295#32, _, rfl, rfl, by omega, rfl, rfl⟩ ?_
  rintro m e h ⟨i, x, j, rfl, hj, hi, hx, rfl⟩ J hJ
  obtain ⟨g, rfl⟩ : ∃ g : Nat → AV, j = [g 0, g 1, g 2, g 3, g 4, g 5, g 6, g 7, g 8, g 9, g 10, g 11, g 12, g 13, g 14, g 15, g 16, g 17, g 18, g 19, g 20, g 21, g 22, g 23, g 24, g 25, g 26, g 27, g 28] := junk 29 j hj
  by_cases hlt : i < bs.length
  rotate_left
  · have g1 : ¬ (i : Int) < bs.length := by omega
    simp only [gX,gM,gL,gB,List.map_cons,List.map_nil,wantedA,evOp,opv,absC,absC0,isAggT,resA,resultA,binA,eqA,eqGuardA,isConstA,isFlatScalar,shiftOp,strOp,ordB,readN,sliceCells,lenA,storeA,newA,buildA,fillA,buildSliceA,boundsA,bndA,sliceA,ptrOK,fieldAddrA,fieldA,indexA,extractA,convA,isIntT,biA,bytesOf,setAll,List.replicate,List.cons.injEq,exists_eq_left',exists_eq_left,exists_eq_right',eq_self,Option.map_some,Option.map_none,Option.bind_some,Option.bind_none,Option.some.injEq,Prod.mk.injEq,Nat.reduceAdd,Nat.reduceSub,Nat.reduceMul,Nat.reduceLT,Nat.reduceLeDiff,Nat.reduceEqDiff,Int.reduceEq,Int.reduceLT,Int.reduceLE,Int.reduceNe,Int.reduceAdd,beq_self_eq_true,Option.bind_eq_bind,Option.pure_def,bind_pure_comp,Option.map_eq_map,decide_eq_true_eq,ne_eq,not_false_eq_true,not_true_eq_false,Nat.lt_irrefl,Nat.reduceBEq,if_true,if_false,ite_true,ite_false,reduceCtorEq,Bool.false_eq_true,lenB_nil,lenB_slice,lenB_oslice,lenB_str,lenB_agg,indexAddrA_slice,indexAddrA_oslice,indexAddrA_ptr,indexAddrA_optr,loadA_ptr,loadA_optr,lenK,indexK,loadK,Option.toList_some,Option.toList_none,Int.reduceBEq,Int.reduceBNe,Int.reduceMod,Int.reduceDiv,Int.reduceTDiv,Int.reduceTMod,Int.reduceFDiv,Int.reduceSub,Int.reduceNeg,Int.reduceGT,Int.reduceGE,BitVec.reduceOfInt,BitVec.reduceAnd,BitVec.reduceOr,BitVec.reduceXOr,BitVec.reduceToNat,Int.cast_ofNat_Int,Int.reduceToNat,Int.reducePow,Nat.min_eq_left,Int.reduceMul,List.mapM_cons,List.mapM_nil,hT.all,e1,g1,ofInt_bv32,wrap_bv32]
    have : bs.take i = bs := List.take_of_length_le (by omega)
    rw [this] at hx
    rw [hx, crc, crcRaw, xor_ones]
  have g1 : (i : Int) < bs.length := by omega
  have hcb : (cellsB bs)[i]? = some (u8 bs[i]) := by simp [List.getElem?_eq_getElem hlt]
  have e5 : indexAddrA T H 23 v (.int .i64 (i : Int)) = some (placeA v i 1) := by
    have := hv.index (T := T) (k := .i64) (n := (i : Int)) (by omega) (by simp; omega) (by omega) hT.ty23 rfl hT.ty5 rfl
    simpa using this
  have e6 : loadA T M H 5 (placeA v i 1) = some (.int .u8 bs[i].toNat) := hv.load hcb hT.ty5 rfl
  have hwi : IntKind.i64.wrap ((i : Int) + 1) = ((i + 1 : Nat) : Int) := by rw [wrap_i64 (by omega) (by omega)]; omega
  simp only [gX,gM,gL,gB,List.map_cons,List.map_nil,wantedA,evOp,opv,absC,absC0,isAggT,resA,resultA,binA,eqA,eqGuardA,isConstA,isFlatScalar,shiftOp,strOp,ordB,readN,sliceCells,lenA,storeA,newA,buildA,fillA,buildSliceA,boundsA,bndA,sliceA,ptrOK,fieldAddrA,fieldA,indexA,extractA,convA,isIntT,biA,bytesOf,setAll,List.replicate,List.cons.injEq,exists_eq_left',exists_eq_left,exists_eq_right',eq_self,Option.map_some,Option.map_none,Option.bind_some,Option.bind_none,Option.some.injEq,Prod.mk.injEq,Nat.reduceAdd,Nat.reduceSub,Nat.reduceMul,Nat.reduceLT,Nat.reduceLeDiff,Nat.reduceEqDiff,Int.reduceEq,Int.reduceLT,Int.reduceLE,Int.reduceNe,Int.reduceAdd,beq_self_eq_true,Option.bind_eq_bind,Option.pure_def,bind_pure_comp,Option.map_eq_map,decide_eq_true_eq,ne_eq,not_false_eq_true,not_true_eq_false,Nat.lt_irrefl,Nat.reduceBEq,if_true,if_false,ite_true,ite_false,reduceCtorEq,Bool.false_eq_true,lenB_nil,lenB_slice,lenB_oslice,lenB_str,lenB_agg,indexAddrA_slice,indexAddrA_oslice,indexAddrA_ptr,indexAddrA_optr,loadA_ptr,loadA_optr,lenK,indexK,loadK,Option.toList_some,Option.toList_none,Int.reduceBEq,Int.reduceBNe,Int.reduceMod,Int.reduceDiv,Int.reduceTDiv,Int.reduceTMod,Int.reduceFDiv,Int.reduceSub,Int.reduceNeg,Int.reduceGT,Int.reduceGE,BitVec.reduceOfInt,BitVec.reduceAnd,BitVec.reduceOr,BitVec.reduceXOr,BitVec.reduceToNat,Int.cast_ofNat_Int,Int.reduceToNat,Int.reducePow,Nat.min_eq_left,Int.reduceMul,List.mapM_cons,List.mapM_nil,hT.all,e1,g1,e5,e6,byte_bv32,ofInt_bv32,wrap_bv32]
  refine hS.loop (fun m'' e h => ∃ (k : Nat) (z : BitVec 32) (j : List AV), e = v :: .tup [] :: .int .u32 0 :: .int .u32 z.toNat :: .int .i64 i :: .int .i64 k :: j ∧ j.length = 28 ∧ k + m'' = 8 ∧ z = crcSteps k (x ^^^ bs[i].toBitVec.setWidth 32) ∧ H = h) 8 ⟨0, _, _, rfl, rfl, by omega, rfl, rfl⟩ ?_
  clear hj
  rintro m'' e h ⟨k, z, j, rfl, hj, hk, hz, rfl⟩ J'' hJ''
  obtain ⟨g, rfl⟩ : ∃ g : Nat → AV, j = [g 0, g 1, g 2, g 3, g 4, g 5, g 6, g 7, g 8, g 9, g 10, g 11, g 12, g 13, g 14, g 15, g 16, g 17, g 18, g 19, g 20, g 21, g 22, g 23, g 24, g 25, g 26, g 27] := junk 28 j hj
  by_cases hlt3 : k < 8
  rotate_left
  · have g3 : ¬ (k : Int) < 8 := by omega
    simp only [gX,gM,gL,gB,List.map_cons,List.map_nil,wantedA,evOp,opv,absC,absC0,isAggT,resA,resultA,binA,eqA,eqGuardA,isConstA,isFlatScalar,shiftOp,strOp,ordB,readN,sliceCells,lenA,storeA,newA,buildA,fillA,buildSliceA,boundsA,bndA,sliceA,ptrOK,fieldAddrA,fieldA,indexA,extractA,convA,isIntT,biA,bytesOf,setAll,List.replicate,List.cons.injEq,exists_eq_left',exists_eq_left,exists_eq_right',eq_self,Option.map_some,Option.map_none,Option.bind_some,Option.bind_none,Option.some.injEq,Prod.mk.injEq,Nat.reduceAdd,Nat.reduceSub,Nat.reduceMul,Nat.reduceLT,Nat.reduceLeDiff,Nat.reduceEqDiff,Int.reduceEq,Int.reduceLT,Int.reduceLE,Int.reduceNe,Int.reduceAdd,beq_self_eq_true,Option.bind_eq_bind,Option.pure_def,bind_pure_comp,Option.map_eq_map,decide_eq_true_eq,ne_eq,not_false_eq_true,not_true_eq_false,Nat.lt_irrefl,Nat.reduceBEq,if_true,if_false,ite_true,ite_false,reduceCtorEq,Bool.false_eq_true,lenB_nil,lenB_slice,lenB_oslice,lenB_str,lenB_agg,indexAddrA_slice,indexAddrA_oslice,indexAddrA_ptr,indexAddrA_optr,loadA_ptr,loadA_optr,lenK,indexK,loadK,Option.toList_some,Option.toList_none,Int.reduceBEq,Int.reduceBNe,Int.reduceMod,Int.reduceDiv,Int.reduceTDiv,Int.reduceTMod,Int.reduceFDiv,Int.reduceSub,Int.reduceNeg,Int.reduceGT,Int.reduceGE,BitVec.reduceOfInt,BitVec.reduceAnd,BitVec.reduceOr,BitVec.reduceXOr,BitVec.reduceToNat,Int.cast_ofNat_Int,Int.reduceToNat,Int.reducePow,Nat.min_eq_left,Int.reduceMul,List.mapM_cons,List.mapM_nil,hT.all,g3,hwi]
    refine hJ (m - 1) _ _ _ (by omega) (Weak.refl _) ⟨i + 1, z, _, rfl, rfl, by omega, ?_, rfl⟩
    have hk8 : k = 8 := by omega
    have ht : bs.take (i + 1) = bs.take i ++ [bs[i]] := by rw [List.take_add_one, List.getElem?_eq_getElem hlt]; rfl
    rw [ht, List.foldl_append, hz, hk8, hx]; rfl
  have g3 : (k : Int) < 8 := by omega
  have hwk : IntKind.i64.wrap ((k : Int) + 1) = ((k + 1 : Nat) : Int) := by rw [wrap_i64 (by omega) (by omega)]; omega
  have hl1 := lsb_mod z
  cases hb0 : z.getLsbD 0 with
  | true =>
    rw [hb0, if_pos rfl] at hl1
    simp only [gX,gM,gL,gB,List.map_cons,List.map_nil,wantedA,evOp,opv,absC,absC0,isAggT,resA,resultA,binA,eqA,eqGuardA,isConstA,isFlatScalar,shiftOp,strOp,ordB,readN,sliceCells,lenA,storeA,newA,buildA,fillA,buildSliceA,boundsA,bndA,sliceA,ptrOK,fieldAddrA,fieldA,indexA,extractA,convA,isIntT,biA,bytesOf,setAll,List.replicate,List.cons.injEq,exists_eq_left',exists_eq_left,exists_eq_right',eq_self,Option.map_some,Option.map_none,Option.bind_some,Option.bind_none,Option.some.injEq,Prod.mk.injEq,Nat.reduceAdd,Nat.reduceSub,Nat.reduceMul,Nat.reduceLT,Nat.reduceLeDiff,Nat.reduceEqDiff,Int.reduceEq,Int.reduceLT,Int.reduceLE,Int.reduceNe,Int.reduceAdd,beq_self_eq_true,Option.bind_eq_bind,Option.pure_def,bind_pure_comp,Option.map_eq_map,decide_eq_true_eq,ne_eq,not_false_eq_true,not_true_eq_false,Nat.lt_irrefl,Nat.reduceBEq,if_true,if_false,ite_true,ite_false,reduceCtorEq,Bool.false_eq_true,lenB_nil,lenB_slice,lenB_oslice,lenB_str,lenB_agg,indexAddrA_slice,indexAddrA_oslice,indexAddrA_ptr,indexAddrA_optr,loadA_ptr,loadA_optr,lenK,indexK,loadK,Option.toList_some,Option.toList_none,Int.reduceBEq,Int.reduceBNe,Int.reduceMod,Int.reduceDiv,Int.reduceTDiv,Int.reduceTMod,Int.reduceFDiv,Int.reduceSub,Int.reduceNeg,Int.reduceGT,Int.reduceGE,BitVec.reduceOfInt,BitVec.reduceAnd,BitVec.reduceOr,BitVec.reduceXOr,BitVec.reduceToNat,Int.cast_ofNat_Int,Int.reduceToNat,Int.reducePow,Nat.min_eq_left,Int.reduceMul,List.mapM_cons,List.mapM_nil,hT.all,g3,hwk,ofInt_bv32,wrap_bv32,hl1,div_bv32]
    refine hJ'' (m'' - 1) _ _ _ (by omega) (Weak.refl _) ⟨k + 1, (z >>> 1) ^^^ 2197175160#32, _, rfl, rfl, by omega, ?_, rfl⟩
    rw [crcSteps_succ, ← hz, crcStep, hb0, if_pos rfl]
  | false =>
    rw [hb0, if_neg Bool.false_ne_true] at hl1
    simp only [gX,gM,gL,gB,List.map_cons,List.map_nil,wantedA,evOp,opv,absC,absC0,isAggT,resA,resultA,binA,eqA,eqGuardA,isConstA,isFlatScalar,shiftOp,strOp,ordB,readN,sliceCells,lenA,storeA,newA,buildA,fillA,buildSliceA,boundsA,bndA,sliceA,ptrOK,fieldAddrA,fieldA,indexA,extractA,convA,isIntT,biA,bytesOf,setAll,List.replicate,List.cons.injEq,exists_eq_left',exists_eq_left,exists_eq_right',eq_self,Option.map_some,Option.map_none,Option.bind_some,Option.bind_none,Option.some.injEq,Prod.mk.injEq,Nat.reduceAdd,Nat.reduceSub,Nat.reduceMul,Nat.reduceLT,Nat.reduceLeDiff,Nat.reduceEqDiff,Int.reduceEq,Int.reduceLT,Int.reduceLE,Int.reduceNe,Int.reduceAdd,beq_self_eq_true,Option.bind_eq_bind,Option.pure_def,bind_pure_comp,Option.map_eq_map,decide_eq_true_eq,ne_eq,not_false_eq_true,not_true_eq_false,Nat.lt_irrefl,Nat.reduceBEq,if_true,if_false,ite_true,ite_false,reduceCtorEq,Bool.false_eq_true,lenB_nil,lenB_slice,lenB_oslice,lenB_str,lenB_agg,indexAddrA_slice,indexAddrA_oslice,indexAddrA_ptr,indexAddrA_optr,loadA_ptr,loadA_optr,lenK,indexK,loadK,Option.toList_some,Option.toList_none,Int.reduceBEq,Int.reduceBNe,Int.reduceMod,Int.reduceDiv,Int.reduceTDiv,Int.reduceTMod,Int.reduceFDiv,Int.reduceSub,Int.reduceNeg,Int.reduceGT,Int.reduceGE,BitVec.reduceOfInt,BitVec.reduceAnd,BitVec.reduceOr,BitVec.reduceXOr,BitVec.reduceToNat,Int.cast_ofNat_Int,Int.reduceToNat,Int.reducePow,Nat.min_eq_left,Int.reduceMul,List.mapM_cons,List.mapM_nil,hT.all,g3,hwk,ofInt_bv32,wrap_bv32,hl1,div_bv32]
    refine hJ'' (m'' - 1) _ _ _ (by omega) (Weak.refl _) ⟨k + 1, z >>> 1, _, rfl, rfl, by omega, ?_, rfl⟩
    rw [crcSteps_succ, ← hz, crcStep, hb0, if_neg Bool.false_ne_true]

theorem rCopy (M : Addr → Option AV) {H : Heap} {v : AV} {bs : List UInt8} (hv : Sees M H 1 v (cellsB bs)) (hlen : bs.length ≤ 140737488355328) :
    SemF Tryd.prog M 5 [v] H fun r h => ∃ o, Made H h r o bs := by
  refine fw Tryd.func5 (by kernel_rfl) rfl (by kernel_rfl) fun C L T hT hS => ?_
  have hf1 : Fr [] H (H ++ [.c [] 5 0 0]) := Fr.app _ _
  have hr0 : Rep 5 1 (H ++ [.c [] 5 0 0]) (.slice H.length 0 0 1 0 (some 0)) (some H.length) (cellsB []) := .empty H.length 0 0 hp_get0 (Nat.le_refl _)
  have hv1 := hv.mono hf1 (by simp)
  obtain ⟨s', o2, h2, ha, hr, hf, hnew⟩ := appB hT (M := M) hr0 (t2 := 23) (x := v) (new := bs) hT.ty23 rfl (hv1.len (by simp) (by omega)) hv1.cells_eq (by simpa using hlen)
  simp only [gX,gM,gL,gB,List.map_cons,List.map_nil,wantedA,evOp,opv,absC,absC0,isAggT,resA,resultA,binA,eqA,eqGuardA,isConstA,isFlatScalar,shiftOp,strOp,ordB,readN,sliceCells,lenA,storeA,newA,buildA,fillA,buildSliceA,boundsA,bndA,sliceA,ptrOK,fieldAddrA,fieldA,indexA,extractA,convA,isIntT,biA,bytesOf,setAll,List.replicate,List.cons.injEq,exists_eq_left',exists_eq_left,exists_eq_right',eq_self,Option.map_some,Option.map_none,Option.bind_some,Option.bind_none,Option.some.injEq,Prod.mk.injEq,Nat.reduceAdd,Nat.reduceSub,Nat.reduceMul,Nat.reduceLT,Nat.reduceLeDiff,Nat.reduceEqDiff,Int.reduceEq,Int.reduceLT,Int.reduceLE,Int.reduceNe,Int.reduceAdd,beq_self_eq_true,Option.bind_eq_bind,Option.pure_def,bind_pure_comp,Option.map_eq_map,decide_eq_true_eq,ne_eq,not_false_eq_true,not_true_eq_false,Nat.lt_irrefl,Nat.reduceBEq,if_true,if_false,ite_true,ite_false,reduceCtorEq,Bool.false_eq_true,lenB_nil,lenB_slice,lenB_oslice,lenB_str,lenB_agg,indexAddrA_slice,indexAddrA_oslice,indexAddrA_ptr,indexAddrA_optr,loadA_ptr,loadA_optr,lenK,indexK,loadK,Option.toList_some,Option.toList_none,Int.reduceBEq,Int.reduceBNe,Int.reduceMod,Int.reduceDiv,Int.reduceTDiv,Int.reduceTMod,Int.reduceFDiv,Int.reduceSub,Int.reduceNeg,Int.reduceGT,Int.reduceGE,BitVec.reduceOfInt,BitVec.reduceAnd,BitVec.reduceOr,BitVec.reduceXOr,BitVec.reduceToNat,Int.cast_ofNat_Int,Int.reduceToNat,Int.reducePow,Nat.min_eq_left,Int.reduceMul,List.mapM_cons,List.mapM_nil,hT.all,Tryd.f5,List.replicate,ha]
  refine ⟨o2, hr, hf1.trans hf (by simp), ?_⟩
  rcases hnew with e | ⟨b, e, hb⟩
  · exact .inr ⟨H.length, e, Nat.le_refl _⟩
  · exact .inr ⟨b, e, Nat.le_trans hf1.len hb⟩

theorem pClone (M : Addr → Option AV) {H : Heap} {v : AV} {bs : List UInt8} (hv : Sees M H 1 v (cellsB bs)) (hlen : bs.length ≤ 140737488355328) :
    SemF Tryd.prog M 19 [v] H fun r h => ∃ o, Made H h r o bs := by
  refine fw Tryd.func19 (by kernel_rfl) rfl (by kernel_rfl) fun C L T hT hS => ?_
  have hf1 : Fr [] H (H ++ [.c [] 5 0 0]) := Fr.app _ _
  have hr0 : Rep 5 1 (H ++ [.c [] 5 0 0]) (.slice H.length 0 0 1 0 (some 0)) (some H.length) (cellsB []) := .empty H.length 0 0 hp_get0 (Nat.le_refl _)
  have hv1 := hv.mono hf1 (by simp)
  obtain ⟨s', o2, h2, ha, hr, hf, hnew⟩ := appB hT (M := M) hr0 (t2 := 23) (x := v) (new := bs) hT.ty23 rfl (hv1.len (by simp) (by omega)) hv1.cells_eq (by simpa using hlen)
  have fin : ∃ o, Made H h2 s' o bs := by
    refine ⟨o2, hr, hf1.trans hf (by simp), ?_⟩
    rcases hnew with e | ⟨b, e, hb⟩
    · exact .inr ⟨H.length, e, Nat.le_refl _⟩
    · exact .inr ⟨b, e, Nat.le_trans hf1.len hb⟩
  generalize hx : cellsB bs = xs at hv
  cases hv with
  | nil =>
    have : bs = [] := by cases bs with
      | nil => rfl
      | cons a l => cases hx
    subst this
    simp only [gX,gM,gL,gB,List.map_cons,List.map_nil,wantedA,evOp,opv,absC,absC0,isAggT,resA,resultA,binA,eqA,eqGuardA,isConstA,isFlatScalar,shiftOp,strOp,ordB,readN,sliceCells,lenA,storeA,newA,buildA,fillA,buildSliceA,boundsA,bndA,sliceA,ptrOK,fieldAddrA,fieldA,indexA,extractA,convA,isIntT,biA,bytesOf,setAll,List.replicate,List.cons.injEq,exists_eq_left',exists_eq_left,exists_eq_right',eq_self,Option.map_some,Option.map_none,Option.bind_some,Option.bind_none,Option.some.injEq,Prod.mk.injEq,Nat.reduceAdd,Nat.reduceSub,Nat.reduceMul,Nat.reduceLT,Nat.reduceLeDiff,Nat.reduceEqDiff,Int.reduceEq,Int.reduceLT,Int.reduceLE,Int.reduceNe,Int.reduceAdd,beq_self_eq_true,Option.bind_eq_bind,Option.pure_def,bind_pure_comp,Option.map_eq_map,decide_eq_true_eq,ne_eq,not_false_eq_true,not_true_eq_false,Nat.lt_irrefl,Nat.reduceBEq,if_true,if_false,ite_true,ite_false,reduceCtorEq,Bool.false_eq_true,lenB_nil,lenB_slice,lenB_oslice,lenB_str,lenB_agg,indexAddrA_slice,indexAddrA_oslice,indexAddrA_ptr,indexAddrA_optr,loadA_ptr,loadA_optr,lenK,indexK,loadK,Option.toList_some,Option.toList_none,Int.reduceBEq,Int.reduceBNe,Int.reduceMod,Int.reduceDiv,Int.reduceTDiv,Int.reduceTMod,Int.reduceFDiv,Int.reduceSub,Int.reduceNeg,Int.reduceGT,Int.reduceGE,BitVec.reduceOfInt,BitVec.reduceAnd,BitVec.reduceOr,BitVec.reduceXOr,BitVec.reduceToNat,Int.cast_ofNat_Int,Int.reduceToNat,Int.reducePow,Nat.min_eq_left,Int.reduceMul,List.mapM_cons,List.mapM_nil,hT.all,Tryd.f19]
    exact ⟨none, .nil, Fr.refl _ _, .inl rfl⟩
  | old a n c _ h1 h2 h3 =>
    simp only [gX,gM,gL,gB,List.map_cons,List.map_nil,wantedA,evOp,opv,absC,absC0,isAggT,resA,resultA,binA,eqA,eqGuardA,isConstA,isFlatScalar,shiftOp,strOp,ordB,readN,sliceCells,lenA,storeA,newA,buildA,fillA,buildSliceA,boundsA,bndA,sliceA,ptrOK,fieldAddrA,fieldA,indexA,extractA,convA,isIntT,biA,bytesOf,setAll,List.replicate,List.cons.injEq,exists_eq_left',exists_eq_left,exists_eq_right',eq_self,Option.map_some,Option.map_none,Option.bind_some,Option.bind_none,Option.some.injEq,Prod.mk.injEq,Nat.reduceAdd,Nat.reduceSub,Nat.reduceMul,Nat.reduceLT,Nat.reduceLeDiff,Nat.reduceEqDiff,Int.reduceEq,Int.reduceLT,Int.reduceLE,Int.reduceNe,Int.reduceAdd,beq_self_eq_true,Option.bind_eq_bind,Option.pure_def,bind_pure_comp,Option.map_eq_map,decide_eq_true_eq,ne_eq,not_false_eq_true,not_true_eq_false,Nat.lt_irrefl,Nat.reduceBEq,if_true,if_false,ite_true,ite_false,reduceCtorEq,Bool.false_eq_true,lenB_nil,lenB_slice,lenB_oslice,lenB_str,lenB_agg,indexAddrA_slice,indexAddrA_oslice,indexAddrA_ptr,indexAddrA_optr,loadA_ptr,loadA_optr,lenK,indexK,loadK,Option.toList_some,Option.toList_none,Int.reduceBEq,Int.reduceBNe,Int.reduceMod,Int.reduceDiv,Int.reduceTDiv,Int.reduceTMod,Int.reduceFDiv,Int.reduceSub,Int.reduceNeg,Int.reduceGT,Int.reduceGE,BitVec.reduceOfInt,BitVec.reduceAnd,BitVec.reduceOr,BitVec.reduceXOr,BitVec.reduceToNat,Int.cast_ofNat_Int,Int.reduceToNat,Int.reducePow,Nat.min_eq_left,Int.reduceMul,List.mapM_cons,List.mapM_nil,hT.all,Tryd.f19,List.replicate,ha]
    exact fin
  | own b e off n cap cs el ep sep _ h1 h2 h3 h4 =>
    simp only [gX,gM,gL,gB,List.map_cons,List.map_nil,wantedA,evOp,opv,absC,absC0,isAggT,resA,resultA,binA,eqA,eqGuardA,isConstA,isFlatScalar,shiftOp,strOp,ordB,readN,sliceCells,lenA,storeA,newA,buildA,fillA,buildSliceA,boundsA,bndA,sliceA,ptrOK,fieldAddrA,fieldA,indexA,extractA,convA,isIntT,biA,bytesOf,setAll,List.replicate,List.cons.injEq,exists_eq_left',exists_eq_left,exists_eq_right',eq_self,Option.map_some,Option.map_none,Option.bind_some,Option.bind_none,Option.some.injEq,Prod.mk.injEq,Nat.reduceAdd,Nat.reduceSub,Nat.reduceMul,Nat.reduceLT,Nat.reduceLeDiff,Nat.reduceEqDiff,Int.reduceEq,Int.reduceLT,Int.reduceLE,Int.reduceNe,Int.reduceAdd,beq_self_eq_true,Option.bind_eq_bind,Option.pure_def,bind_pure_comp,Option.map_eq_map,decide_eq_true_eq,ne_eq,not_false_eq_true,not_true_eq_false,Nat.lt_irrefl,Nat.reduceBEq,if_true,if_false,ite_true,ite_false,reduceCtorEq,Bool.false_eq_true,lenB_nil,lenB_slice,lenB_oslice,lenB_str,lenB_agg,indexAddrA_slice,indexAddrA_oslice,indexAddrA_ptr,indexAddrA_optr,loadA_ptr,loadA_optr,lenK,indexK,loadK,Option.toList_some,Option.toList_none,Int.reduceBEq,Int.reduceBNe,Int.reduceMod,Int.reduceDiv,Int.reduceTDiv,Int.reduceTMod,Int.reduceFDiv,Int.reduceSub,Int.reduceNeg,Int.reduceGT,Int.reduceGE,BitVec.reduceOfInt,BitVec.reduceAnd,BitVec.reduceOr,BitVec.reduceXOr,BitVec.reduceToNat,Int.cast_ofNat_Int,Int.reduceToNat,Int.reducePow,Nat.min_eq_left,Int.reduceMul,List.mapM_cons,List.mapM_nil,hT.all,Tryd.f19,List.replicate,ha]
    exact fin

end Go.Proofs.YtmecikblalignaaDoor.B
