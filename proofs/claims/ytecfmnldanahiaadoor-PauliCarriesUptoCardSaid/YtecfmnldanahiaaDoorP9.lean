/- Part of a claim: a text's letters: prefixes, trimmed texts. -/
import Derived.Test.YtecfmnldanahiaaDoorP8
set_option linter.unusedSimpArgs false
set_option linter.unusedVariables false
set_option maxRecDepth 100000
set_option maxHeartbeats 10000000
namespace Go.Proofs.YtecfmnldanahiaaDoor.B
open Go Go.RowKit Go.Proofs.YtecfmnldanahiaaDoor.E Go.Proofs.YtecfmnldanahiaaDoor.PC

/-- Is the byte a letter? -/
def isL (c : UInt8) : Bool := c == 73 || c == 88 || c == 89 || c == 90
def set4 : List AV := (List.range 256).map fun i => .bool (i == 73 || i == 88 || i == 89 || i == 90)

def setOK (r : Option (AV × Heap)) : Bool := match r with | some (v, _) => beqAV v (.tup [.agg set4, .bool true]) | none => false
set_option maxRecDepth 1000000 in
theorem set_run : setOK (evF (GX X0) tabM 3000 64 [.str [73, 88, 89, 90]] []) = true := by kernel_rfl
theorem set4_flat : flat (.tup [.agg set4, .bool true]) = true := by kernel_rfl
theorem set4_len : set4.length = 256 := by simp [set4]
theorem set4_cell : set4.all isCell = true := by
  simp only [set4, List.all_map, List.all_eq_true]
  intro x _; rfl
theorem set4_cells : cellsOf (.agg set4) = set4 := by rw [cellsOf_agg]
theorem set4_at (c : UInt8) : set4[c.toNat]? = some (.bool (isL c)) := by
  have h : c.toNat < 256 := c.toNat_lt
  unfold set4
  rw [List.getElem?_map, List.getElem?_range h]
  simp only [Option.map_some, Option.some.injEq, AV.bool.injEq, isL]
  have e : ∀ k : UInt8, (c.toNat == k.toNat) = (c == k) := fun k => by
    rw [Bool.eq_iff_iff, beq_iff_eq, beq_iff_eq]
    exact ⟨fun h => UInt8.toNat_inj.1 h, fun h => by rw [h]⟩
  have e1 := e 73
  have e2 := e 88
  have e3 := e 89
  have e4 := e 90
  rw [← e1, ← e2, ← e3, ← e4]
  rfl

theorem pSet (M : Addr → Option AV) (hM : ∀ a v, tabM a = some v → M a = some v) (H : Heap) : SemF Tryd.prog M 64 [.str [73, 88, 89, 90]] H fun v h => v = .tup [.agg set4, .bool true] ∧ h = H := by
  have h := set_run
  unfold setOK at h
  split at h
  · rename_i v H' hr
    have hv := beqAV_eq _ _ h
    subst hv
    exact SemF.pure rfl (SemF.weaken hM (((ev_ok (GX_ok (X0_ok tabM)) 3000).2 64 [.str [73, 88, 89, 90]] [] _ _ hr).mono fun v' h ⟨h1, _⟩ => ⟨by rw [h1]; exact set4_flat, h1⟩)) H
  · cases h

theorem pHas (M : Addr → Option AV) {H : Heap} {b : Nat} (h0 : H[b]? = some (.c set4 103 0 0)) (c : UInt8) :
    SemF Tryd.prog M 78 [.ptr b 0 0, u8 c] H fun v h => v = .bool (isL c) ∧ h = H := by
  refine fw Tryd.func78 (by kernel_rfl) rfl (by kernel_rfl) fun C L T hT hS => ?_
  have hc : c.toNat < 256 := c.toNat_lt
  have hl := set4_len
  have ha := set4_at c
  have hlt : c.toNat < set4.length := by omega
  have hi : ((c.toNat : Int)).toNat = c.toNat := Int.toNat_natCast _
  have c1 : (0 : Int) ≤ (c.toNat : Int) ∧ (c.toNat : Int) < 256 := by omega
  have hld : loadA T M H 4 (.ptr b 0 c.toNat) = some (.bool (isL c)) := (Sees.own (M := M) b 0 0 256 none set4 103 0 0 set4 h0 (Nat.le_refl _) (by omega) (by rw [List.drop_zero, Nat.mul_one, ← hl, List.take_length])).load (el := 4) (n := c.toNat) ha hT.ty4 rfl |> fun h => by
    simpa only [placeA, Nat.zero_add, Nat.mul_one] using h
  unfold u8
  simp only [gX,gM,gL,gB,List.map_cons,List.map_nil,wantedA,evOp,opv,absC,absC0,isAggT,resA,resultA,binA,eqA,eqGuardA,isConstA,isFlatScalar,shiftOp,strOp,ordB,readN,sliceCells,lenA,storeA,newA,buildA,fillA,buildSliceA,boundsA,bndA,sliceA,ptrOK,fieldAddrA,fieldA,indexA,extractA,convA,isIntT,biA,bytesOf,setAll,List.replicate,List.cons.injEq,exists_eq_left',exists_eq_left,exists_eq_right',eq_self,Option.map_some,Option.map_none,Option.bind_some,Option.bind_none,Option.some.injEq,Prod.mk.injEq,Nat.reduceAdd,Nat.reduceSub,Nat.reduceMul,Nat.reduceLT,Nat.reduceLeDiff,Nat.reduceEqDiff,Int.reduceEq,Int.reduceLT,Int.reduceLE,Int.reduceNe,Int.reduceAdd,beq_self_eq_true,Option.bind_eq_bind,Option.pure_def,bind_pure_comp,Option.map_eq_map,decide_eq_true_eq,ne_eq,not_false_eq_true,not_true_eq_false,Nat.lt_irrefl,Nat.reduceBEq,if_true,if_false,ite_true,ite_false,reduceCtorEq,Bool.false_eq_true,lenB_nil,lenB_slice,lenB_oslice,lenB_str,lenB_agg,indexAddrA_slice,indexAddrA_oslice,indexAddrA_ptr,indexAddrA_optr,loadA_ptr,loadA_optr,lenK,indexK,loadK,Option.toList_some,Option.toList_none,Int.reduceBEq,Int.reduceBNe,Int.reduceMod,Int.reduceDiv,Int.reduceTDiv,Int.reduceTMod,Int.reduceFDiv,Int.reduceSub,Int.reduceNeg,Int.reduceGT,Int.reduceGE,BitVec.reduceOfInt,BitVec.reduceAnd,BitVec.reduceOr,BitVec.reduceXOr,BitVec.reduceToNat,Int.cast_ofNat_Int,Int.reduceToNat,Int.reducePow,Nat.min_eq_left,Int.reduceMul,List.mapM_cons,List.mapM_nil,hT.all,Tryd.f78,h0,c1,hi,hlt,hld]

def trimR (s : List UInt8) : List UInt8 := (s.reverse.dropWhile isL).reverse
def trimL (s : List UInt8) : List UInt8 := s.dropWhile isL
theorem trimR_in {s : List UInt8} {c : UInt8} (h : isL c = true) : trimR (s ++ [c]) = trimR s := by
  unfold trimR
  rw [List.reverse_append, List.reverse_singleton, List.singleton_append, List.dropWhile_cons, if_pos h]
theorem trimR_out {s : List UInt8} {c : UInt8} (h : isL c = false) : trimR (s ++ [c]) = s ++ [c] := by
  unfold trimR
  rw [List.reverse_append, List.reverse_singleton, List.singleton_append, List.dropWhile_cons, if_neg (by simp [h])]
  simp

/-- A text's front; its rest. -/
theorem str_to {T : Tab} (hT : Ty T) {H : Heap} {s : List UInt8} {k : IntKind} {n : Int} (h0 : 0 ≤ n) (h : n.toNat ≤ s.length) : sliceA T H 9 (.str s) none (some (.int k n)) none = some (.str (s.take n.toNat)) := by
  have hb : 0 ≤ n ∧ n ≤ (s.length : Int) := ⟨h0, by omega⟩
  simp [sliceA, hT.ty9, boundsA, bndA, hb]
theorem str_from {T : Tab} (hT : Ty T) {H : Heap} {s : List UInt8} {k : IntKind} {n : Int} (h0 : 0 ≤ n) (h : n.toNat ≤ s.length) : sliceA T H 9 (.str s) (some (.int k n)) none none = some (.str (s.drop n.toNat)) := by
  have hb : 0 ≤ n ∧ n ≤ (s.length : Int) := ⟨h0, by omega⟩
  simp [sliceA, hT.ty9, boundsA, bndA, hb]

theorem pRightT (M : Addr → Option AV) {H : Heap} {b : Nat} (h0 : H[b]? = some (.c set4 103 0 0)) (s : List UInt8) (hs : s.length ≤ 9223372036854775807) :
    SemF Tryd.prog M 66 [.str s, .ptr b 0 0] H fun v h => v = .str (trimR s) ∧ h = H := by
  refine fw Tryd.func66 (by kernel_rfl) rfl (by kernel_rfl) fun C L T hT hS => ?_
  simp only [gX,gM,gL,gB,List.map_cons,List.map_nil,wantedA,evOp,opv,absC,absC0,isAggT,resA,resultA,binA,eqA,eqGuardA,isConstA,isFlatScalar,shiftOp,strOp,ordB,readN,sliceCells,lenA,storeA,newA,buildA,fillA,buildSliceA,boundsA,bndA,sliceA,ptrOK,fieldAddrA,fieldA,indexA,extractA,convA,isIntT,biA,bytesOf,setAll,List.replicate,List.cons.injEq,exists_eq_left',exists_eq_left,exists_eq_right',eq_self,Option.map_some,Option.map_none,Option.bind_some,Option.bind_none,Option.some.injEq,Prod.mk.injEq,Nat.reduceAdd,Nat.reduceSub,Nat.reduceMul,Nat.reduceLT,Nat.reduceLeDiff,Nat.reduceEqDiff,Int.reduceEq,Int.reduceLT,Int.reduceLE,Int.reduceNe,Int.reduceAdd,beq_self_eq_true,Option.bind_eq_bind,Option.pure_def,bind_pure_comp,Option.map_eq_map,decide_eq_true_eq,ne_eq,not_false_eq_true,not_true_eq_false,Nat.lt_irrefl,Nat.reduceBEq,if_true,if_false,ite_true,ite_false,reduceCtorEq,Bool.false_eq_true,lenB_nil,lenB_slice,lenB_oslice,lenB_str,lenB_agg,indexAddrA_slice,indexAddrA_oslice,indexAddrA_ptr,indexAddrA_optr,loadA_ptr,loadA_optr,lenK,indexK,loadK,Option.toList_some,Option.toList_none,Int.reduceBEq,Int.reduceBNe,Int.reduceMod,Int.reduceDiv,Int.reduceTDiv,Int.reduceTMod,Int.reduceFDiv,Int.reduceSub,Int.reduceNeg,Int.reduceGT,Int.reduceGE,BitVec.reduceOfInt,BitVec.reduceAnd,BitVec.reduceOr,BitVec.reduceXOr,BitVec.reduceToNat,Int.cast_ofNat_Int,Int.reduceToNat,Int.reducePow,Nat.min_eq_left,Int.reduceMul,List.mapM_cons,List.mapM_nil,hT.all,Tryd.f66]
  refine hS.loop (fun k e h => ∃ (t : List UInt8) (j : List AV), e = .str t :: .ptr b 0 0 :: j ∧ j.length = 20 ∧ t.length = k ∧ t.length ≤ 9223372036854775807 ∧ trimR t = trimR s ∧ h = H) s.length ⟨s, _, rfl, rfl, rfl, hs, rfl, rfl⟩ ?_
  rintro k e h ⟨t, j, rfl, hj, hk, ht, hr, rfl⟩ J hJ
  obtain ⟨g, rfl⟩ : ∃ g : Nat → AV, j = [g 0, g 1, g 2, g 3, g 4, g 5, g 6, g 7, g 8, g 9, g 10, g 11, g 12, g 13, g 14, g 15, g 16, g 17, g 18, g 19] := junk 20 j hj
  rcases List.eq_nil_or_concat t with rfl | ⟨u, c, rfl⟩
  · simp only [gX,gM,gL,gB,List.map_cons,List.map_nil,wantedA,evOp,opv,absC,absC0,isAggT,resA,resultA,binA,eqA,eqGuardA,isConstA,isFlatScalar,shiftOp,strOp,ordB,readN,sliceCells,lenA,storeA,newA,buildA,fillA,buildSliceA,boundsA,bndA,sliceA,ptrOK,fieldAddrA,fieldA,indexA,extractA,convA,isIntT,biA,bytesOf,setAll,List.replicate,List.cons.injEq,exists_eq_left',exists_eq_left,exists_eq_right',eq_self,Option.map_some,Option.map_none,Option.bind_some,Option.bind_none,Option.some.injEq,Prod.mk.injEq,Nat.reduceAdd,Nat.reduceSub,Nat.reduceMul,Nat.reduceLT,Nat.reduceLeDiff,Nat.reduceEqDiff,Int.reduceEq,Int.reduceLT,Int.reduceLE,Int.reduceNe,Int.reduceAdd,beq_self_eq_true,Option.bind_eq_bind,Option.pure_def,bind_pure_comp,Option.map_eq_map,decide_eq_true_eq,ne_eq,not_false_eq_true,not_true_eq_false,Nat.lt_irrefl,Nat.reduceBEq,if_true,if_false,ite_true,ite_false,reduceCtorEq,Bool.false_eq_true,lenB_nil,lenB_slice,lenB_oslice,lenB_str,lenB_agg,indexAddrA_slice,indexAddrA_oslice,indexAddrA_ptr,indexAddrA_optr,loadA_ptr,loadA_optr,lenK,indexK,loadK,Option.toList_some,Option.toList_none,Int.reduceBEq,Int.reduceBNe,Int.reduceMod,Int.reduceDiv,Int.reduceTDiv,Int.reduceTMod,Int.reduceFDiv,Int.reduceSub,Int.reduceNeg,Int.reduceGT,Int.reduceGE,BitVec.reduceOfInt,BitVec.reduceAnd,BitVec.reduceOr,BitVec.reduceXOr,BitVec.reduceToNat,Int.cast_ofNat_Int,Int.reduceToNat,Int.reducePow,Nat.min_eq_left,Int.reduceMul,List.mapM_cons,List.mapM_nil,hT.all]
    rw [← hr]; rfl
  · rw [List.concat_eq_append] at ht hk hr ⊢
    have hul : (u ++ [c]).length = u.length + 1 := by simp
    rw [hul] at hk ht
    have b0 : ((u.length + 1 : Nat) : Int) > 0 := by omega
    have w1 : IntKind.i64.wrap (((u.length + 1 : Nat) : Int) - 1) = (u.length : Int) := by rw [wrap_i64 (by omega) (by omega)]; omega
    have g1 : (u ++ [c])[u.length]? = some c := by simp
    have hh := pHas M h0 c
    have c0 : (0 : Int) ≤ (u.length : Int) := by omega
    have hi : ((u.length : Int)).toNat = u.length := Int.toNat_natCast _
    unfold u8 at hh
    cases hL : isL c with
    | true =>
      rw [hL] at hh
      simp only [gX,gM,gL,gB,List.map_cons,List.map_nil,wantedA,evOp,opv,absC,absC0,isAggT,resA,resultA,binA,eqA,eqGuardA,isConstA,isFlatScalar,shiftOp,strOp,ordB,readN,sliceCells,lenA,storeA,newA,buildA,fillA,buildSliceA,boundsA,bndA,sliceA,ptrOK,fieldAddrA,fieldA,indexA,extractA,convA,isIntT,biA,bytesOf,setAll,List.replicate,List.cons.injEq,exists_eq_left',exists_eq_left,exists_eq_right',eq_self,Option.map_some,Option.map_none,Option.bind_some,Option.bind_none,Option.some.injEq,Prod.mk.injEq,Nat.reduceAdd,Nat.reduceSub,Nat.reduceMul,Nat.reduceLT,Nat.reduceLeDiff,Nat.reduceEqDiff,Int.reduceEq,Int.reduceLT,Int.reduceLE,Int.reduceNe,Int.reduceAdd,beq_self_eq_true,Option.bind_eq_bind,Option.pure_def,bind_pure_comp,Option.map_eq_map,decide_eq_true_eq,ne_eq,not_false_eq_true,not_true_eq_false,Nat.lt_irrefl,Nat.reduceBEq,if_true,if_false,ite_true,ite_false,reduceCtorEq,Bool.false_eq_true,lenB_nil,lenB_slice,lenB_oslice,lenB_str,lenB_agg,indexAddrA_slice,indexAddrA_oslice,indexAddrA_ptr,indexAddrA_optr,loadA_ptr,loadA_optr,lenK,indexK,loadK,Option.toList_some,Option.toList_none,Int.reduceBEq,Int.reduceBNe,Int.reduceMod,Int.reduceDiv,Int.reduceTDiv,Int.reduceTMod,Int.reduceFDiv,Int.reduceSub,Int.reduceNeg,Int.reduceGT,Int.reduceGE,BitVec.reduceOfInt,BitVec.reduceAnd,BitVec.reduceOr,BitVec.reduceXOr,BitVec.reduceToNat,Int.cast_ofNat_Int,Int.reduceToNat,Int.reducePow,Nat.min_eq_left,Int.reduceMul,List.mapM_cons,List.mapM_nil,hT.all,hul,b0,w1,c0,hi,g1]
      refine hS.one hh ?_
      have hsl := fun H => str_to hT (H := H) (s := u ++ [c]) (k := .i64) (n := (u.length : Int)) c0 (by rw [hi, hul]; omega)
      have htk : List.take u.length (u ++ [c]) = u := by simp
      simp only [hi, htk] at hsl
      simp only [gX,gM,gL,gB,List.map_cons,List.map_nil,wantedA,evOp,opv,absC,absC0,isAggT,resA,resultA,binA,eqA,eqGuardA,isConstA,isFlatScalar,shiftOp,strOp,ordB,readN,sliceCells,lenA,storeA,newA,buildA,fillA,buildSliceA,boundsA,bndA,ptrOK,fieldAddrA,fieldA,indexA,extractA,convA,isIntT,biA,bytesOf,setAll,List.replicate,List.cons.injEq,exists_eq_left',exists_eq_left,exists_eq_right',eq_self,Option.map_some,Option.map_none,Option.bind_some,Option.bind_none,Option.some.injEq,Prod.mk.injEq,Nat.reduceAdd,Nat.reduceSub,Nat.reduceMul,Nat.reduceLT,Nat.reduceLeDiff,Nat.reduceEqDiff,Int.reduceEq,Int.reduceLT,Int.reduceLE,Int.reduceNe,Int.reduceAdd,beq_self_eq_true,Option.bind_eq_bind,Option.pure_def,bind_pure_comp,Option.map_eq_map,decide_eq_true_eq,ne_eq,not_false_eq_true,not_true_eq_false,Nat.lt_irrefl,Nat.reduceBEq,if_true,if_false,ite_true,ite_false,reduceCtorEq,Bool.false_eq_true,lenB_nil,lenB_slice,lenB_oslice,lenB_str,lenB_agg,indexAddrA_slice,indexAddrA_oslice,indexAddrA_ptr,indexAddrA_optr,loadA_ptr,loadA_optr,lenK,indexK,loadK,Option.toList_some,Option.toList_none,Int.reduceBEq,Int.reduceBNe,Int.reduceMod,Int.reduceDiv,Int.reduceTDiv,Int.reduceTMod,Int.reduceFDiv,Int.reduceSub,Int.reduceNeg,Int.reduceGT,Int.reduceGE,BitVec.reduceOfInt,BitVec.reduceAnd,BitVec.reduceOr,BitVec.reduceXOr,BitVec.reduceToNat,Int.cast_ofNat_Int,Int.reduceToNat,Int.reducePow,Nat.min_eq_left,Int.reduceMul,List.mapM_cons,List.mapM_nil,hT.all,hul,w1,hsl]
      exact hJ u.length _ _ _ (by omega) (Weak.refl _) ⟨u, _, rfl, rfl, rfl, by omega, by rw [← hr, trimR_in hL], rfl⟩
    | false =>
      rw [hL] at hh
      simp only [gX,gM,gL,gB,List.map_cons,List.map_nil,wantedA,evOp,opv,absC,absC0,isAggT,resA,resultA,binA,eqA,eqGuardA,isConstA,isFlatScalar,shiftOp,strOp,ordB,readN,sliceCells,lenA,storeA,newA,buildA,fillA,buildSliceA,boundsA,bndA,sliceA,ptrOK,fieldAddrA,fieldA,indexA,extractA,convA,isIntT,biA,bytesOf,setAll,List.replicate,List.cons.injEq,exists_eq_left',exists_eq_left,exists_eq_right',eq_self,Option.map_some,Option.map_none,Option.bind_some,Option.bind_none,Option.some.injEq,Prod.mk.injEq,Nat.reduceAdd,Nat.reduceSub,Nat.reduceMul,Nat.reduceLT,Nat.reduceLeDiff,Nat.reduceEqDiff,Int.reduceEq,Int.reduceLT,Int.reduceLE,Int.reduceNe,Int.reduceAdd,beq_self_eq_true,Option.bind_eq_bind,Option.pure_def,bind_pure_comp,Option.map_eq_map,decide_eq_true_eq,ne_eq,not_false_eq_true,not_true_eq_false,Nat.lt_irrefl,Nat.reduceBEq,if_true,if_false,ite_true,ite_false,reduceCtorEq,Bool.false_eq_true,lenB_nil,lenB_slice,lenB_oslice,lenB_str,lenB_agg,indexAddrA_slice,indexAddrA_oslice,indexAddrA_ptr,indexAddrA_optr,loadA_ptr,loadA_optr,lenK,indexK,loadK,Option.toList_some,Option.toList_none,Int.reduceBEq,Int.reduceBNe,Int.reduceMod,Int.reduceDiv,Int.reduceTDiv,Int.reduceTMod,Int.reduceFDiv,Int.reduceSub,Int.reduceNeg,Int.reduceGT,Int.reduceGE,BitVec.reduceOfInt,BitVec.reduceAnd,BitVec.reduceOr,BitVec.reduceXOr,BitVec.reduceToNat,Int.cast_ofNat_Int,Int.reduceToNat,Int.reducePow,Nat.min_eq_left,Int.reduceMul,List.mapM_cons,List.mapM_nil,hT.all,hul,b0,w1,c0,hi,g1]
      refine hS.one hh ?_
      simp only [gX,gM,gL,gB,List.map_cons,List.map_nil,wantedA,evOp,opv,absC,absC0,isAggT,resA,resultA,binA,eqA,eqGuardA,isConstA,isFlatScalar,shiftOp,strOp,ordB,readN,sliceCells,lenA,storeA,newA,buildA,fillA,buildSliceA,boundsA,bndA,sliceA,ptrOK,fieldAddrA,fieldA,indexA,extractA,convA,isIntT,biA,bytesOf,setAll,List.replicate,List.cons.injEq,exists_eq_left',exists_eq_left,exists_eq_right',eq_self,Option.map_some,Option.map_none,Option.bind_some,Option.bind_none,Option.some.injEq,Prod.mk.injEq,Nat.reduceAdd,Nat.reduceSub,Nat.reduceMul,Nat.reduceLT,Nat.reduceLeDiff,Nat.reduceEqDiff,Int.reduceEq,Int.reduceLT,Int.reduceLE,Int.reduceNe,Int.reduceAdd,beq_self_eq_true,Option.bind_eq_bind,Option.pure_def,bind_pure_comp,Option.map_eq_map,decide_eq_true_eq,ne_eq,not_false_eq_true,not_true_eq_false,Nat.lt_irrefl,Nat.reduceBEq,if_true,if_false,ite_true,ite_false,reduceCtorEq,Bool.false_eq_true,lenB_nil,lenB_slice,lenB_oslice,lenB_str,lenB_agg,indexAddrA_slice,indexAddrA_oslice,indexAddrA_ptr,indexAddrA_optr,loadA_ptr,loadA_optr,lenK,indexK,loadK,Option.toList_some,Option.toList_none,Int.reduceBEq,Int.reduceBNe,Int.reduceMod,Int.reduceDiv,Int.reduceTDiv,Int.reduceTMod,Int.reduceFDiv,Int.reduceSub,Int.reduceNeg,Int.reduceGT,Int.reduceGE,BitVec.reduceOfInt,BitVec.reduceAnd,BitVec.reduceOr,BitVec.reduceXOr,BitVec.reduceToNat,Int.cast_ofNat_Int,Int.reduceToNat,Int.reducePow,Nat.min_eq_left,Int.reduceMul,List.mapM_cons,List.mapM_nil,hT.all,hul,w1]
      rw [← hr, trimR_out hL]

theorem pLeftT (M : Addr → Option AV) {H : Heap} {b : Nat} (h0 : H[b]? = some (.c set4 103 0 0)) (s : List UInt8) (hs : s.length ≤ 9223372036854775807) :
    SemF Tryd.prog M 65 [.str s, .ptr b 0 0] H fun v h => v = .str (trimL s) ∧ h = H := by
  refine fw Tryd.func65 (by kernel_rfl) rfl (by kernel_rfl) fun C L T hT hS => ?_
  simp only [gX,gM,gL,gB,List.map_cons,List.map_nil,wantedA,evOp,opv,absC,absC0,isAggT,resA,resultA,binA,eqA,eqGuardA,isConstA,isFlatScalar,shiftOp,strOp,ordB,readN,sliceCells,lenA,storeA,newA,buildA,fillA,buildSliceA,boundsA,bndA,sliceA,ptrOK,fieldAddrA,fieldA,indexA,extractA,convA,isIntT,biA,bytesOf,setAll,List.replicate,List.cons.injEq,exists_eq_left',exists_eq_left,exists_eq_right',eq_self,Option.map_some,Option.map_none,Option.bind_some,Option.bind_none,Option.some.injEq,Prod.mk.injEq,Nat.reduceAdd,Nat.reduceSub,Nat.reduceMul,Nat.reduceLT,Nat.reduceLeDiff,Nat.reduceEqDiff,Int.reduceEq,Int.reduceLT,Int.reduceLE,Int.reduceNe,Int.reduceAdd,beq_self_eq_true,Option.bind_eq_bind,Option.pure_def,bind_pure_comp,Option.map_eq_map,decide_eq_true_eq,ne_eq,not_false_eq_true,not_true_eq_false,Nat.lt_irrefl,Nat.reduceBEq,if_true,if_false,ite_true,ite_false,reduceCtorEq,Bool.false_eq_true,lenB_nil,lenB_slice,lenB_oslice,lenB_str,lenB_agg,indexAddrA_slice,indexAddrA_oslice,indexAddrA_ptr,indexAddrA_optr,loadA_ptr,loadA_optr,lenK,indexK,loadK,Option.toList_some,Option.toList_none,Int.reduceBEq,Int.reduceBNe,Int.reduceMod,Int.reduceDiv,Int.reduceTDiv,Int.reduceTMod,Int.reduceFDiv,Int.reduceSub,Int.reduceNeg,Int.reduceGT,Int.reduceGE,BitVec.reduceOfInt,BitVec.reduceAnd,BitVec.reduceOr,BitVec.reduceXOr,BitVec.reduceToNat,Int.cast_ofNat_Int,Int.reduceToNat,Int.reducePow,Nat.min_eq_left,Int.reduceMul,List.mapM_cons,List.mapM_nil,hT.all,Tryd.f65]
  refine hS.loop (fun k e h => ∃ (t : List UInt8) (j : List AV), e = .str t :: .ptr b 0 0 :: j ∧ j.length = 14 ∧ t.length = k ∧ t.length ≤ 9223372036854775807 ∧ trimL t = trimL s ∧ h = H) s.length ⟨s, _, rfl, rfl, rfl, hs, rfl, rfl⟩ ?_
  rintro k e h ⟨t, j, rfl, hj, hk, ht, hr, rfl⟩ J hJ
  obtain ⟨g, rfl⟩ : ∃ g : Nat → AV, j = [g 0, g 1, g 2, g 3, g 4, g 5, g 6, g 7, g 8, g 9, g 10, g 11, g 12, g 13] := junk 14 j hj
  cases t with
  | nil =>
    simp only [gX,gM,gL,gB,List.map_cons,List.map_nil,wantedA,evOp,opv,absC,absC0,isAggT,resA,resultA,binA,eqA,eqGuardA,isConstA,isFlatScalar,shiftOp,strOp,ordB,readN,sliceCells,lenA,storeA,newA,buildA,fillA,buildSliceA,boundsA,bndA,sliceA,ptrOK,fieldAddrA,fieldA,indexA,extractA,convA,isIntT,biA,bytesOf,setAll,List.replicate,List.cons.injEq,exists_eq_left',exists_eq_left,exists_eq_right',eq_self,Option.map_some,Option.map_none,Option.bind_some,Option.bind_none,Option.some.injEq,Prod.mk.injEq,Nat.reduceAdd,Nat.reduceSub,Nat.reduceMul,Nat.reduceLT,Nat.reduceLeDiff,Nat.reduceEqDiff,Int.reduceEq,Int.reduceLT,Int.reduceLE,Int.reduceNe,Int.reduceAdd,beq_self_eq_true,Option.bind_eq_bind,Option.pure_def,bind_pure_comp,Option.map_eq_map,decide_eq_true_eq,ne_eq,not_false_eq_true,not_true_eq_false,Nat.lt_irrefl,Nat.reduceBEq,if_true,if_false,ite_true,ite_false,reduceCtorEq,Bool.false_eq_true,lenB_nil,lenB_slice,lenB_oslice,lenB_str,lenB_agg,indexAddrA_slice,indexAddrA_oslice,indexAddrA_ptr,indexAddrA_optr,loadA_ptr,loadA_optr,lenK,indexK,loadK,Option.toList_some,Option.toList_none,Int.reduceBEq,Int.reduceBNe,Int.reduceMod,Int.reduceDiv,Int.reduceTDiv,Int.reduceTMod,Int.reduceFDiv,Int.reduceSub,Int.reduceNeg,Int.reduceGT,Int.reduceGE,BitVec.reduceOfInt,BitVec.reduceAnd,BitVec.reduceOr,BitVec.reduceXOr,BitVec.reduceToNat,Int.cast_ofNat_Int,Int.reduceToNat,Int.reducePow,Nat.min_eq_left,Int.reduceMul,List.mapM_cons,List.mapM_nil,hT.all]
    rw [← hr]; rfl
  | cons c u =>
    rw [List.length_cons] at ht hk
    have b0 : ((u.length + 1 : Nat) : Int) > 0 := by omega
    have hh := pHas M h0 c
    unfold u8 at hh
    cases hL : isL c with
    | true =>
      rw [hL] at hh
      simp only [gX,gM,gL,gB,List.map_cons,List.map_nil,wantedA,evOp,opv,absC,absC0,isAggT,resA,resultA,binA,eqA,eqGuardA,isConstA,isFlatScalar,shiftOp,strOp,ordB,readN,sliceCells,lenA,storeA,newA,buildA,fillA,buildSliceA,boundsA,bndA,sliceA,ptrOK,fieldAddrA,fieldA,indexA,extractA,convA,isIntT,biA,bytesOf,setAll,List.replicate,List.cons.injEq,exists_eq_left',exists_eq_left,exists_eq_right',eq_self,Option.map_some,Option.map_none,Option.bind_some,Option.bind_none,Option.some.injEq,Prod.mk.injEq,Nat.reduceAdd,Nat.reduceSub,Nat.reduceMul,Nat.reduceLT,Nat.reduceLeDiff,Nat.reduceEqDiff,Int.reduceEq,Int.reduceLT,Int.reduceLE,Int.reduceNe,Int.reduceAdd,beq_self_eq_true,Option.bind_eq_bind,Option.pure_def,bind_pure_comp,Option.map_eq_map,decide_eq_true_eq,ne_eq,not_false_eq_true,not_true_eq_false,Nat.lt_irrefl,Nat.reduceBEq,if_true,if_false,ite_true,ite_false,reduceCtorEq,Bool.false_eq_true,lenB_nil,lenB_slice,lenB_oslice,lenB_str,lenB_agg,indexAddrA_slice,indexAddrA_oslice,indexAddrA_ptr,indexAddrA_optr,loadA_ptr,loadA_optr,lenK,indexK,loadK,Option.toList_some,Option.toList_none,Int.reduceBEq,Int.reduceBNe,Int.reduceMod,Int.reduceDiv,Int.reduceTDiv,Int.reduceTMod,Int.reduceFDiv,Int.reduceSub,Int.reduceNeg,Int.reduceGT,Int.reduceGE,BitVec.reduceOfInt,BitVec.reduceAnd,BitVec.reduceOr,BitVec.reduceXOr,BitVec.reduceToNat,Int.cast_ofNat_Int,Int.reduceToNat,Int.reducePow,Nat.min_eq_left,Int.reduceMul,List.mapM_cons,List.mapM_nil,hT.all,b0]
      refine hS.one hh ?_
      have hsl := fun H => str_from hT (H := H) (s := c :: u) (k := .i64) (n := 1) (by decide) (by simp)
      simp only [gX,gM,gL,gB,List.map_cons,List.map_nil,wantedA,evOp,opv,absC,absC0,isAggT,resA,resultA,binA,eqA,eqGuardA,isConstA,isFlatScalar,shiftOp,strOp,ordB,readN,sliceCells,lenA,storeA,newA,buildA,fillA,buildSliceA,boundsA,bndA,ptrOK,fieldAddrA,fieldA,indexA,extractA,convA,isIntT,biA,bytesOf,setAll,List.replicate,List.cons.injEq,exists_eq_left',exists_eq_left,exists_eq_right',eq_self,Option.map_some,Option.map_none,Option.bind_some,Option.bind_none,Option.some.injEq,Prod.mk.injEq,Nat.reduceAdd,Nat.reduceSub,Nat.reduceMul,Nat.reduceLT,Nat.reduceLeDiff,Nat.reduceEqDiff,Int.reduceEq,Int.reduceLT,Int.reduceLE,Int.reduceNe,Int.reduceAdd,beq_self_eq_true,Option.bind_eq_bind,Option.pure_def,bind_pure_comp,Option.map_eq_map,decide_eq_true_eq,ne_eq,not_false_eq_true,not_true_eq_false,Nat.lt_irrefl,Nat.reduceBEq,if_true,if_false,ite_true,ite_false,reduceCtorEq,Bool.false_eq_true,lenB_nil,lenB_slice,lenB_oslice,lenB_str,lenB_agg,indexAddrA_slice,indexAddrA_oslice,indexAddrA_ptr,indexAddrA_optr,loadA_ptr,loadA_optr,lenK,indexK,loadK,Option.toList_some,Option.toList_none,Int.reduceBEq,Int.reduceBNe,Int.reduceMod,Int.reduceDiv,Int.reduceTDiv,Int.reduceTMod,Int.reduceFDiv,Int.reduceSub,Int.reduceNeg,Int.reduceGT,Int.reduceGE,BitVec.reduceOfInt,BitVec.reduceAnd,BitVec.reduceOr,BitVec.reduceXOr,BitVec.reduceToNat,Int.cast_ofNat_Int,Int.reduceToNat,Int.reducePow,Nat.min_eq_left,Int.reduceMul,List.mapM_cons,List.mapM_nil,hT.all,hsl]
      exact hJ u.length _ _ _ (by omega) (Weak.refl _) ⟨u, _, rfl, rfl, rfl, by omega, by rw [← hr]; unfold trimL; rw [List.dropWhile_cons, if_pos hL], rfl⟩
    | false =>
      rw [hL] at hh
      simp only [gX,gM,gL,gB,List.map_cons,List.map_nil,wantedA,evOp,opv,absC,absC0,isAggT,resA,resultA,binA,eqA,eqGuardA,isConstA,isFlatScalar,shiftOp,strOp,ordB,readN,sliceCells,lenA,storeA,newA,buildA,fillA,buildSliceA,boundsA,bndA,sliceA,ptrOK,fieldAddrA,fieldA,indexA,extractA,convA,isIntT,biA,bytesOf,setAll,List.replicate,List.cons.injEq,exists_eq_left',exists_eq_left,exists_eq_right',eq_self,Option.map_some,Option.map_none,Option.bind_some,Option.bind_none,Option.some.injEq,Prod.mk.injEq,Nat.reduceAdd,Nat.reduceSub,Nat.reduceMul,Nat.reduceLT,Nat.reduceLeDiff,Nat.reduceEqDiff,Int.reduceEq,Int.reduceLT,Int.reduceLE,Int.reduceNe,Int.reduceAdd,beq_self_eq_true,Option.bind_eq_bind,Option.pure_def,bind_pure_comp,Option.map_eq_map,decide_eq_true_eq,ne_eq,not_false_eq_true,not_true_eq_false,Nat.lt_irrefl,Nat.reduceBEq,if_true,if_false,ite_true,ite_false,reduceCtorEq,Bool.false_eq_true,lenB_nil,lenB_slice,lenB_oslice,lenB_str,lenB_agg,indexAddrA_slice,indexAddrA_oslice,indexAddrA_ptr,indexAddrA_optr,loadA_ptr,loadA_optr,lenK,indexK,loadK,Option.toList_some,Option.toList_none,Int.reduceBEq,Int.reduceBNe,Int.reduceMod,Int.reduceDiv,Int.reduceTDiv,Int.reduceTMod,Int.reduceFDiv,Int.reduceSub,Int.reduceNeg,Int.reduceGT,Int.reduceGE,BitVec.reduceOfInt,BitVec.reduceAnd,BitVec.reduceOr,BitVec.reduceXOr,BitVec.reduceToNat,Int.cast_ofNat_Int,Int.reduceToNat,Int.reducePow,Nat.min_eq_left,Int.reduceMul,List.mapM_cons,List.mapM_nil,hT.all,b0]
      refine hS.one hh ?_
      simp only [gX,gM,gL,gB,List.map_cons,List.map_nil,wantedA,evOp,opv,absC,absC0,isAggT,resA,resultA,binA,eqA,eqGuardA,isConstA,isFlatScalar,shiftOp,strOp,ordB,readN,sliceCells,lenA,storeA,newA,buildA,fillA,buildSliceA,boundsA,bndA,sliceA,ptrOK,fieldAddrA,fieldA,indexA,extractA,convA,isIntT,biA,bytesOf,setAll,List.replicate,List.cons.injEq,exists_eq_left',exists_eq_left,exists_eq_right',eq_self,Option.map_some,Option.map_none,Option.bind_some,Option.bind_none,Option.some.injEq,Prod.mk.injEq,Nat.reduceAdd,Nat.reduceSub,Nat.reduceMul,Nat.reduceLT,Nat.reduceLeDiff,Nat.reduceEqDiff,Int.reduceEq,Int.reduceLT,Int.reduceLE,Int.reduceNe,Int.reduceAdd,beq_self_eq_true,Option.bind_eq_bind,Option.pure_def,bind_pure_comp,Option.map_eq_map,decide_eq_true_eq,ne_eq,not_false_eq_true,not_true_eq_false,Nat.lt_irrefl,Nat.reduceBEq,if_true,if_false,ite_true,ite_false,reduceCtorEq,Bool.false_eq_true,lenB_nil,lenB_slice,lenB_oslice,lenB_str,lenB_agg,indexAddrA_slice,indexAddrA_oslice,indexAddrA_ptr,indexAddrA_optr,loadA_ptr,loadA_optr,lenK,indexK,loadK,Option.toList_some,Option.toList_none,Int.reduceBEq,Int.reduceBNe,Int.reduceMod,Int.reduceDiv,Int.reduceTDiv,Int.reduceTMod,Int.reduceFDiv,Int.reduceSub,Int.reduceNeg,Int.reduceGT,Int.reduceGE,BitVec.reduceOfInt,BitVec.reduceAnd,BitVec.reduceOr,BitVec.reduceXOr,BitVec.reduceToNat,Int.cast_ofNat_Int,Int.reduceToNat,Int.reducePow,Nat.min_eq_left,Int.reduceMul,List.mapM_cons,List.mapM_nil,hT.all]
      rw [← hr]; unfold trimL; rw [List.dropWhile_cons, if_neg (by simp [hL])]

end Go.Proofs.YtecfmnldanahiaaDoor.B
