/- Part of a claim: rows of words: the program carries and negates them. -/
import Derived.Test.YtpddepehlinfnaaGreatDoorYS21
set_option linter.unusedSimpArgs false
set_option linter.unusedVariables false
set_option maxRecDepth 100000
set_option maxHeartbeats 10000000
namespace Go.Proofs.YtpddepehlinfnaaGreatDoor.B
open Go Go.RowKit Go.Proofs.YtpddepehlinfnaaGreatDoor.E Go.Proofs.YtpddepehlinfnaaGreatDoor.FL

theorem shrI (x : Int) : shiftOp .shr .i64 x 32 = some (.int .i64 (x / 4294967296)) := by
  have e : x.fdiv (2 ^ (min (32 : Int).toNat (IntKind.bits .i64))) = x / 4294967296 := by
    show x.fdiv 4294967296 = _
    exact Int.fdiv_eq_ediv_of_nonneg x (by decide)
  unfold shiftOp
  rw [if_neg (by decide)]
  simp only [e]

theorem lowI32 {x : Int} (h : I64 x) : IntKind.i64.wrap (((BitVec.ofInt 64 x) &&& 4294967295#64).toNat : Int) = x % 4294967296 := by
  unfold I64 at h
  rw [BitVec.toNat_and, BitVec.toNat_ofInt]
  have e3 : (4294967295#64).toNat = 4294967295 := by decide
  have e2 : (x % ((2 ^ 64 : Nat) : Int)).toNat = (x % 18446744073709551616).toNat := rfl
  rw [e2, e3]
  have e4 : (x % 18446744073709551616).toNat &&& 4294967295 = (x % 18446744073709551616).toNat % 4294967296 := Nat.and_two_pow_sub_one_eq_mod _ 32
  rw [e4, wrap_i64 (by omega) (by omega)]
  omega

theorem step_comm (w : List Int) (i : Nat) : (w.set (i + 1) (w.getD (i + 1) 0 + w.getD i 0 / 4294967296)).set i (w.getD i 0 % 4294967296) = FL.step w i := by
  unfold FL.step
  rw [List.set_comm _ _ (by omega)]

/-- The program carries. -/
theorem sCarry (M : Addr → Option AV) {H : Heap} {b ep : Nat} {el : TypeId} {w : List Int} {B : Int} (hw : Wd H b ep el w) (hl : w.length = 76) (hb : ∀ x ∈ w, -B ≤ x ∧ x ≤ B) (hB : B ≤ 4611686018427387904) :
    SemF Tryz.prog M 59 [.ptr b ep 0] H fun v h => v = .tup [] ∧ ∃ w', Carried w w' 75 B ∧ h = putW H b ep el w' := by
  refine fw Tryz.func59 (by kernel_rfl) rfl (by kernel_rfl) fun C L T hT hS => ?_
  simp only [gX,gT,gM,gL,gB,wantedA,evOp,opv,absC,absC0,isAggT,resA,resultA,binA,eqA,eqGuardA,isConstA,isFlatScalar,shiftOp,strOp,ordB,readN,sliceCells,lenA,storeA,newA,buildA,fillA,buildSliceA,boundsA,bndA,sliceA,ptrOK,fieldAddrA,fieldA,indexA,extractA,convA,isIntT,biA,bytesOf,setAll,List.replicate,Nat.reduceAdd,Nat.reduceSub,Nat.reduceMul,Nat.reduceLT,Nat.reduceLeDiff,Nat.reduceEqDiff,Int.reduceEq,Int.reduceLT,Int.reduceLE,Int.reduceNe,Int.reduceAdd,Nat.reduceBEq,reduceCtorEq,lenB_nil,lenB_slice,lenB_oslice,lenB_str,lenB_agg,indexAddrA_slice,indexAddrA_oslice,indexAddrA_ptr,indexAddrA_optr,loadA_ptr,loadA_optr,lenK,indexK,loadK,Int.reduceBEq,Int.reduceBNe,Int.reduceMod,Int.reduceDiv,Int.reduceTDiv,Int.reduceTMod,Int.reduceFDiv,Int.reduceSub,Int.reduceNeg,Int.reduceGT,Int.reduceGE,BitVec.reduceOfInt,BitVec.reduceAnd,BitVec.reduceOr,BitVec.reduceXOr,BitVec.reduceToNat,Int.reduceToNat,Int.reducePow,Int.reduceMul,hT.all,Tryz.f59]
  refine hS.loop (fun m e h => ∃ (k : Nat) (w' : List Int) (j1 j2 : AV) (j : List AV), e = .ptr b ep 0 :: j1 :: j2 :: .int .i64 k :: j ∧ j.length = 26 ∧ k + m = 75 ∧ Carried w w' k B ∧ h = putW H b ep el w') 75 ⟨0, w, _, _, _, rfl, rfl, rfl, .start hb, hw.same.symm⟩ ?_
  rintro m e h ⟨k, w', j1, j2, j, rfl, hj, hk, hc, rfl⟩ J hJ
  obtain ⟨g, rfl⟩ : ∃ g : Nat → AV, j = [g 0, g 1, g 2, g 3, g 4, g 5, g 6, g 7, g 8, g 9, g 10, g 11, g 12, g 13, g 14, g 15, g 16, g 17, g 18, g 19, g 20, g 21, g 22, g 23, g 24, g 25] := junk 26 j hj
  have hlw : w'.length = 76 := hc.len.trans hl
  by_cases hlt : k < 75
  rotate_left
  · have g1 : ¬ (k : Int) < 75 := by omega
    obtain rfl : k = 75 := by omega
    simp only [gX,gT,gM,gL,gB,wantedA,evOp,opv,absC,absC0,isAggT,resA,resultA,binA,eqA,eqGuardA,isConstA,isFlatScalar,shiftOp,strOp,ordB,readN,sliceCells,lenA,storeA,newA,buildA,fillA,buildSliceA,boundsA,bndA,sliceA,ptrOK,fieldAddrA,fieldA,indexA,extractA,convA,isIntT,biA,bytesOf,setAll,List.replicate,Nat.reduceAdd,Nat.reduceSub,Nat.reduceMul,Nat.reduceLT,Nat.reduceLeDiff,Nat.reduceEqDiff,Int.reduceEq,Int.reduceLT,Int.reduceLE,Int.reduceNe,Int.reduceAdd,Nat.reduceBEq,reduceCtorEq,lenB_nil,lenB_slice,lenB_oslice,lenB_str,lenB_agg,indexAddrA_slice,indexAddrA_oslice,indexAddrA_ptr,indexAddrA_optr,loadA_ptr,loadA_optr,lenK,indexK,loadK,Int.reduceBEq,Int.reduceBNe,Int.reduceMod,Int.reduceDiv,Int.reduceTDiv,Int.reduceTMod,Int.reduceFDiv,Int.reduceSub,Int.reduceNeg,Int.reduceGT,Int.reduceGE,BitVec.reduceOfInt,BitVec.reduceAnd,BitVec.reduceOr,BitVec.reduceXOr,BitVec.reduceToNat,Int.reduceToNat,Int.reducePow,Int.reduceMul,hT.all,g1]
    exact ⟨w', hc, rfl⟩
  have g1 : (k : Int) < 75 := by omega
  have hw1 := hw.put w'
  obtain ⟨x, hx⟩ : ∃ x, x = w'.getD k 0 := ⟨_, rfl⟩
  obtain ⟨y, hy⟩ : ∃ y, y = w'.getD (k + 1) 0 := ⟨_, rfl⟩
  have hxb := hc.at_ x (by rw [hx]; exact getD_some (by omega))
  have hyb := hc.high (k + 1) y (by omega) (by rw [hy]; exact getD_some (by omega))
  have hw2 := hw1.put (w'.set (k + 1) (y + x / 4294967296))
  rw [putW_put] at hw2
  have i1 : IntKind.i64.wrap ((k : Int) + 1) = ((k + 1 : Nat) : Int) := by rw [wrap_i64 (by omega) (by omega)]; omega
  have a1 : IntKind.i64.wrap (y + x / 4294967296) = y + x / 4294967296 := wrap_i64 (by omega) (by omega)
  have l1 := lowI32 (x := x) (by unfold I64; omega)
  have sh := shrI x
  have n1 := hw1.ix (T := T) (n := k) (k := .i64) hlw hT.ty66 rfl hT.ty2 rfl (by omega)
  have n2 := hw1.ix (T := T) (n := k + 1) (k := .i64) hlw hT.ty66 rfl hT.ty2 rfl (by omega)
  have o1 := hw1.ld (T := T) (M := M) (n := k) (by omega) hT.ty2 rfl
  have o2 := hw1.ld (T := T) (M := M) (n := k + 1) (by omega) hT.ty2 rfl
  rw [← hx] at o1
  rw [← hy] at o2
  have p1 := hw1.st (T := T) (n := k + 1) (x := y + x / 4294967296) (by omega) hT.ty2 rfl
  rw [putW_put] at p1
  have n3 := hw2.ix (T := T) (n := k) (k := .i64) (by rw [List.length_set]; exact hlw) hT.ty66 rfl hT.ty2 rfl (by omega)
  have o3 := hw2.ld (T := T) (M := M) (n := k) (by rw [List.length_set]; omega) hT.ty2 rfl
  rw [show (w'.set (k + 1) (y + x / 4294967296)).getD k 0 = x by rw [hx, List.getD_eq_getElem?_getD, List.getElem?_set_ne (by omega), ← List.getD_eq_getElem?_getD]] at o3
  have p2 := hw2.st (T := T) (n := k) (x := x % 4294967296) (by rw [List.length_set]; omega) hT.ty2 rfl
  rw [putW_put] at p2
  have hst : (w'.set (k + 1) (y + x / 4294967296)).set k (x % 4294967296) = FL.step w' k := by rw [hx, hy]; exact step_comm w' k
  rw [hst] at p2
  simp only [gX,gT,gM,gL,gB,wantedA,evOp,opv,absC,absC0,isAggT,resA,resultA,binA,eqA,eqGuardA,isConstA,isFlatScalar,strOp,ordB,readN,sliceCells,lenA,newA,buildA,fillA,buildSliceA,boundsA,bndA,sliceA,ptrOK,fieldAddrA,fieldA,indexA,extractA,convA,isIntT,biA,bytesOf,setAll,List.replicate,Nat.reduceAdd,Nat.reduceSub,Nat.reduceMul,Nat.reduceLT,Nat.reduceLeDiff,Nat.reduceEqDiff,Int.reduceEq,Int.reduceLT,Int.reduceLE,Int.reduceNe,Int.reduceAdd,Nat.reduceBEq,reduceCtorEq,lenB_nil,lenB_slice,lenB_oslice,lenB_str,lenB_agg,indexAddrA_slice,indexAddrA_oslice,indexAddrA_optr,loadA_optr,lenK,indexK,loadK,Int.reduceBEq,Int.reduceBNe,Int.reduceMod,Int.reduceDiv,Int.reduceTDiv,Int.reduceTMod,Int.reduceFDiv,Int.reduceSub,Int.reduceNeg,Int.reduceGT,Int.reduceGE,BitVec.reduceOfInt,BitVec.reduceAnd,BitVec.reduceOr,BitVec.reduceXOr,BitVec.reduceToNat,Int.reduceToNat,Int.reducePow,Int.reduceMul,hT.all,g1,i1,n1,n2,o1,o2,sh,a1,p1,n3,o3,l1,p2]
  exact hJ (m - 1) _ _ _ (by omega) (Weak.refl _) ⟨k + 1, FL.step w' k, _, _, _, rfl, rfl, by omega, hc.next hB (by omega), rfl⟩

theorem neg_take (w : List Int) (k : Nat) (h : k < w.length) : (((w.take k).map fun x => -x) ++ w.drop k).set k (-w.getD k 0) = ((w.take (k + 1)).map fun x => -x) ++ w.drop (k + 1) := by
  have e1 : w.drop k = w.getD k 0 :: w.drop (k + 1) := by
    rw [List.drop_eq_getElem_cons h, List.getD_eq_getElem?_getD, List.getElem?_eq_getElem h]; rfl
  rw [List.set_append_right _ _ (by rw [List.length_map, List.length_take]; omega), e1]
  have e2 : k - ((w.take k).map fun x => -x).length = 0 := by rw [List.length_map, List.length_take]; omega
  rw [e2, List.set_cons_zero, List.take_add_one, List.getElem?_eq_getElem h, Option.toList_some, List.map_append]
  rw [List.getD_eq_getElem?_getD, List.getElem?_eq_getElem h]
  simp

/-- The program negates. -/
theorem sNegate (M : Addr → Option AV) {H : Heap} {b ep : Nat} {el : TypeId} {w : List Int} (hw : Wd H b ep el w) (hl : w.length = 76) (hb : ∀ x ∈ w, -9223372036854775807 ≤ x ∧ x ≤ 9223372036854775807) :
    SemF Tryz.prog M 60 [.ptr b ep 0] H fun v h => v = .tup [] ∧ h = putW H b ep el (w.map fun x => -x) := by
  refine fw Tryz.func60 (by kernel_rfl) rfl (by kernel_rfl) fun C L T hT hS => ?_
  simp only [gX,gT,gM,gL,gB,wantedA,evOp,opv,absC,absC0,isAggT,resA,resultA,binA,eqA,eqGuardA,isConstA,isFlatScalar,shiftOp,strOp,ordB,readN,sliceCells,lenA,storeA,newA,buildA,fillA,buildSliceA,boundsA,bndA,sliceA,ptrOK,fieldAddrA,fieldA,indexA,extractA,convA,isIntT,biA,bytesOf,setAll,List.replicate,Nat.reduceAdd,Nat.reduceSub,Nat.reduceMul,Nat.reduceLT,Nat.reduceLeDiff,Nat.reduceEqDiff,Int.reduceEq,Int.reduceLT,Int.reduceLE,Int.reduceNe,Int.reduceAdd,Nat.reduceBEq,reduceCtorEq,lenB_nil,lenB_slice,lenB_oslice,lenB_str,lenB_agg,indexAddrA_slice,indexAddrA_oslice,indexAddrA_ptr,indexAddrA_optr,loadA_ptr,loadA_optr,lenK,indexK,loadK,Int.reduceBEq,Int.reduceBNe,Int.reduceMod,Int.reduceDiv,Int.reduceTDiv,Int.reduceTMod,Int.reduceFDiv,Int.reduceSub,Int.reduceNeg,Int.reduceGT,Int.reduceGE,BitVec.reduceOfInt,BitVec.reduceAnd,BitVec.reduceOr,BitVec.reduceXOr,BitVec.reduceToNat,Int.reduceToNat,Int.reducePow,Int.reduceMul,hT.all,Tryz.f60]
  refine hS.loop (fun m e h => ∃ (k : Nat) (j1 j2 : AV) (j : List AV), e = .ptr b ep 0 :: j1 :: j2 :: .int .i64 k :: j ∧ j.length = 13 ∧ k + m = 76 ∧ h = putW H b ep el (((w.take k).map fun x => -x) ++ w.drop k)) 76 ⟨0, _, _, _, rfl, rfl, rfl, hw.same.symm⟩ ?_
  rintro m e h ⟨k, j1, j2, j, rfl, hj, hk, rfl⟩ J hJ
  obtain ⟨g, rfl⟩ : ∃ g : Nat → AV, j = [g 0, g 1, g 2, g 3, g 4, g 5, g 6, g 7, g 8, g 9, g 10, g 11, g 12] := junk 13 j hj
  by_cases hlt : k < 76
  rotate_left
  · have g1 : ¬ (k : Int) < 76 := by omega
    obtain rfl : k = 76 := by omega
    have e : ((w.take 76).map fun x => -x) ++ w.drop 76 = w.map fun x => -x := by rw [List.take_of_length_le (by omega), List.drop_eq_nil_of_le (by omega), List.append_nil]
    rw [e]
    simp only [gX,gT,gM,gL,gB,wantedA,evOp,opv,absC,absC0,isAggT,resA,resultA,binA,eqA,eqGuardA,isConstA,isFlatScalar,shiftOp,strOp,ordB,readN,sliceCells,lenA,storeA,newA,buildA,fillA,buildSliceA,boundsA,bndA,sliceA,ptrOK,fieldAddrA,fieldA,indexA,extractA,convA,isIntT,biA,bytesOf,setAll,List.replicate,Nat.reduceAdd,Nat.reduceSub,Nat.reduceMul,Nat.reduceLT,Nat.reduceLeDiff,Nat.reduceEqDiff,Int.reduceEq,Int.reduceLT,Int.reduceLE,Int.reduceNe,Int.reduceAdd,Nat.reduceBEq,reduceCtorEq,lenB_nil,lenB_slice,lenB_oslice,lenB_str,lenB_agg,indexAddrA_slice,indexAddrA_oslice,indexAddrA_ptr,indexAddrA_optr,loadA_ptr,loadA_optr,lenK,indexK,loadK,Int.reduceBEq,Int.reduceBNe,Int.reduceMod,Int.reduceDiv,Int.reduceTDiv,Int.reduceTMod,Int.reduceFDiv,Int.reduceSub,Int.reduceNeg,Int.reduceGT,Int.reduceGE,BitVec.reduceOfInt,BitVec.reduceAnd,BitVec.reduceOr,BitVec.reduceXOr,BitVec.reduceToNat,Int.reduceToNat,Int.reducePow,Int.reduceMul,hT.all,g1]
  have g1 : (k : Int) < 76 := by omega
  obtain ⟨w', hw'⟩ : ∃ w', w' = ((w.take k).map fun x => -x) ++ w.drop k := ⟨_, rfl⟩
  have hlw : w'.length = 76 := by rw [hw', List.length_append, List.length_map, List.length_take, List.length_drop]; omega
  have hnt := neg_take w k (by omega)
  have hgd : w'.getD k 0 = w.getD k 0 := by
    rw [hw', List.getD_eq_getElem?_getD, List.getElem?_append_right (by rw [List.length_map, List.length_take]; omega), List.length_map, List.length_take, show k - min k w.length = 0 by omega, List.getElem?_drop, Nat.add_zero, ← List.getD_eq_getElem?_getD]
  rw [← hw'] at hnt ⊢
  have hw1 := hw.put w'
  obtain ⟨x, hx⟩ : ∃ x, x = w.getD k 0 := ⟨_, rfl⟩
  have hxb := hb x (by rw [hx]; exact List.mem_of_getElem? (getD_some (by omega)))
  rw [← hx] at hgd hnt
  have i1 : IntKind.i64.wrap ((k : Int) + 1) = ((k + 1 : Nat) : Int) := by rw [wrap_i64 (by omega) (by omega)]; omega
  have a1 : IntKind.i64.wrap (0 - x) = -x := by rw [wrap_i64 (by omega) (by omega)]; omega
  have n1 := hw1.ix (T := T) (n := k) (k := .i64) hlw hT.ty66 rfl hT.ty2 rfl (by omega)
  have o1 := hw1.ld (T := T) (M := M) (n := k) (by omega) hT.ty2 rfl
  rw [hgd] at o1
  have p1 := hw1.st (T := T) (n := k) (x := -x) (by omega) hT.ty2 rfl
  rw [putW_put, hnt] at p1
  simp only [gX,gT,gM,gL,gB,wantedA,evOp,opv,absC,absC0,isAggT,resA,resultA,binA,eqA,eqGuardA,isConstA,isFlatScalar,shiftOp,strOp,ordB,readN,sliceCells,lenA,newA,buildA,fillA,buildSliceA,boundsA,bndA,sliceA,ptrOK,fieldAddrA,fieldA,indexA,extractA,convA,isIntT,biA,bytesOf,setAll,List.replicate,Nat.reduceAdd,Nat.reduceSub,Nat.reduceMul,Nat.reduceLT,Nat.reduceLeDiff,Nat.reduceEqDiff,Int.reduceEq,Int.reduceLT,Int.reduceLE,Int.reduceNe,Int.reduceAdd,Nat.reduceBEq,reduceCtorEq,lenB_nil,lenB_slice,lenB_oslice,lenB_str,lenB_agg,indexAddrA_slice,indexAddrA_oslice,indexAddrA_optr,loadA_optr,lenK,indexK,loadK,Int.reduceBEq,Int.reduceBNe,Int.reduceMod,Int.reduceDiv,Int.reduceTDiv,Int.reduceTMod,Int.reduceFDiv,Int.reduceSub,Int.reduceNeg,Int.reduceGT,Int.reduceGE,BitVec.reduceOfInt,BitVec.reduceAnd,BitVec.reduceOr,BitVec.reduceXOr,BitVec.reduceToNat,Int.reduceToNat,Int.reducePow,Int.reduceMul,hT.all,g1,i1,n1,o1,a1,p1]
  exact hJ (m - 1) _ _ _ (by omega) (Weak.refl _) ⟨k + 1, _, _, _, rfl, rfl, by omega, rfl⟩

end Go.Proofs.YtpddepehlinfnaaGreatDoor.B
