/- Part of a claim: a text cut in two. -/
import Derived.Test.YtpddepehlinfnaaGreatDoorPS34
set_option linter.unusedSimpArgs false
set_option linter.unusedVariables false
set_option maxRecDepth 100000
set_option maxHeartbeats 10000000
namespace Go.Proofs.YtpddepehlinfnaaGreatDoor.B
open Go Go.RowKit Go.Proofs.YtpddepehlinfnaaGreatDoor.E Go.Proofs.YtpddepehlinfnaaGreatDoor.FL

theorem byteAt_mid {a d : List UInt8} {c : UInt8} (h : c ∉ a) : byteAt (a ++ c :: d) c = a.length := by
  have e : (List.range (a ++ c :: d).length).find? (fun i => (a ++ c :: d)[i]! == c) = some a.length := by
    rw [List.find?_range_eq_some]
    refine ⟨?_, by simp, ?_⟩
    · simp
    · intro j hj
      have h1 : (a ++ c :: d)[j]! = a[j] := by
        rw [List.getElem!_eq_getElem?_getD, List.getElem?_append_left hj, List.getElem?_eq_getElem hj]; rfl
      rw [h1, Bool.not_eq_true', beq_eq_false_iff_ne]
      exact fun e => h (e ▸ List.getElem_mem hj)
  unfold byteAt
  rw [e]

theorem strTo {T : Tab} (hT : Ty T) {H : Heap} {s : List UInt8} {n : Nat} (h : n ≤ s.length) : sliceA T H 9 (.str s) none (some (.int .i64 (n : Int))) none = some (.str (s.take n)) := by
  have hb : 0 ≤ (n : Int) ∧ (n : Int) ≤ (s.length : Int) := ⟨by omega, by omega⟩
  simp [sliceA, hT.ty9, boundsA, bndA, hb, h]
theorem strFrom {T : Tab} (hT : Ty T) {H : Heap} {s : List UInt8} {n : Nat} (h : n ≤ s.length) : sliceA T H 9 (.str s) (some (.int .i64 (n : Int))) none none = some (.str (s.drop n)) := by
  have hb : 0 ≤ (n : Int) ∧ (n : Int) ≤ (s.length : Int) := ⟨by omega, by omega⟩
  simp [sliceA, hT.ty9, boundsA, bndA, hb, h]

theorem pIdxB (M : Addr → Option AV) (H : Heap) {a d : List UInt8} (h : (112 : UInt8) ∉ a) : SemF Tryz.prog M 129 [.str (a ++ 112 :: d), .int .u8 112] H fun v h => v = .int .i64 (a.length : Int) ∧ h = H := by
  refine fpure rfl rfl (fw Tryz.func129 (by kernel_rfl) rfl (by kernel_rfl) fun C L T hT hS => ?_) H
  have hx := X0_ok M 161 idxByteX rfl [.str (a ++ 112 :: d), .int .u8 112] [] (.int .i64 (a.length : Int)) [] (by show some (AV.int .i64 (byteAt _ (112 : UInt8)), _) = _; rw [byteAt_mid h])
  simp only [gX,gT,gM,gL,gB,wantedA,evOp,opv,absC,absC0,isAggT,resA,resultA,binA,eqA,eqGuardA,isConstA,isFlatScalar,shiftOp,strOp,ordB,readN,sliceCells,lenA,storeA,newA,buildA,fillA,buildSliceA,boundsA,bndA,sliceA,ptrOK,fieldAddrA,fieldA,indexA,extractA,convA,isIntT,biA,bytesOf,setAll,List.replicate,Nat.reduceAdd,Nat.reduceSub,Nat.reduceMul,Nat.reduceLT,Nat.reduceLeDiff,Nat.reduceEqDiff,Int.reduceEq,Int.reduceLT,Int.reduceLE,Int.reduceNe,Int.reduceAdd,Nat.reduceBEq,reduceCtorEq,lenB_nil,lenB_slice,lenB_oslice,lenB_str,lenB_agg,indexAddrA_slice,indexAddrA_oslice,indexAddrA_ptr,indexAddrA_optr,loadA_ptr,loadA_optr,lenK,indexK,loadK,Int.reduceBEq,Int.reduceBNe,Int.reduceMod,Int.reduceDiv,Int.reduceTDiv,Int.reduceTMod,Int.reduceFDiv,Int.reduceSub,Int.reduceNeg,Int.reduceGT,Int.reduceGE,BitVec.reduceOfInt,BitVec.reduceAnd,BitVec.reduceOr,BitVec.reduceXOr,BitVec.reduceToNat,Int.reduceToNat,Int.reducePow,Int.reduceMul,hT.all,Tryz.f129]
  refine hS.one hx ?_
  simp only [gX,gT,gM,gL,gB,wantedA,evOp,opv,absC,absC0,isAggT,resA,resultA,binA,eqA,eqGuardA,isConstA,isFlatScalar,shiftOp,strOp,ordB,readN,sliceCells,lenA,storeA,newA,buildA,fillA,buildSliceA,boundsA,bndA,sliceA,ptrOK,fieldAddrA,fieldA,indexA,extractA,convA,isIntT,biA,bytesOf,setAll,List.replicate,Nat.reduceAdd,Nat.reduceSub,Nat.reduceMul,Nat.reduceLT,Nat.reduceLeDiff,Nat.reduceEqDiff,Int.reduceEq,Int.reduceLT,Int.reduceLE,Int.reduceNe,Int.reduceAdd,Nat.reduceBEq,reduceCtorEq,lenB_nil,lenB_slice,lenB_oslice,lenB_str,lenB_agg,indexAddrA_slice,indexAddrA_oslice,indexAddrA_ptr,indexAddrA_optr,loadA_ptr,loadA_optr,lenK,indexK,loadK,Int.reduceBEq,Int.reduceBNe,Int.reduceMod,Int.reduceDiv,Int.reduceTDiv,Int.reduceTMod,Int.reduceFDiv,Int.reduceSub,Int.reduceNeg,Int.reduceGT,Int.reduceGE,BitVec.reduceOfInt,BitVec.reduceAnd,BitVec.reduceOr,BitVec.reduceXOr,BitVec.reduceToNat,Int.reduceToNat,Int.reducePow,Int.reduceMul,hT.all]

theorem pIdx1 (M : Addr → Option AV) (H : Heap) {a d : List UInt8} (h : (112 : UInt8) ∉ a) (h0 : a ≠ []) : SemF Tryz.prog M 107 [.str (a ++ 112 :: d), .str [112]] H fun v h => v = .int .i64 (a.length : Int) ∧ h = H := by
  refine fpure rfl rfl (fw Tryz.func107 (by kernel_rfl) rfl (by kernel_rfl) fun C L T hT hS => ?_) H
  have hb := pIdxB M [] (d := d) h
  have ne : (([112] : List UInt8) == a ++ 112 :: d) = false := by
    rw [beq_eq_false_iff_ne]
    intro e
    have := congrArg List.length e
    cases a with
    | nil => exact h0 rfl
    | cons x a => simp at this
  obtain ⟨s, hs⟩ : ∃ s, s = a ++ 112 :: d := ⟨_, rfl⟩
  rw [← hs] at hb ne ⊢
  simp only [gX,gT,gM,gL,gB,wantedA,evOp,opv,absC,absC0,isAggT,resA,resultA,binA,eqA,eqGuardA,isConstA,isFlatScalar,shiftOp,strOp,ordB,readN,sliceCells,lenA,storeA,newA,buildA,fillA,buildSliceA,boundsA,bndA,sliceA,ptrOK,fieldAddrA,fieldA,indexA,extractA,convA,isIntT,biA,bytesOf,setAll,List.replicate,Nat.reduceAdd,Nat.reduceSub,Nat.reduceMul,Nat.reduceLT,Nat.reduceLeDiff,Nat.reduceEqDiff,Int.reduceEq,Int.reduceLT,Int.reduceLE,Int.reduceNe,Int.reduceAdd,Nat.reduceBEq,reduceCtorEq,lenB_nil,lenB_slice,lenB_oslice,lenB_str,lenB_agg,indexAddrA_slice,indexAddrA_oslice,indexAddrA_ptr,indexAddrA_optr,loadA_ptr,loadA_optr,lenK,indexK,loadK,Int.reduceBEq,Int.reduceBNe,Int.reduceMod,Int.reduceDiv,Int.reduceTDiv,Int.reduceTMod,Int.reduceFDiv,Int.reduceSub,Int.reduceNeg,Int.reduceGT,Int.reduceGE,BitVec.reduceOfInt,BitVec.reduceAnd,BitVec.reduceOr,BitVec.reduceXOr,BitVec.reduceToNat,Int.reduceToNat,Int.reducePow,Int.reduceMul,hT.all,Tryz.f107,ne]
  refine hS.one hb ?_
  simp only [gX,gT,gM,gL,gB,wantedA,evOp,opv,absC,absC0,isAggT,resA,resultA,binA,eqA,eqGuardA,isConstA,isFlatScalar,shiftOp,strOp,ordB,readN,sliceCells,lenA,storeA,newA,buildA,fillA,buildSliceA,boundsA,bndA,sliceA,ptrOK,fieldAddrA,fieldA,indexA,extractA,convA,isIntT,biA,bytesOf,setAll,List.replicate,Nat.reduceAdd,Nat.reduceSub,Nat.reduceMul,Nat.reduceLT,Nat.reduceLeDiff,Nat.reduceEqDiff,Int.reduceEq,Int.reduceLT,Int.reduceLE,Int.reduceNe,Int.reduceAdd,Nat.reduceBEq,reduceCtorEq,lenB_nil,lenB_slice,lenB_oslice,lenB_str,lenB_agg,indexAddrA_slice,indexAddrA_oslice,indexAddrA_ptr,indexAddrA_optr,loadA_ptr,loadA_optr,lenK,indexK,loadK,Int.reduceBEq,Int.reduceBNe,Int.reduceMod,Int.reduceDiv,Int.reduceTDiv,Int.reduceTMod,Int.reduceFDiv,Int.reduceSub,Int.reduceNeg,Int.reduceGT,Int.reduceGE,BitVec.reduceOfInt,BitVec.reduceAnd,BitVec.reduceOr,BitVec.reduceXOr,BitVec.reduceToNat,Int.reduceToNat,Int.reducePow,Int.reduceMul,hT.all]

theorem pCut0 (M : Addr → Option AV) (H : Heap) {a d : List UInt8} (h : (112 : UInt8) ∉ a) (h0 : a ≠ []) (hl : (a ++ 112 :: d).length < 1000000) : SemF Tryz.prog M 95 [.str (a ++ 112 :: d), .str [112]] H fun v h => v = .tup [.str a, .str d, .bool true] ∧ h = H := by
  refine fpure rfl rfl (fq Tryz.func95 (by kernel_rfl) rfl (by kernel_rfl) fun C L T hT hS => ?_) H
  have hb := pIdx1 M [] (d := d) h h0
  have t1 : ∀ H, sliceA T H 9 (.str (a ++ 112 :: d)) none (some (.int .i64 (a.length : Int))) none = some (.str a) := fun H => by
    rw [strTo hT (by simp), List.take_left]
  have t2 : ∀ H, sliceA T H 9 (.str (a ++ 112 :: d)) (some (.int .i64 ((a.length + 1 : Nat) : Int))) none none = some (.str d) := fun H => by
    rw [strFrom hT (by simp)]
    congr 2
    simp [List.drop_append]
  have hal : a.length < 1000000 := by rw [List.length_append] at hl; omega
  have i1 : IntKind.i64.wrap ((a.length : Int) + 1) = ((a.length + 1 : Nat) : Int) := by rw [wrap_i64 (by omega) (by omega)]; omega
  have b1 : decide ((a.length : Int) ≥ 0) = true := decide_eq_true (by omega)
  have b2 : (0 ≤ (a.length : Int)) := by omega
  obtain ⟨s, hs⟩ : ∃ s, s = a ++ 112 :: d := ⟨_, rfl⟩
  rw [← hs] at hb t1 t2 ⊢
  simp only [gX,gT,gM,gL,gB,wantedA,evOp,opv,absC,absC0,isAggT,resA,resultA,binA,eqA,eqGuardA,isConstA,isFlatScalar,shiftOp,strOp,ordB,readN,sliceCells,lenA,storeA,newA,buildA,fillA,buildSliceA,boundsA,bndA,sliceA,ptrOK,fieldAddrA,fieldA,indexA,extractA,convA,isIntT,biA,bytesOf,setAll,List.replicate,Nat.reduceAdd,Nat.reduceSub,Nat.reduceMul,Nat.reduceLT,Nat.reduceLeDiff,Nat.reduceEqDiff,Int.reduceEq,Int.reduceLT,Int.reduceLE,Int.reduceNe,Int.reduceAdd,Nat.reduceBEq,reduceCtorEq,lenB_nil,lenB_slice,lenB_oslice,lenB_str,lenB_agg,indexAddrA_slice,indexAddrA_oslice,indexAddrA_ptr,indexAddrA_optr,loadA_ptr,loadA_optr,lenK,indexK,loadK,Int.reduceBEq,Int.reduceBNe,Int.reduceMod,Int.reduceDiv,Int.reduceTDiv,Int.reduceTMod,Int.reduceFDiv,Int.reduceSub,Int.reduceNeg,Int.reduceGT,Int.reduceGE,BitVec.reduceOfInt,BitVec.reduceAnd,BitVec.reduceOr,BitVec.reduceXOr,BitVec.reduceToNat,Int.reduceToNat,Int.reducePow,Int.reduceMul,hT.all,Tryz.f95]
  refine hS.one hb ?_
  simp only [gX,gT,gM,gL,gB,wantedA,evOp,opv,absC,absC0,isAggT,resA,resultA,binA,eqA,eqGuardA,isConstA,isFlatScalar,shiftOp,strOp,ordB,readN,sliceCells,lenA,storeA,newA,buildA,fillA,buildSliceA,boundsA,bndA,ptrOK,fieldAddrA,fieldA,indexA,extractA,convA,isIntT,biA,bytesOf,setAll,List.replicate,Nat.reduceAdd,Nat.reduceSub,Nat.reduceMul,Nat.reduceLT,Nat.reduceLeDiff,Nat.reduceEqDiff,Int.reduceEq,Int.reduceLT,Int.reduceLE,Int.reduceNe,Int.reduceAdd,Nat.reduceBEq,reduceCtorEq,lenB_nil,lenB_slice,lenB_oslice,lenB_str,lenB_agg,indexAddrA_slice,indexAddrA_oslice,indexAddrA_ptr,indexAddrA_optr,loadA_ptr,loadA_optr,lenK,indexK,loadK,Int.reduceBEq,Int.reduceBNe,Int.reduceMod,Int.reduceDiv,Int.reduceTDiv,Int.reduceTMod,Int.reduceFDiv,Int.reduceSub,Int.reduceNeg,Int.reduceGT,Int.reduceGE,BitVec.reduceOfInt,BitVec.reduceAnd,BitVec.reduceOr,BitVec.reduceXOr,BitVec.reduceToNat,Int.reduceToNat,Int.reducePow,Int.reduceMul,hT.all,b1,b2,t1,t2,i1]
  try rfl

theorem pCut (M : Addr → Option AV) (H : Heap) {a d : List UInt8} (h : (112 : UInt8) ∉ a) (h0 : a ≠ []) (hl : (a ++ 112 :: d).length < 1000000) : SemF Tryz.prog M 75 [.str (a ++ 112 :: d), .str [112]] H fun v h => v = .tup [.str a, .str d, .bool true] ∧ h = H := by
  refine fpure rfl rfl (fw Tryz.func75 (by kernel_rfl) rfl (by kernel_rfl) fun C L T hT hS => ?_) H
  have hb := pCut0 M [] (d := d) h h0 hl
  obtain ⟨s, hs⟩ : ∃ s, s = a ++ 112 :: d := ⟨_, rfl⟩
  rw [← hs] at hb ⊢
  simp only [gX,gT,gM,gL,gB,wantedA,evOp,opv,absC,absC0,isAggT,resA,resultA,binA,eqA,eqGuardA,isConstA,isFlatScalar,shiftOp,strOp,ordB,readN,sliceCells,lenA,storeA,newA,buildA,fillA,buildSliceA,boundsA,bndA,sliceA,ptrOK,fieldAddrA,fieldA,indexA,extractA,convA,isIntT,biA,bytesOf,setAll,List.replicate,Nat.reduceAdd,Nat.reduceSub,Nat.reduceMul,Nat.reduceLT,Nat.reduceLeDiff,Nat.reduceEqDiff,Int.reduceEq,Int.reduceLT,Int.reduceLE,Int.reduceNe,Int.reduceAdd,Nat.reduceBEq,reduceCtorEq,lenB_nil,lenB_slice,lenB_oslice,lenB_str,lenB_agg,indexAddrA_slice,indexAddrA_oslice,indexAddrA_ptr,indexAddrA_optr,loadA_ptr,loadA_optr,lenK,indexK,loadK,Int.reduceBEq,Int.reduceBNe,Int.reduceMod,Int.reduceDiv,Int.reduceTDiv,Int.reduceTMod,Int.reduceFDiv,Int.reduceSub,Int.reduceNeg,Int.reduceGT,Int.reduceGE,BitVec.reduceOfInt,BitVec.reduceAnd,BitVec.reduceOr,BitVec.reduceXOr,BitVec.reduceToNat,Int.reduceToNat,Int.reducePow,Int.reduceMul,hT.all,Tryz.f75]
  refine hS.one hb ?_
  simp only [gX,gT,gM,gL,gB,wantedA,evOp,opv,absC,absC0,isAggT,resA,resultA,binA,eqA,eqGuardA,isConstA,isFlatScalar,shiftOp,strOp,ordB,readN,sliceCells,lenA,storeA,newA,buildA,fillA,buildSliceA,boundsA,bndA,sliceA,ptrOK,fieldAddrA,fieldA,indexA,extractA,convA,isIntT,biA,bytesOf,setAll,List.replicate,Nat.reduceAdd,Nat.reduceSub,Nat.reduceMul,Nat.reduceLT,Nat.reduceLeDiff,Nat.reduceEqDiff,Int.reduceEq,Int.reduceLT,Int.reduceLE,Int.reduceNe,Int.reduceAdd,Nat.reduceBEq,reduceCtorEq,lenB_nil,lenB_slice,lenB_oslice,lenB_str,lenB_agg,indexAddrA_slice,indexAddrA_oslice,indexAddrA_ptr,indexAddrA_optr,loadA_ptr,loadA_optr,lenK,indexK,loadK,Int.reduceBEq,Int.reduceBNe,Int.reduceMod,Int.reduceDiv,Int.reduceTDiv,Int.reduceTMod,Int.reduceFDiv,Int.reduceSub,Int.reduceNeg,Int.reduceGT,Int.reduceGE,BitVec.reduceOfInt,BitVec.reduceAnd,BitVec.reduceOr,BitVec.reduceXOr,BitVec.reduceToNat,Int.reduceToNat,Int.reducePow,Int.reduceMul,hT.all]
  try rfl

end Go.Proofs.YtpddepehlinfnaaGreatDoor.B
