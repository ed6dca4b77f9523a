/- Part of a claim: a float's parts, sign, half; the law ScalarLooks. -/
import Derived.Test.YtpddepehlinfnaaGreatDoorPS8
import Derived.Test.YtpddepehlinfnaaGreatDoorPS4
set_option linter.unusedSimpArgs false
set_option linter.unusedVariables false
set_option maxRecDepth 100000
set_option maxHeartbeats 10000000
namespace Go.Proofs.YtpddepehlinfnaaGreatDoor.B
open Go Go.RowKit Go.Proofs.YtpddepehlinfnaaGreatDoor.E Go.Proofs.YtpddepehlinfnaaGreatDoor.FL

/-- Has a float its sign's bit set? -/
def sgW (n : Nat) : Bool := !isNaN .f64 n && decide (9223372036854775808 ≤ n)

theorem rSigned (M : Addr → Option AV) (H : Heap) {n : Nat} (h : n < 18446744073709551616) : SemF Tryz.prog M 50 [.float .f64 n] H fun v h => v = .bool (sgW n) ∧ h = H := by
  have hbt := rBits M [] n
  unfold sgW
  cases hn : isNaN .f64 n
  · rw [Bw_num hn] at hbt
    have w1 := sgn n h
    by_cases c : 9223372036854775808 ≤ n
    · rw [if_pos c] at w1
      rw [decide_eq_true c]
      refine fpure rfl rfl (fw Tryz.func50 (by kernel_rfl) rfl (by kernel_rfl) fun C L T hT hS => ?_) H
      simp only [gX,gT,gM,gL,gB,wantedA,evOp,opv,absC,absC0,isAggT,resA,resultA,binA,eqA,eqGuardA,isConstA,isFlatScalar,shiftOp,strOp,ordB,readN,sliceCells,lenA,storeA,newA,buildA,fillA,buildSliceA,boundsA,bndA,sliceA,ptrOK,fieldAddrA,fieldA,indexA,extractA,convA,isIntT,biA,bytesOf,setAll,List.replicate,Nat.reduceAdd,Nat.reduceSub,Nat.reduceMul,Nat.reduceLT,Nat.reduceLeDiff,Nat.reduceEqDiff,Int.reduceEq,Int.reduceLT,Int.reduceLE,Int.reduceNe,Int.reduceAdd,Nat.reduceBEq,reduceCtorEq,lenB_nil,lenB_slice,lenB_oslice,lenB_str,lenB_agg,indexAddrA_slice,indexAddrA_oslice,indexAddrA_ptr,indexAddrA_optr,loadA_ptr,loadA_optr,lenK,indexK,loadK,Int.reduceBEq,Int.reduceBNe,Int.reduceMod,Int.reduceDiv,Int.reduceTDiv,Int.reduceTMod,Int.reduceFDiv,Int.reduceSub,Int.reduceNeg,Int.reduceGT,Int.reduceGE,BitVec.reduceOfInt,BitVec.reduceAnd,BitVec.reduceOr,BitVec.reduceXOr,BitVec.reduceToNat,Int.reduceToNat,Int.reducePow,Int.reduceMul,hT.all,Tryz.f50]
      refine hS.one hbt ?_
      simp only [gX,gT,gM,gL,gB,wantedA,evOp,opv,absC,absC0,isAggT,resA,resultA,binA,eqA,eqGuardA,isConstA,isFlatScalar,shiftOp,strOp,ordB,readN,sliceCells,lenA,storeA,newA,buildA,fillA,buildSliceA,boundsA,bndA,sliceA,ptrOK,fieldAddrA,fieldA,indexA,extractA,convA,isIntT,biA,bytesOf,setAll,List.replicate,Nat.reduceAdd,Nat.reduceSub,Nat.reduceMul,Nat.reduceLT,Nat.reduceLeDiff,Nat.reduceEqDiff,Int.reduceEq,Int.reduceLT,Int.reduceLE,Int.reduceNe,Int.reduceAdd,Nat.reduceBEq,reduceCtorEq,lenB_nil,lenB_slice,lenB_oslice,lenB_str,lenB_agg,indexAddrA_slice,indexAddrA_oslice,indexAddrA_ptr,indexAddrA_optr,loadA_ptr,loadA_optr,lenK,indexK,loadK,Int.reduceBEq,Int.reduceBNe,Int.reduceMod,Int.reduceDiv,Int.reduceTDiv,Int.reduceTMod,Int.reduceFDiv,Int.reduceSub,Int.reduceNeg,Int.reduceGT,Int.reduceGE,BitVec.reduceOfInt,BitVec.reduceAnd,BitVec.reduceOr,BitVec.reduceXOr,BitVec.reduceToNat,Int.reduceToNat,Int.reducePow,Int.reduceMul,hT.all,w1]
      try rfl
    · rw [if_neg c] at w1
      rw [decide_eq_false c]
      refine fpure rfl rfl (fw Tryz.func50 (by kernel_rfl) rfl (by kernel_rfl) fun C L T hT hS => ?_) H
      simp only [gX,gT,gM,gL,gB,wantedA,evOp,opv,absC,absC0,isAggT,resA,resultA,binA,eqA,eqGuardA,isConstA,isFlatScalar,shiftOp,strOp,ordB,readN,sliceCells,lenA,storeA,newA,buildA,fillA,buildSliceA,boundsA,bndA,sliceA,ptrOK,fieldAddrA,fieldA,indexA,extractA,convA,isIntT,biA,bytesOf,setAll,List.replicate,Nat.reduceAdd,Nat.reduceSub,Nat.reduceMul,Nat.reduceLT,Nat.reduceLeDiff,Nat.reduceEqDiff,Int.reduceEq,Int.reduceLT,Int.reduceLE,Int.reduceNe,Int.reduceAdd,Nat.reduceBEq,reduceCtorEq,lenB_nil,lenB_slice,lenB_oslice,lenB_str,lenB_agg,indexAddrA_slice,indexAddrA_oslice,indexAddrA_ptr,indexAddrA_optr,loadA_ptr,loadA_optr,lenK,indexK,loadK,Int.reduceBEq,Int.reduceBNe,Int.reduceMod,Int.reduceDiv,Int.reduceTDiv,Int.reduceTMod,Int.reduceFDiv,Int.reduceSub,Int.reduceNeg,Int.reduceGT,Int.reduceGE,BitVec.reduceOfInt,BitVec.reduceAnd,BitVec.reduceOr,BitVec.reduceXOr,BitVec.reduceToNat,Int.reduceToNat,Int.reducePow,Int.reduceMul,hT.all,Tryz.f50]
      refine hS.one hbt ?_
      simp only [gX,gT,gM,gL,gB,wantedA,evOp,opv,absC,absC0,isAggT,resA,resultA,binA,eqA,eqGuardA,isConstA,isFlatScalar,shiftOp,strOp,ordB,readN,sliceCells,lenA,storeA,newA,buildA,fillA,buildSliceA,boundsA,bndA,sliceA,ptrOK,fieldAddrA,fieldA,indexA,extractA,convA,isIntT,biA,bytesOf,setAll,List.replicate,Nat.reduceAdd,Nat.reduceSub,Nat.reduceMul,Nat.reduceLT,Nat.reduceLeDiff,Nat.reduceEqDiff,Int.reduceEq,Int.reduceLT,Int.reduceLE,Int.reduceNe,Int.reduceAdd,Nat.reduceBEq,reduceCtorEq,lenB_nil,lenB_slice,lenB_oslice,lenB_str,lenB_agg,indexAddrA_slice,indexAddrA_oslice,indexAddrA_ptr,indexAddrA_optr,loadA_ptr,loadA_optr,lenK,indexK,loadK,Int.reduceBEq,Int.reduceBNe,Int.reduceMod,Int.reduceDiv,Int.reduceTDiv,Int.reduceTMod,Int.reduceFDiv,Int.reduceSub,Int.reduceNeg,Int.reduceGT,Int.reduceGE,BitVec.reduceOfInt,BitVec.reduceAnd,BitVec.reduceOr,BitVec.reduceXOr,BitVec.reduceToNat,Int.reduceToNat,Int.reducePow,Int.reduceMul,hT.all,w1]
      try rfl
  · rw [Bw_nan hn] at hbt
    have w2 : IntKind.u64.wrap 0 = 0 := by decide
    refine fpure rfl rfl (fw Tryz.func50 (by kernel_rfl) rfl (by kernel_rfl) fun C L T hT hS => ?_) H
    simp only [gX,gT,gM,gL,gB,wantedA,evOp,opv,absC,absC0,isAggT,resA,resultA,binA,eqA,eqGuardA,isConstA,isFlatScalar,shiftOp,strOp,ordB,readN,sliceCells,lenA,storeA,newA,buildA,fillA,buildSliceA,boundsA,bndA,sliceA,ptrOK,fieldAddrA,fieldA,indexA,extractA,convA,isIntT,biA,bytesOf,setAll,List.replicate,Nat.reduceAdd,Nat.reduceSub,Nat.reduceMul,Nat.reduceLT,Nat.reduceLeDiff,Nat.reduceEqDiff,Int.reduceEq,Int.reduceLT,Int.reduceLE,Int.reduceNe,Int.reduceAdd,Nat.reduceBEq,reduceCtorEq,lenB_nil,lenB_slice,lenB_oslice,lenB_str,lenB_agg,indexAddrA_slice,indexAddrA_oslice,indexAddrA_ptr,indexAddrA_optr,loadA_ptr,loadA_optr,lenK,indexK,loadK,Int.reduceBEq,Int.reduceBNe,Int.reduceMod,Int.reduceDiv,Int.reduceTDiv,Int.reduceTMod,Int.reduceFDiv,Int.reduceSub,Int.reduceNeg,Int.reduceGT,Int.reduceGE,BitVec.reduceOfInt,BitVec.reduceAnd,BitVec.reduceOr,BitVec.reduceXOr,BitVec.reduceToNat,Int.reduceToNat,Int.reducePow,Int.reduceMul,hT.all,Tryz.f50]
    refine hS.one hbt ?_
    simp only [gX,gT,gM,gL,gB,wantedA,evOp,opv,absC,absC0,isAggT,resA,resultA,binA,eqA,eqGuardA,isConstA,isFlatScalar,shiftOp,strOp,ordB,readN,sliceCells,lenA,storeA,newA,buildA,fillA,buildSliceA,boundsA,bndA,sliceA,ptrOK,fieldAddrA,fieldA,indexA,extractA,convA,isIntT,biA,bytesOf,setAll,List.replicate,Nat.reduceAdd,Nat.reduceSub,Nat.reduceMul,Nat.reduceLT,Nat.reduceLeDiff,Nat.reduceEqDiff,Int.reduceEq,Int.reduceLT,Int.reduceLE,Int.reduceNe,Int.reduceAdd,Nat.reduceBEq,reduceCtorEq,lenB_nil,lenB_slice,lenB_oslice,lenB_str,lenB_agg,indexAddrA_slice,indexAddrA_oslice,indexAddrA_ptr,indexAddrA_optr,loadA_ptr,loadA_optr,lenK,indexK,loadK,Int.reduceBEq,Int.reduceBNe,Int.reduceMod,Int.reduceDiv,Int.reduceTDiv,Int.reduceTMod,Int.reduceFDiv,Int.reduceSub,Int.reduceNeg,Int.reduceGT,Int.reduceGE,BitVec.reduceOfInt,BitVec.reduceAnd,BitVec.reduceOr,BitVec.reduceXOr,BitVec.reduceToNat,Int.reduceToNat,Int.reducePow,Int.reduceMul,hT.all,w2]
    try rfl

theorem eql_dec {T : Tab} {t : TypeId} {x y : Operand} {b : Nat} : binA T .eql t x y (.float .f64 b) (.float .f64 b) = some (.bool (!isNaN .f64 b)) := by
  cases h : isNaN .f64 b
  · simp only [binA, fArith, order_self h, ordB, if_true, Option.map_some]
    rfl
  · simp only [binA, fArith, order_nan_l h, ordB, if_true, Option.map_some]
    rfl

theorem pSignbit (M : Addr → Option AV) (H : Heap) {n : Nat} (h : n < 18446744073709551616) (hn : isNaN .f64 n = false) : SemF Tryz.prog M 84 [.float .f64 n] H fun v h => v = .bool (decide (9223372036854775808 ≤ n)) ∧ h = H := by
  by_cases c : 9223372036854775808 ≤ n
  · have w1 : IntKind.i64.wrap (n : Int) = n - 18446744073709551616 := by rw [wI]; omega
    have c1 : (n : Int) - 18446744073709551616 < 0 := by omega
    rw [decide_eq_true c]
    refine fpure rfl rfl (fw Tryz.func84 (by kernel_rfl) rfl (by kernel_rfl) fun C L T hT hS => ?_) H
    simp only [gX,gT,gM,gL,gB,wantedA,evOp,opv,absC,absC0,isAggT,resA,resultA,binA,eqA,eqGuardA,isConstA,isFlatScalar,shiftOp,strOp,ordB,readN,sliceCells,lenA,storeA,newA,buildA,fillA,buildSliceA,boundsA,bndA,sliceA,ptrOK,fieldAddrA,fieldA,indexA,extractA,convA,isIntT,biA,bytesOf,setAll,List.replicate,Nat.reduceAdd,Nat.reduceSub,Nat.reduceMul,Nat.reduceLT,Nat.reduceLeDiff,Nat.reduceEqDiff,Int.reduceEq,Int.reduceLT,Int.reduceLE,Int.reduceNe,Int.reduceAdd,Nat.reduceBEq,reduceCtorEq,lenB_nil,lenB_slice,lenB_oslice,lenB_str,lenB_agg,indexAddrA_slice,indexAddrA_oslice,indexAddrA_ptr,indexAddrA_optr,loadA_ptr,loadA_optr,lenK,indexK,loadK,Int.reduceBEq,Int.reduceBNe,Int.reduceMod,Int.reduceDiv,Int.reduceTDiv,Int.reduceTMod,Int.reduceFDiv,Int.reduceSub,Int.reduceNeg,Int.reduceGT,Int.reduceGE,BitVec.reduceOfInt,BitVec.reduceAnd,BitVec.reduceOr,BitVec.reduceXOr,BitVec.reduceToNat,Int.reduceToNat,Int.reducePow,Int.reduceMul,hT.all,Tryz.f84]
    refine hS.one (pBits M _ hn) ?_
    simp only [gX,gT,gM,gL,gB,wantedA,evOp,opv,absC,absC0,isAggT,resA,resultA,binA,eqA,eqGuardA,isConstA,isFlatScalar,shiftOp,strOp,ordB,readN,sliceCells,lenA,storeA,newA,buildA,fillA,buildSliceA,boundsA,bndA,sliceA,ptrOK,fieldAddrA,fieldA,indexA,extractA,convA,isIntT,biA,bytesOf,setAll,List.replicate,Nat.reduceAdd,Nat.reduceSub,Nat.reduceMul,Nat.reduceLT,Nat.reduceLeDiff,Nat.reduceEqDiff,Int.reduceEq,Int.reduceLT,Int.reduceLE,Int.reduceNe,Int.reduceAdd,Nat.reduceBEq,reduceCtorEq,lenB_nil,lenB_slice,lenB_oslice,lenB_str,lenB_agg,indexAddrA_slice,indexAddrA_oslice,indexAddrA_ptr,indexAddrA_optr,loadA_ptr,loadA_optr,lenK,indexK,loadK,Int.reduceBEq,Int.reduceBNe,Int.reduceMod,Int.reduceDiv,Int.reduceTDiv,Int.reduceTMod,Int.reduceFDiv,Int.reduceSub,Int.reduceNeg,Int.reduceGT,Int.reduceGE,BitVec.reduceOfInt,BitVec.reduceAnd,BitVec.reduceOr,BitVec.reduceXOr,BitVec.reduceToNat,Int.reduceToNat,Int.reducePow,Int.reduceMul,hT.all,w1,c1]
    try rfl
  · have w1 : IntKind.i64.wrap (n : Int) = n := by rw [wI]; omega
    have c1 : ¬ (n : Int) < 0 := by omega
    rw [decide_eq_false c]
    refine fpure rfl rfl (fw Tryz.func84 (by kernel_rfl) rfl (by kernel_rfl) fun C L T hT hS => ?_) H
    simp only [gX,gT,gM,gL,gB,wantedA,evOp,opv,absC,absC0,isAggT,resA,resultA,binA,eqA,eqGuardA,isConstA,isFlatScalar,shiftOp,strOp,ordB,readN,sliceCells,lenA,storeA,newA,buildA,fillA,buildSliceA,boundsA,bndA,sliceA,ptrOK,fieldAddrA,fieldA,indexA,extractA,convA,isIntT,biA,bytesOf,setAll,List.replicate,Nat.reduceAdd,Nat.reduceSub,Nat.reduceMul,Nat.reduceLT,Nat.reduceLeDiff,Nat.reduceEqDiff,Int.reduceEq,Int.reduceLT,Int.reduceLE,Int.reduceNe,Int.reduceAdd,Nat.reduceBEq,reduceCtorEq,lenB_nil,lenB_slice,lenB_oslice,lenB_str,lenB_agg,indexAddrA_slice,indexAddrA_oslice,indexAddrA_ptr,indexAddrA_optr,loadA_ptr,loadA_optr,lenK,indexK,loadK,Int.reduceBEq,Int.reduceBNe,Int.reduceMod,Int.reduceDiv,Int.reduceTDiv,Int.reduceTMod,Int.reduceFDiv,Int.reduceSub,Int.reduceNeg,Int.reduceGT,Int.reduceGE,BitVec.reduceOfInt,BitVec.reduceAnd,BitVec.reduceOr,BitVec.reduceXOr,BitVec.reduceToNat,Int.reduceToNat,Int.reducePow,Int.reduceMul,hT.all,Tryz.f84]
    refine hS.one (pBits M _ hn) ?_
    simp only [gX,gT,gM,gL,gB,wantedA,evOp,opv,absC,absC0,isAggT,resA,resultA,binA,eqA,eqGuardA,isConstA,isFlatScalar,shiftOp,strOp,ordB,readN,sliceCells,lenA,storeA,newA,buildA,fillA,buildSliceA,boundsA,bndA,sliceA,ptrOK,fieldAddrA,fieldA,indexA,extractA,convA,isIntT,biA,bytesOf,setAll,List.replicate,Nat.reduceAdd,Nat.reduceSub,Nat.reduceMul,Nat.reduceLT,Nat.reduceLeDiff,Nat.reduceEqDiff,Int.reduceEq,Int.reduceLT,Int.reduceLE,Int.reduceNe,Int.reduceAdd,Nat.reduceBEq,reduceCtorEq,lenB_nil,lenB_slice,lenB_oslice,lenB_str,lenB_agg,indexAddrA_slice,indexAddrA_oslice,indexAddrA_ptr,indexAddrA_optr,loadA_ptr,loadA_optr,lenK,indexK,loadK,Int.reduceBEq,Int.reduceBNe,Int.reduceMod,Int.reduceDiv,Int.reduceTDiv,Int.reduceTMod,Int.reduceFDiv,Int.reduceSub,Int.reduceNeg,Int.reduceGT,Int.reduceGE,BitVec.reduceOfInt,BitVec.reduceAnd,BitVec.reduceOr,BitVec.reduceXOr,BitVec.reduceToNat,Int.reduceToNat,Int.reducePow,Int.reduceMul,hT.all,w1,c1]
    try rfl

theorem sSigned (M : Addr → Option AV) (H : Heap) {n : Nat} (h : n < 18446744073709551616) : SemF Tryz.prog M 49 [.float .f64 n] H fun v h => v = .bool (sgW n) ∧ h = H := by
  unfold sgW
  cases hn : isNaN .f64 n
  · refine fpure rfl rfl (fw Tryz.func49 (by kernel_rfl) rfl (by kernel_rfl) fun C L T hT hS => ?_) H
    simp only [gX,gT,gM,gL,gB,wantedA,evOp,opv,absC,absC0,isAggT,resA,resultA,eqA,eqGuardA,isConstA,isFlatScalar,shiftOp,strOp,ordB,readN,sliceCells,lenA,storeA,newA,buildA,fillA,buildSliceA,boundsA,bndA,sliceA,ptrOK,fieldAddrA,fieldA,indexA,extractA,convA,isIntT,biA,bytesOf,setAll,List.replicate,Nat.reduceAdd,Nat.reduceSub,Nat.reduceMul,Nat.reduceLT,Nat.reduceLeDiff,Nat.reduceEqDiff,Int.reduceEq,Int.reduceLT,Int.reduceLE,Int.reduceNe,Int.reduceAdd,Nat.reduceBEq,reduceCtorEq,lenB_nil,lenB_slice,lenB_oslice,lenB_str,lenB_agg,indexAddrA_slice,indexAddrA_oslice,indexAddrA_ptr,indexAddrA_optr,loadA_ptr,loadA_optr,lenK,indexK,loadK,Int.reduceBEq,Int.reduceBNe,Int.reduceMod,Int.reduceDiv,Int.reduceTDiv,Int.reduceTMod,Int.reduceFDiv,Int.reduceSub,Int.reduceNeg,Int.reduceGT,Int.reduceGE,BitVec.reduceOfInt,BitVec.reduceAnd,BitVec.reduceOr,BitVec.reduceXOr,BitVec.reduceToNat,Int.reduceToNat,Int.reducePow,Int.reduceMul,hT.all,Tryz.f49,eql_dec,hn]
    refine hS.one (pSignbit M _ h hn) ?_
    simp only [gX,gT,gM,gL,gB,wantedA,evOp,opv,absC,absC0,isAggT,resA,resultA,binA,eqA,eqGuardA,isConstA,isFlatScalar,shiftOp,strOp,ordB,readN,sliceCells,lenA,storeA,newA,buildA,fillA,buildSliceA,boundsA,bndA,sliceA,ptrOK,fieldAddrA,fieldA,indexA,extractA,convA,isIntT,biA,bytesOf,setAll,List.replicate,Nat.reduceAdd,Nat.reduceSub,Nat.reduceMul,Nat.reduceLT,Nat.reduceLeDiff,Nat.reduceEqDiff,Int.reduceEq,Int.reduceLT,Int.reduceLE,Int.reduceNe,Int.reduceAdd,Nat.reduceBEq,reduceCtorEq,lenB_nil,lenB_slice,lenB_oslice,lenB_str,lenB_agg,indexAddrA_slice,indexAddrA_oslice,indexAddrA_ptr,indexAddrA_optr,loadA_ptr,loadA_optr,lenK,indexK,loadK,Int.reduceBEq,Int.reduceBNe,Int.reduceMod,Int.reduceDiv,Int.reduceTDiv,Int.reduceTMod,Int.reduceFDiv,Int.reduceSub,Int.reduceNeg,Int.reduceGT,Int.reduceGE,BitVec.reduceOfInt,BitVec.reduceAnd,BitVec.reduceOr,BitVec.reduceXOr,BitVec.reduceToNat,Int.reduceToNat,Int.reducePow,Int.reduceMul,hT.all]
    try rfl
  · refine fpure rfl rfl (fw Tryz.func49 (by kernel_rfl) rfl (by kernel_rfl) fun C L T hT hS => ?_) H
    simp only [gX,gT,gM,gL,gB,wantedA,evOp,opv,absC,absC0,isAggT,resA,resultA,eqA,eqGuardA,isConstA,isFlatScalar,shiftOp,strOp,ordB,readN,sliceCells,lenA,storeA,newA,buildA,fillA,buildSliceA,boundsA,bndA,sliceA,ptrOK,fieldAddrA,fieldA,indexA,extractA,convA,isIntT,biA,bytesOf,setAll,List.replicate,Nat.reduceAdd,Nat.reduceSub,Nat.reduceMul,Nat.reduceLT,Nat.reduceLeDiff,Nat.reduceEqDiff,Int.reduceEq,Int.reduceLT,Int.reduceLE,Int.reduceNe,Int.reduceAdd,Nat.reduceBEq,reduceCtorEq,lenB_nil,lenB_slice,lenB_oslice,lenB_str,lenB_agg,indexAddrA_slice,indexAddrA_oslice,indexAddrA_ptr,indexAddrA_optr,loadA_ptr,loadA_optr,lenK,indexK,loadK,Int.reduceBEq,Int.reduceBNe,Int.reduceMod,Int.reduceDiv,Int.reduceTDiv,Int.reduceTMod,Int.reduceFDiv,Int.reduceSub,Int.reduceNeg,Int.reduceGT,Int.reduceGE,BitVec.reduceOfInt,BitVec.reduceAnd,BitVec.reduceOr,BitVec.reduceXOr,BitVec.reduceToNat,Int.reduceToNat,Int.reducePow,Int.reduceMul,hT.all,Tryz.f49,eql_dec,hn]
    try rfl

/-- A finite float's parts. -/
theorem rParts (M : Addr → Option AV) (H : Heap) {n r : Nat} (h : n < 18446744073709551616) (hr : r = n % 9223372036854775808) (hf : r < 9218868437227405312) :
    SemF Tryz.prog M 64 [.float .f64 n] H fun v h => v = .tup [.int .u64 (magOf r : Nat), .int .i64 (-1074 + (upOf r : Nat))] ∧ h = H := by
  have hn : isNaN .f64 n = false := by rw [isNaN_of, decide_eq_false_iff_not]; omega
  have hbt := rBits M [] n
  rw [Bw_num hn] at hbt
  have w1 := clr n
  rw [← hr] at w1
  have w2 := shr52 (b := r)
  have w3 : IntKind.i64.wrap ((r / 4503599627370496 : Nat) : Int) = (r / 4503599627370496 : Nat) := wrap_i64 (by omega) (by omega)
  have w4 := low52 (n := r) (by omega)
  have w5 := or52 (n := r % 4503599627370496) (by omega)
  obtain ⟨q, hq⟩ : ∃ q, q = r / 4503599627370496 := ⟨_, rfl⟩
  obtain ⟨f, hf2⟩ : ∃ f, f = r % 4503599627370496 := ⟨_, rfl⟩
  rw [← hq] at w2 w3
  rw [← hf2] at w4 w5
  by_cases c : q = 0
  · have c1 : ((q : Int) == 0) = true := by rw [beq_iff_eq]; omega
    obtain ⟨e1, e2⟩ := mag_small (r := r) (by omega)
    rw [e1, e2, show r = f by omega]
    refine fpure rfl rfl (fw Tryz.func64 (by kernel_rfl) rfl (by kernel_rfl) fun C L T hT hS => ?_) H
    simp only [gX,gT,gM,gL,gB,wantedA,evOp,opv,absC,absC0,isAggT,resA,resultA,binA,eqA,eqGuardA,isConstA,isFlatScalar,shiftOp,strOp,ordB,readN,sliceCells,lenA,storeA,newA,buildA,fillA,buildSliceA,boundsA,bndA,sliceA,ptrOK,fieldAddrA,fieldA,indexA,extractA,convA,isIntT,biA,bytesOf,setAll,List.replicate,Nat.reduceAdd,Nat.reduceSub,Nat.reduceMul,Nat.reduceLT,Nat.reduceLeDiff,Nat.reduceEqDiff,Int.reduceEq,Int.reduceLT,Int.reduceLE,Int.reduceNe,Int.reduceAdd,Nat.reduceBEq,reduceCtorEq,lenB_nil,lenB_slice,lenB_oslice,lenB_str,lenB_agg,indexAddrA_slice,indexAddrA_oslice,indexAddrA_ptr,indexAddrA_optr,loadA_ptr,loadA_optr,lenK,indexK,loadK,Int.reduceBEq,Int.reduceBNe,Int.reduceMod,Int.reduceDiv,Int.reduceTDiv,Int.reduceTMod,Int.reduceFDiv,Int.reduceSub,Int.reduceNeg,Int.reduceGT,Int.reduceGE,BitVec.reduceOfInt,BitVec.reduceAnd,BitVec.reduceOr,BitVec.reduceXOr,BitVec.reduceToNat,Int.reduceToNat,Int.reducePow,Int.reduceMul,hT.all,Tryz.f64]
    refine hS.one hbt ?_
    rw [show r = f by omega] at w1 w2 w4
    simp only [gX,gT,gM,gL,gB,wantedA,evOp,opv,absC,absC0,isAggT,resA,resultA,binA,eqA,eqGuardA,isConstA,isFlatScalar,strOp,ordB,readN,sliceCells,lenA,storeA,newA,buildA,fillA,buildSliceA,boundsA,bndA,sliceA,ptrOK,fieldAddrA,fieldA,indexA,extractA,convA,isIntT,biA,bytesOf,setAll,List.replicate,Nat.reduceAdd,Nat.reduceSub,Nat.reduceMul,Nat.reduceLT,Nat.reduceLeDiff,Nat.reduceEqDiff,Int.reduceEq,Int.reduceLT,Int.reduceLE,Int.reduceNe,Int.reduceAdd,Nat.reduceBEq,reduceCtorEq,lenB_nil,lenB_slice,lenB_oslice,lenB_str,lenB_agg,indexAddrA_slice,indexAddrA_oslice,indexAddrA_ptr,indexAddrA_optr,loadA_ptr,loadA_optr,lenK,indexK,loadK,Int.reduceBEq,Int.reduceBNe,Int.reduceMod,Int.reduceDiv,Int.reduceTDiv,Int.reduceTMod,Int.reduceFDiv,Int.reduceSub,Int.reduceNeg,Int.reduceGT,Int.reduceGE,BitVec.reduceOfInt,BitVec.reduceAnd,BitVec.reduceOr,BitVec.reduceXOr,BitVec.reduceToNat,Int.reduceToNat,Int.reducePow,Int.reduceMul,hT.all,w1,w2,w3,w4,c1]
    try rfl
  · have c1 : ((q : Int) == 0) = false := by rw [beq_eq_false_iff_ne]; omega
    have w6 : IntKind.i64.wrap ((q : Int) - 1075) = -1074 + (upOf r : Nat) := by
      unfold upOf
      rw [wrap_i64 (by omega) (by omega), if_neg (by omega)]
      omega
    have e1 : magOf r = 4503599627370496 + f := by
      unfold magOf
      rw [if_neg (by omega), ← hf2]
    rw [e1]
    refine fpure rfl rfl (fw Tryz.func64 (by kernel_rfl) rfl (by kernel_rfl) fun C L T hT hS => ?_) H
    simp only [gX,gT,gM,gL,gB,wantedA,evOp,opv,absC,absC0,isAggT,resA,resultA,binA,eqA,eqGuardA,isConstA,isFlatScalar,shiftOp,strOp,ordB,readN,sliceCells,lenA,storeA,newA,buildA,fillA,buildSliceA,boundsA,bndA,sliceA,ptrOK,fieldAddrA,fieldA,indexA,extractA,convA,isIntT,biA,bytesOf,setAll,List.replicate,Nat.reduceAdd,Nat.reduceSub,Nat.reduceMul,Nat.reduceLT,Nat.reduceLeDiff,Nat.reduceEqDiff,Int.reduceEq,Int.reduceLT,Int.reduceLE,Int.reduceNe,Int.reduceAdd,Nat.reduceBEq,reduceCtorEq,lenB_nil,lenB_slice,lenB_oslice,lenB_str,lenB_agg,indexAddrA_slice,indexAddrA_oslice,indexAddrA_ptr,indexAddrA_optr,loadA_ptr,loadA_optr,lenK,indexK,loadK,Int.reduceBEq,Int.reduceBNe,Int.reduceMod,Int.reduceDiv,Int.reduceTDiv,Int.reduceTMod,Int.reduceFDiv,Int.reduceSub,Int.reduceNeg,Int.reduceGT,Int.reduceGE,BitVec.reduceOfInt,BitVec.reduceAnd,BitVec.reduceOr,BitVec.reduceXOr,BitVec.reduceToNat,Int.reduceToNat,Int.reducePow,Int.reduceMul,hT.all,Tryz.f64]
    refine hS.one hbt ?_
    simp only [gX,gT,gM,gL,gB,wantedA,evOp,opv,absC,absC0,isAggT,resA,resultA,binA,eqA,eqGuardA,isConstA,isFlatScalar,strOp,ordB,readN,sliceCells,lenA,storeA,newA,buildA,fillA,buildSliceA,boundsA,bndA,sliceA,ptrOK,fieldAddrA,fieldA,indexA,extractA,convA,isIntT,biA,bytesOf,setAll,List.replicate,Nat.reduceAdd,Nat.reduceSub,Nat.reduceMul,Nat.reduceLT,Nat.reduceLeDiff,Nat.reduceEqDiff,Int.reduceEq,Int.reduceLT,Int.reduceLE,Int.reduceNe,Int.reduceAdd,Nat.reduceBEq,reduceCtorEq,lenB_nil,lenB_slice,lenB_oslice,lenB_str,lenB_agg,indexAddrA_slice,indexAddrA_oslice,indexAddrA_ptr,indexAddrA_optr,loadA_ptr,loadA_optr,lenK,indexK,loadK,Int.reduceBEq,Int.reduceBNe,Int.reduceMod,Int.reduceDiv,Int.reduceTDiv,Int.reduceTMod,Int.reduceFDiv,Int.reduceSub,Int.reduceNeg,Int.reduceGT,Int.reduceGE,BitVec.reduceOfInt,BitVec.reduceAnd,BitVec.reduceOr,BitVec.reduceXOr,BitVec.reduceToNat,Int.reduceToNat,Int.reducePow,Int.reduceMul,hT.all,w1,w2,w3,w4,w5,w6,c1]
    try rfl

end Go.Proofs.YtpddepehlinfnaaGreatDoor.B
