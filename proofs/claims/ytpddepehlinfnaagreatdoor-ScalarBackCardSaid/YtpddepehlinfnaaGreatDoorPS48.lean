/- Part of a claim: the law ScalarBack. -/
import Derived.Test.YtpddepehlinfnaaGreatDoorPS46
import Derived.Test.YtpddepehlinfnaaGreatDoorPS47
set_option linter.unusedSimpArgs false
set_option linter.unusedVariables false
set_option maxRecDepth 100000
set_option maxHeartbeats 10000000
namespace Go.Proofs.YtpddepehlinfnaaGreatDoor.B
open Go Go.RowKit Go.Proofs.YtpddepehlinfnaaGreatDoor.E Go.Proofs.YtpddepehlinfnaaGreatDoor.FL

theorem sameB {a b : Nat} (h : Bw a = Bw b) : sameW a b = true := by unfold sameW; rw [h]; exact beq_self_eq_true _
theorem Bw_Bw (b : Nat) : Bw (Bw b) = Bw b := by
  cases hn : isNaN .f64 b
  · rw [Bw_num hn, Bw_num hn]
  · rw [Bw_nan hn]; rfl

/-- What Parse answers to what Print writes: the same float, or some NaN. -/
theorem sParse {M : Addr → Option AV} (hM : ∀ a v, tabM a = some v → M a = some v) (hp : Pow M) {n : Nat} (h : n < 18446744073709551616) {s : List UInt8} (hs : Prt n s) :
    ∃ y, Bw y = Bw n ∧ ∀ H, SemF Tryz.prog M 42 [.str s] H fun v _ => v = .tup [.float .f64 y, .int .i64 0] := by
  have hs' := hs
  rcases hs with ⟨q1, q2⟩ | ⟨q1, q2⟩ | ⟨q1, q2⟩ | ⟨q1, q2, _⟩
  · rw [q2]
    exact ⟨_, by rw [Bw_nan q1]; rfl, fun H => closedP hM run_nan H⟩
  · rw [q2]
    by_cases c : 9223372036854775808 ≤ n
    · rw [if_pos c]
      obtain rfl : n = 18442240474082181120 := by omega
      exact ⟨_, rfl, fun H => closedP hM run_minf H⟩
    · rw [if_neg c]
      obtain rfl : n = 9218868437227405312 := by omega
      exact ⟨_, rfl, fun H => closedP hM run_inf H⟩
  · rw [q2]
    by_cases c : 9223372036854775808 ≤ n
    · rw [if_pos c]
      obtain rfl : n = 9223372036854775808 := by omega
      exact ⟨_, rfl, fun H => closedP hM run_mzero H⟩
    · rw [if_neg c]
      obtain rfl : n = 0 := by omega
      exact ⟨_, rfl, fun H => closedP hM run_zero H⟩
  · exact ⟨n, rfl, fun H => sParseX hM hp H h hs' q1 q2⟩

theorem lawBack (M : Addr → Option AV) (hM : ∀ a v, tabM a = some v → M a = some v) (hp : Pow M) {b : Nat} (hb : b < 18446744073709551616) :
    SemF Tryz.prog M 13 [.int .u64 b] [] fun v _ => v = .bool true := by
  obtain ⟨s, hs⟩ := prt_ex hb
  obtain ⟨y, hy, hP⟩ := sParse hM hp hb hs
  have s1 : sameW b y = true := sameB hy.symm
  have s2 : sameW (Bw b) b = true := sameB (Bw_Bw b)
  have hcl := sClass M [] hb
  by_cases c : b % 9223372036854775808 < 9218868437227405312
  rotate_left
  · have hsp := sSplitN M [] hb (by omega)
    have hc : (clsW b == 1) = true ∨ ((clsW b == 1) = false ∧ (clsW b == 2) = true) := by
      unfold clsW
      cases hn : isNaN .f64 b
      · right
        rw [isNaN_of, decide_eq_false_iff_not] at hn
        rw [if_neg (by decide), if_pos (by omega)]
        exact ⟨rfl, rfl⟩
      · left; rfl
    obtain ⟨k, hk⟩ : ∃ k, k = clsW b := ⟨_, rfl⟩
    rw [← hk] at hcl hc
    refine fw Tryz.func13 (by kernel_rfl) rfl (by kernel_rfl) fun C L T hT hS => ?_
    simp only [gX,gT,gM,gL,gB,wantedA,evOp,opv,absC,absC0,isAggT,resA,resultA,binA,eqA,eqGuardA,isConstA,isFlatScalar,shiftOp,strOp,ordB,readN,sliceCells,lenA,storeA,newA,buildA,fillA,buildSliceA,boundsA,bndA,sliceA,ptrOK,fieldAddrA,fieldA,indexA,extractA,convA,isIntT,biA,bytesOf,setAll,List.replicate,Nat.reduceAdd,Nat.reduceSub,Nat.reduceMul,Nat.reduceLT,Nat.reduceLeDiff,Nat.reduceEqDiff,Int.reduceEq,Int.reduceLT,Int.reduceLE,Int.reduceNe,Int.reduceAdd,Nat.reduceBEq,reduceCtorEq,lenB_nil,lenB_slice,lenB_oslice,lenB_str,lenB_agg,indexAddrA_slice,indexAddrA_oslice,indexAddrA_ptr,indexAddrA_optr,loadA_ptr,loadA_optr,lenK,indexK,loadK,Int.reduceBEq,Int.reduceBNe,Int.reduceMod,Int.reduceDiv,Int.reduceTDiv,Int.reduceTMod,Int.reduceFDiv,Int.reduceSub,Int.reduceNeg,Int.reduceGT,Int.reduceGE,BitVec.reduceOfInt,BitVec.reduceAnd,BitVec.reduceOr,BitVec.reduceXOr,BitVec.reduceToNat,Int.reduceToNat,Int.reducePow,Int.reduceMul,hT.all,Tryz.f13]
    refine hS.one (sOf M _ b) ?_
    simp only [gX,gT,gM,gL,gB,wantedA,evOp,opv,absC,absC0,isAggT,resA,resultA,binA,eqA,eqGuardA,isConstA,isFlatScalar,shiftOp,strOp,ordB,readN,sliceCells,lenA,storeA,newA,buildA,fillA,buildSliceA,boundsA,bndA,sliceA,ptrOK,fieldAddrA,fieldA,indexA,extractA,convA,isIntT,biA,bytesOf,setAll,List.replicate,Nat.reduceAdd,Nat.reduceSub,Nat.reduceMul,Nat.reduceLT,Nat.reduceLeDiff,Nat.reduceEqDiff,Int.reduceEq,Int.reduceLT,Int.reduceLE,Int.reduceNe,Int.reduceAdd,Nat.reduceBEq,reduceCtorEq,lenB_nil,lenB_slice,lenB_oslice,lenB_str,lenB_agg,indexAddrA_slice,indexAddrA_oslice,indexAddrA_ptr,indexAddrA_optr,loadA_ptr,loadA_optr,lenK,indexK,loadK,Int.reduceBEq,Int.reduceBNe,Int.reduceMod,Int.reduceDiv,Int.reduceTDiv,Int.reduceTMod,Int.reduceFDiv,Int.reduceSub,Int.reduceNeg,Int.reduceGT,Int.reduceGE,BitVec.reduceOfInt,BitVec.reduceAnd,BitVec.reduceOr,BitVec.reduceXOr,BitVec.reduceToNat,Int.reduceToNat,Int.reducePow,Int.reduceMul,hT.all]
    refine hS.one hsp ?_
    simp only [gX,gT,gM,gL,gB,wantedA,evOp,opv,absC,absC0,isAggT,resA,resultA,binA,eqA,eqGuardA,isConstA,isFlatScalar,shiftOp,strOp,ordB,readN,sliceCells,lenA,storeA,newA,buildA,fillA,buildSliceA,boundsA,bndA,sliceA,ptrOK,fieldAddrA,fieldA,indexA,extractA,convA,isIntT,biA,bytesOf,setAll,List.replicate,Nat.reduceAdd,Nat.reduceSub,Nat.reduceMul,Nat.reduceLT,Nat.reduceLeDiff,Nat.reduceEqDiff,Int.reduceEq,Int.reduceLT,Int.reduceLE,Int.reduceNe,Int.reduceAdd,Nat.reduceBEq,reduceCtorEq,lenB_nil,lenB_slice,lenB_oslice,lenB_str,lenB_agg,indexAddrA_slice,indexAddrA_oslice,indexAddrA_ptr,indexAddrA_optr,loadA_ptr,loadA_optr,lenK,indexK,loadK,Int.reduceBEq,Int.reduceBNe,Int.reduceMod,Int.reduceDiv,Int.reduceTDiv,Int.reduceTMod,Int.reduceFDiv,Int.reduceSub,Int.reduceNeg,Int.reduceGT,Int.reduceGE,BitVec.reduceOfInt,BitVec.reduceAnd,BitVec.reduceOr,BitVec.reduceXOr,BitVec.reduceToNat,Int.reduceToNat,Int.reducePow,Int.reduceMul,hT.all]
    refine hS.call (sPrint hp _ hb hs) ?_
    rintro v h rfl
    simp only [gX,gT,gM,gL,gB,wantedA,evOp,opv,absC,absC0,isAggT,resA,resultA,binA,eqA,eqGuardA,isConstA,isFlatScalar,shiftOp,strOp,ordB,readN,sliceCells,lenA,storeA,newA,buildA,fillA,buildSliceA,boundsA,bndA,sliceA,ptrOK,fieldAddrA,fieldA,indexA,extractA,convA,isIntT,biA,bytesOf,setAll,List.replicate,Nat.reduceAdd,Nat.reduceSub,Nat.reduceMul,Nat.reduceLT,Nat.reduceLeDiff,Nat.reduceEqDiff,Int.reduceEq,Int.reduceLT,Int.reduceLE,Int.reduceNe,Int.reduceAdd,Nat.reduceBEq,reduceCtorEq,lenB_nil,lenB_slice,lenB_oslice,lenB_str,lenB_agg,indexAddrA_slice,indexAddrA_oslice,indexAddrA_ptr,indexAddrA_optr,loadA_ptr,loadA_optr,lenK,indexK,loadK,Int.reduceBEq,Int.reduceBNe,Int.reduceMod,Int.reduceDiv,Int.reduceTDiv,Int.reduceTMod,Int.reduceFDiv,Int.reduceSub,Int.reduceNeg,Int.reduceGT,Int.reduceGE,BitVec.reduceOfInt,BitVec.reduceAnd,BitVec.reduceOr,BitVec.reduceXOr,BitVec.reduceToNat,Int.reduceToNat,Int.reducePow,Int.reduceMul,hT.all]
    refine hS.call (hP _) ?_
    rintro v h' rfl
    simp only [gX,gT,gM,gL,gB,wantedA,evOp,opv,absC,absC0,isAggT,resA,resultA,binA,eqA,eqGuardA,isConstA,isFlatScalar,shiftOp,strOp,ordB,readN,sliceCells,lenA,storeA,newA,buildA,fillA,buildSliceA,boundsA,bndA,sliceA,ptrOK,fieldAddrA,fieldA,indexA,extractA,convA,isIntT,biA,bytesOf,setAll,List.replicate,Nat.reduceAdd,Nat.reduceSub,Nat.reduceMul,Nat.reduceLT,Nat.reduceLeDiff,Nat.reduceEqDiff,Int.reduceEq,Int.reduceLT,Int.reduceLE,Int.reduceNe,Int.reduceAdd,Nat.reduceBEq,reduceCtorEq,lenB_nil,lenB_slice,lenB_oslice,lenB_str,lenB_agg,indexAddrA_slice,indexAddrA_oslice,indexAddrA_ptr,indexAddrA_optr,loadA_ptr,loadA_optr,lenK,indexK,loadK,Int.reduceBEq,Int.reduceBNe,Int.reduceMod,Int.reduceDiv,Int.reduceTDiv,Int.reduceTMod,Int.reduceFDiv,Int.reduceSub,Int.reduceNeg,Int.reduceGT,Int.reduceGE,BitVec.reduceOfInt,BitVec.reduceAnd,BitVec.reduceOr,BitVec.reduceXOr,BitVec.reduceToNat,Int.reduceToNat,Int.reducePow,Int.reduceMul,hT.all]
    refine hS.one (lNum M _ 0) ?_
    simp only [gX,gT,gM,gL,gB,wantedA,evOp,opv,absC,absC0,isAggT,resA,resultA,binA,eqA,eqGuardA,isConstA,isFlatScalar,shiftOp,strOp,ordB,readN,sliceCells,lenA,storeA,newA,buildA,fillA,buildSliceA,boundsA,bndA,sliceA,ptrOK,fieldAddrA,fieldA,indexA,extractA,convA,isIntT,biA,bytesOf,setAll,List.replicate,Nat.reduceAdd,Nat.reduceSub,Nat.reduceMul,Nat.reduceLT,Nat.reduceLeDiff,Nat.reduceEqDiff,Int.reduceEq,Int.reduceLT,Int.reduceLE,Int.reduceNe,Int.reduceAdd,Nat.reduceBEq,reduceCtorEq,lenB_nil,lenB_slice,lenB_oslice,lenB_str,lenB_agg,indexAddrA_slice,indexAddrA_oslice,indexAddrA_ptr,indexAddrA_optr,loadA_ptr,loadA_optr,lenK,indexK,loadK,Int.reduceBEq,Int.reduceBNe,Int.reduceMod,Int.reduceDiv,Int.reduceTDiv,Int.reduceTMod,Int.reduceFDiv,Int.reduceSub,Int.reduceNeg,Int.reduceGT,Int.reduceGE,BitVec.reduceOfInt,BitVec.reduceAnd,BitVec.reduceOr,BitVec.reduceXOr,BitVec.reduceToNat,Int.reduceToNat,Int.reducePow,Int.reduceMul,hT.all]
    refine hS.one (sSame M _ b y) ?_
    simp only [gX,gT,gM,gL,gB,wantedA,evOp,opv,absC,absC0,isAggT,resA,resultA,binA,eqA,eqGuardA,isConstA,isFlatScalar,shiftOp,strOp,ordB,readN,sliceCells,lenA,storeA,newA,buildA,fillA,buildSliceA,boundsA,bndA,sliceA,ptrOK,fieldAddrA,fieldA,indexA,extractA,convA,isIntT,biA,bytesOf,setAll,List.replicate,Nat.reduceAdd,Nat.reduceSub,Nat.reduceMul,Nat.reduceLT,Nat.reduceLeDiff,Nat.reduceEqDiff,Int.reduceEq,Int.reduceLT,Int.reduceLE,Int.reduceNe,Int.reduceAdd,Nat.reduceBEq,reduceCtorEq,lenB_nil,lenB_slice,lenB_oslice,lenB_str,lenB_agg,indexAddrA_slice,indexAddrA_oslice,indexAddrA_ptr,indexAddrA_optr,loadA_ptr,loadA_optr,lenK,indexK,loadK,Int.reduceBEq,Int.reduceBNe,Int.reduceMod,Int.reduceDiv,Int.reduceTDiv,Int.reduceTMod,Int.reduceFDiv,Int.reduceSub,Int.reduceNeg,Int.reduceGT,Int.reduceGE,BitVec.reduceOfInt,BitVec.reduceAnd,BitVec.reduceOr,BitVec.reduceXOr,BitVec.reduceToNat,Int.reduceToNat,Int.reducePow,Int.reduceMul,hT.all,s1]
    refine hS.one (sBits M _ b) ?_
    simp only [gX,gT,gM,gL,gB,wantedA,evOp,opv,absC,absC0,isAggT,resA,resultA,binA,eqA,eqGuardA,isConstA,isFlatScalar,shiftOp,strOp,ordB,readN,sliceCells,lenA,storeA,newA,buildA,fillA,buildSliceA,boundsA,bndA,sliceA,ptrOK,fieldAddrA,fieldA,indexA,extractA,convA,isIntT,biA,bytesOf,setAll,List.replicate,Nat.reduceAdd,Nat.reduceSub,Nat.reduceMul,Nat.reduceLT,Nat.reduceLeDiff,Nat.reduceEqDiff,Int.reduceEq,Int.reduceLT,Int.reduceLE,Int.reduceNe,Int.reduceAdd,Nat.reduceBEq,reduceCtorEq,lenB_nil,lenB_slice,lenB_oslice,lenB_str,lenB_agg,indexAddrA_slice,indexAddrA_oslice,indexAddrA_ptr,indexAddrA_optr,loadA_ptr,loadA_optr,lenK,indexK,loadK,Int.reduceBEq,Int.reduceBNe,Int.reduceMod,Int.reduceDiv,Int.reduceTDiv,Int.reduceTMod,Int.reduceFDiv,Int.reduceSub,Int.reduceNeg,Int.reduceGT,Int.reduceGE,BitVec.reduceOfInt,BitVec.reduceAnd,BitVec.reduceOr,BitVec.reduceXOr,BitVec.reduceToNat,Int.reduceToNat,Int.reducePow,Int.reduceMul,hT.all]
    refine hS.one (sOf M _ _) ?_
    simp only [gX,gT,gM,gL,gB,wantedA,evOp,opv,absC,absC0,isAggT,resA,resultA,binA,eqA,eqGuardA,isConstA,isFlatScalar,shiftOp,strOp,ordB,readN,sliceCells,lenA,storeA,newA,buildA,fillA,buildSliceA,boundsA,bndA,sliceA,ptrOK,fieldAddrA,fieldA,indexA,extractA,convA,isIntT,biA,bytesOf,setAll,List.replicate,Nat.reduceAdd,Nat.reduceSub,Nat.reduceMul,Nat.reduceLT,Nat.reduceLeDiff,Nat.reduceEqDiff,Int.reduceEq,Int.reduceLT,Int.reduceLE,Int.reduceNe,Int.reduceAdd,Nat.reduceBEq,reduceCtorEq,lenB_nil,lenB_slice,lenB_oslice,lenB_str,lenB_agg,indexAddrA_slice,indexAddrA_oslice,indexAddrA_ptr,indexAddrA_optr,loadA_ptr,loadA_optr,lenK,indexK,loadK,Int.reduceBEq,Int.reduceBNe,Int.reduceMod,Int.reduceDiv,Int.reduceTDiv,Int.reduceTMod,Int.reduceFDiv,Int.reduceSub,Int.reduceNeg,Int.reduceGT,Int.reduceGE,BitVec.reduceOfInt,BitVec.reduceAnd,BitVec.reduceOr,BitVec.reduceXOr,BitVec.reduceToNat,Int.reduceToNat,Int.reducePow,Int.reduceMul,hT.all]
    refine hS.one (sSame M _ _ b) ?_
    simp only [gX,gT,gM,gL,gB,wantedA,evOp,opv,absC,absC0,isAggT,resA,resultA,binA,eqA,eqGuardA,isConstA,isFlatScalar,shiftOp,strOp,ordB,readN,sliceCells,lenA,storeA,newA,buildA,fillA,buildSliceA,boundsA,bndA,sliceA,ptrOK,fieldAddrA,fieldA,indexA,extractA,convA,isIntT,biA,bytesOf,setAll,List.replicate,Nat.reduceAdd,Nat.reduceSub,Nat.reduceMul,Nat.reduceLT,Nat.reduceLeDiff,Nat.reduceEqDiff,Int.reduceEq,Int.reduceLT,Int.reduceLE,Int.reduceNe,Int.reduceAdd,Nat.reduceBEq,reduceCtorEq,lenB_nil,lenB_slice,lenB_oslice,lenB_str,lenB_agg,indexAddrA_slice,indexAddrA_oslice,indexAddrA_ptr,indexAddrA_optr,loadA_ptr,loadA_optr,lenK,indexK,loadK,Int.reduceBEq,Int.reduceBNe,Int.reduceMod,Int.reduceDiv,Int.reduceTDiv,Int.reduceTMod,Int.reduceFDiv,Int.reduceSub,Int.reduceNeg,Int.reduceGT,Int.reduceGE,BitVec.reduceOfInt,BitVec.reduceAnd,BitVec.reduceOr,BitVec.reduceXOr,BitVec.reduceToNat,Int.reduceToNat,Int.reducePow,Int.reduceMul,hT.all,s2]
    refine hS.one (sClass M _ hb) ?_
    rw [← hk]
    rcases hc with h1 | ⟨h1, h2⟩
    · simp only [gX,gT,gM,gL,gB,wantedA,evOp,opv,absC,absC0,isAggT,resA,resultA,binA,eqA,eqGuardA,isConstA,isFlatScalar,shiftOp,strOp,ordB,readN,sliceCells,lenA,storeA,newA,buildA,fillA,buildSliceA,boundsA,bndA,sliceA,ptrOK,fieldAddrA,fieldA,indexA,extractA,convA,isIntT,biA,bytesOf,setAll,List.replicate,Nat.reduceAdd,Nat.reduceSub,Nat.reduceMul,Nat.reduceLT,Nat.reduceLeDiff,Nat.reduceEqDiff,Int.reduceEq,Int.reduceLT,Int.reduceLE,Int.reduceNe,Int.reduceAdd,Nat.reduceBEq,reduceCtorEq,lenB_nil,lenB_slice,lenB_oslice,lenB_str,lenB_agg,indexAddrA_slice,indexAddrA_oslice,indexAddrA_ptr,indexAddrA_optr,loadA_ptr,loadA_optr,lenK,indexK,loadK,Int.reduceBEq,Int.reduceBNe,Int.reduceMod,Int.reduceDiv,Int.reduceTDiv,Int.reduceTMod,Int.reduceFDiv,Int.reduceSub,Int.reduceNeg,Int.reduceGT,Int.reduceGE,BitVec.reduceOfInt,BitVec.reduceAnd,BitVec.reduceOr,BitVec.reduceXOr,BitVec.reduceToNat,Int.reduceToNat,Int.reducePow,Int.reduceMul,hT.all,h1]
      refine hS.one (lNum M _ 20) ?_
      simp only [gX,gT,gM,gL,gB,wantedA,evOp,opv,absC,absC0,isAggT,resA,resultA,binA,eqA,eqGuardA,isConstA,isFlatScalar,shiftOp,strOp,ordB,readN,sliceCells,lenA,storeA,newA,buildA,fillA,buildSliceA,boundsA,bndA,sliceA,ptrOK,fieldAddrA,fieldA,indexA,extractA,convA,isIntT,biA,bytesOf,setAll,List.replicate,Nat.reduceAdd,Nat.reduceSub,Nat.reduceMul,Nat.reduceLT,Nat.reduceLeDiff,Nat.reduceEqDiff,Int.reduceEq,Int.reduceLT,Int.reduceLE,Int.reduceNe,Int.reduceAdd,Nat.reduceBEq,reduceCtorEq,lenB_nil,lenB_slice,lenB_oslice,lenB_str,lenB_agg,indexAddrA_slice,indexAddrA_oslice,indexAddrA_ptr,indexAddrA_optr,loadA_ptr,loadA_optr,lenK,indexK,loadK,Int.reduceBEq,Int.reduceBNe,Int.reduceMod,Int.reduceDiv,Int.reduceTDiv,Int.reduceTMod,Int.reduceFDiv,Int.reduceSub,Int.reduceNeg,Int.reduceGT,Int.reduceGE,BitVec.reduceOfInt,BitVec.reduceAnd,BitVec.reduceOr,BitVec.reduceXOr,BitVec.reduceToNat,Int.reduceToNat,Int.reducePow,Int.reduceMul,hT.all]
      refine hS.one (alive M hM _) ?_
      simp only [gX,gT,gM,gL,gB,wantedA,evOp,opv,absC,absC0,isAggT,resA,resultA,binA,eqA,eqGuardA,isConstA,isFlatScalar,shiftOp,strOp,ordB,readN,sliceCells,lenA,storeA,newA,buildA,fillA,buildSliceA,boundsA,bndA,sliceA,ptrOK,fieldAddrA,fieldA,indexA,extractA,convA,isIntT,biA,bytesOf,setAll,List.replicate,Nat.reduceAdd,Nat.reduceSub,Nat.reduceMul,Nat.reduceLT,Nat.reduceLeDiff,Nat.reduceEqDiff,Int.reduceEq,Int.reduceLT,Int.reduceLE,Int.reduceNe,Int.reduceAdd,Nat.reduceBEq,reduceCtorEq,lenB_nil,lenB_slice,lenB_oslice,lenB_str,lenB_agg,indexAddrA_slice,indexAddrA_oslice,indexAddrA_ptr,indexAddrA_optr,loadA_ptr,loadA_optr,lenK,indexK,loadK,Int.reduceBEq,Int.reduceBNe,Int.reduceMod,Int.reduceDiv,Int.reduceTDiv,Int.reduceTMod,Int.reduceFDiv,Int.reduceSub,Int.reduceNeg,Int.reduceGT,Int.reduceGE,BitVec.reduceOfInt,BitVec.reduceAnd,BitVec.reduceOr,BitVec.reduceXOr,BitVec.reduceToNat,Int.reduceToNat,Int.reducePow,Int.reduceMul,hT.all]
    · simp only [gX,gT,gM,gL,gB,wantedA,evOp,opv,absC,absC0,isAggT,resA,resultA,binA,eqA,eqGuardA,isConstA,isFlatScalar,shiftOp,strOp,ordB,readN,sliceCells,lenA,storeA,newA,buildA,fillA,buildSliceA,boundsA,bndA,sliceA,ptrOK,fieldAddrA,fieldA,indexA,extractA,convA,isIntT,biA,bytesOf,setAll,List.replicate,Nat.reduceAdd,Nat.reduceSub,Nat.reduceMul,Nat.reduceLT,Nat.reduceLeDiff,Nat.reduceEqDiff,Int.reduceEq,Int.reduceLT,Int.reduceLE,Int.reduceNe,Int.reduceAdd,Nat.reduceBEq,reduceCtorEq,lenB_nil,lenB_slice,lenB_oslice,lenB_str,lenB_agg,indexAddrA_slice,indexAddrA_oslice,indexAddrA_ptr,indexAddrA_optr,loadA_ptr,loadA_optr,lenK,indexK,loadK,Int.reduceBEq,Int.reduceBNe,Int.reduceMod,Int.reduceDiv,Int.reduceTDiv,Int.reduceTMod,Int.reduceFDiv,Int.reduceSub,Int.reduceNeg,Int.reduceGT,Int.reduceGE,BitVec.reduceOfInt,BitVec.reduceAnd,BitVec.reduceOr,BitVec.reduceXOr,BitVec.reduceToNat,Int.reduceToNat,Int.reducePow,Int.reduceMul,hT.all,h1,h2]
      refine hS.one (lNum M _ 20) ?_
      simp only [gX,gT,gM,gL,gB,wantedA,evOp,opv,absC,absC0,isAggT,resA,resultA,binA,eqA,eqGuardA,isConstA,isFlatScalar,shiftOp,strOp,ordB,readN,sliceCells,lenA,storeA,newA,buildA,fillA,buildSliceA,boundsA,bndA,sliceA,ptrOK,fieldAddrA,fieldA,indexA,extractA,convA,isIntT,biA,bytesOf,setAll,List.replicate,Nat.reduceAdd,Nat.reduceSub,Nat.reduceMul,Nat.reduceLT,Nat.reduceLeDiff,Nat.reduceEqDiff,Int.reduceEq,Int.reduceLT,Int.reduceLE,Int.reduceNe,Int.reduceAdd,Nat.reduceBEq,reduceCtorEq,lenB_nil,lenB_slice,lenB_oslice,lenB_str,lenB_agg,indexAddrA_slice,indexAddrA_oslice,indexAddrA_ptr,indexAddrA_optr,loadA_ptr,loadA_optr,lenK,indexK,loadK,Int.reduceBEq,Int.reduceBNe,Int.reduceMod,Int.reduceDiv,Int.reduceTDiv,Int.reduceTMod,Int.reduceFDiv,Int.reduceSub,Int.reduceNeg,Int.reduceGT,Int.reduceGE,BitVec.reduceOfInt,BitVec.reduceAnd,BitVec.reduceOr,BitVec.reduceXOr,BitVec.reduceToNat,Int.reduceToNat,Int.reducePow,Int.reduceMul,hT.all]
      refine hS.one (alive M hM _) ?_
      simp only [gX,gT,gM,gL,gB,wantedA,evOp,opv,absC,absC0,isAggT,resA,resultA,binA,eqA,eqGuardA,isConstA,isFlatScalar,shiftOp,strOp,ordB,readN,sliceCells,lenA,storeA,newA,buildA,fillA,buildSliceA,boundsA,bndA,sliceA,ptrOK,fieldAddrA,fieldA,indexA,extractA,convA,isIntT,biA,bytesOf,setAll,List.replicate,Nat.reduceAdd,Nat.reduceSub,Nat.reduceMul,Nat.reduceLT,Nat.reduceLeDiff,Nat.reduceEqDiff,Int.reduceEq,Int.reduceLT,Int.reduceLE,Int.reduceNe,Int.reduceAdd,Nat.reduceBEq,reduceCtorEq,lenB_nil,lenB_slice,lenB_oslice,lenB_str,lenB_agg,indexAddrA_slice,indexAddrA_oslice,indexAddrA_ptr,indexAddrA_optr,loadA_ptr,loadA_optr,lenK,indexK,loadK,Int.reduceBEq,Int.reduceBNe,Int.reduceMod,Int.reduceDiv,Int.reduceTDiv,Int.reduceTMod,Int.reduceFDiv,Int.reduceSub,Int.reduceNeg,Int.reduceGT,Int.reduceGE,BitVec.reduceOfInt,BitVec.reduceAnd,BitVec.reduceOr,BitVec.reduceXOr,BitVec.reduceToNat,Int.reduceToNat,Int.reducePow,Int.reduceMul,hT.all]
  have hnn : isNaN .f64 b = false := by rw [isNaN_of, decide_eq_false_iff_not]; omega
  have hsp := sSplit M hM [] (word_of b (by omega)) c
  unfold splitV at hsp
  have hkk : (clsW b == 1) = false ∧ (clsW b == 2) = false ∧ (b % 9223372036854775808 = 0 → clsW b = 3) := by
    unfold clsW
    rw [hnn, if_neg (by decide), if_neg (by omega)]
    by_cases z : b % 9223372036854775808 = 0
    · rw [if_pos z]; exact ⟨rfl, rfl, fun _ => rfl⟩
    · rw [if_neg z]
      refine ⟨?_, ?_, fun h => absurd h z⟩ <;> (split <;> rfl)
  obtain ⟨k, hk⟩ : ∃ k, k = clsW b := ⟨_, rfl⟩
  rw [← hk] at hkk
  obtain ⟨k1, k2, k3⟩ := hkk
  have hpb := fun H => sPlus M H hb
  rw [hnn, if_neg (by decide)] at hpb
  obtain ⟨pb, hpbE⟩ : ∃ pb, pb = plusW b := ⟨_, rfl⟩
  rw [← hpbE] at hpb
  have ep : sameW pb pb = true := sameW_self pb
  have core : ∀ (m e : Int) (j : Nat), SemF Tryz.prog M 33 [.float .f64 b] [] (fun v h => v = .tup [.int .i64 m, .int .i64 e, .int .i64 0] ∧ h = []) → (∀ H, SemF Tryz.prog M 36 [.int .i64 m, .int .i64 e] H fun v h => v = .float .f64 j ∧ h = H) →
      (∀ H, SemF Tryz.prog M 19 [.float .f64 j] H fun v h => v = .float .f64 pb ∧ h = H) → (((m.tmod 2 != 0) = true) ∨ ((m.tmod 2 != 0) = false ∧ (m == 0) = true ∧ (e == 0) = true ∧ (k == 3) = true)) →
      SemF Tryz.prog M 13 [.int .u64 b] [] fun v _ => v = .bool true := by
    intro m e j g1 g2 g3 g4
    refine fw Tryz.func13 (by kernel_rfl) rfl (by kernel_rfl) fun C L T hT hS => ?_
    simp only [gX,gT,gM,gL,gB,wantedA,evOp,opv,absC,absC0,isAggT,resA,resultA,binA,eqA,eqGuardA,isConstA,isFlatScalar,shiftOp,strOp,ordB,readN,sliceCells,lenA,storeA,newA,buildA,fillA,buildSliceA,boundsA,bndA,sliceA,ptrOK,fieldAddrA,fieldA,indexA,extractA,convA,isIntT,biA,bytesOf,setAll,List.replicate,Nat.reduceAdd,Nat.reduceSub,Nat.reduceMul,Nat.reduceLT,Nat.reduceLeDiff,Nat.reduceEqDiff,Int.reduceEq,Int.reduceLT,Int.reduceLE,Int.reduceNe,Int.reduceAdd,Nat.reduceBEq,reduceCtorEq,lenB_nil,lenB_slice,lenB_oslice,lenB_str,lenB_agg,indexAddrA_slice,indexAddrA_oslice,indexAddrA_ptr,indexAddrA_optr,loadA_ptr,loadA_optr,lenK,indexK,loadK,Int.reduceBEq,Int.reduceBNe,Int.reduceMod,Int.reduceDiv,Int.reduceTDiv,Int.reduceTMod,Int.reduceFDiv,Int.reduceSub,Int.reduceNeg,Int.reduceGT,Int.reduceGE,BitVec.reduceOfInt,BitVec.reduceAnd,BitVec.reduceOr,BitVec.reduceXOr,BitVec.reduceToNat,Int.reduceToNat,Int.reducePow,Int.reduceMul,hT.all,Tryz.f13]
    refine hS.one (sOf M _ b) ?_
    simp only [gX,gT,gM,gL,gB,wantedA,evOp,opv,absC,absC0,isAggT,resA,resultA,binA,eqA,eqGuardA,isConstA,isFlatScalar,shiftOp,strOp,ordB,readN,sliceCells,lenA,storeA,newA,buildA,fillA,buildSliceA,boundsA,bndA,sliceA,ptrOK,fieldAddrA,fieldA,indexA,extractA,convA,isIntT,biA,bytesOf,setAll,List.replicate,Nat.reduceAdd,Nat.reduceSub,Nat.reduceMul,Nat.reduceLT,Nat.reduceLeDiff,Nat.reduceEqDiff,Int.reduceEq,Int.reduceLT,Int.reduceLE,Int.reduceNe,Int.reduceAdd,Nat.reduceBEq,reduceCtorEq,lenB_nil,lenB_slice,lenB_oslice,lenB_str,lenB_agg,indexAddrA_slice,indexAddrA_oslice,indexAddrA_ptr,indexAddrA_optr,loadA_ptr,loadA_optr,lenK,indexK,loadK,Int.reduceBEq,Int.reduceBNe,Int.reduceMod,Int.reduceDiv,Int.reduceTDiv,Int.reduceTMod,Int.reduceFDiv,Int.reduceSub,Int.reduceNeg,Int.reduceGT,Int.reduceGE,BitVec.reduceOfInt,BitVec.reduceAnd,BitVec.reduceOr,BitVec.reduceXOr,BitVec.reduceToNat,Int.reduceToNat,Int.reducePow,Int.reduceMul,hT.all]
    refine hS.one g1 ?_
    simp only [gX,gT,gM,gL,gB,wantedA,evOp,opv,absC,absC0,isAggT,resA,resultA,binA,eqA,eqGuardA,isConstA,isFlatScalar,shiftOp,strOp,ordB,readN,sliceCells,lenA,storeA,newA,buildA,fillA,buildSliceA,boundsA,bndA,sliceA,ptrOK,fieldAddrA,fieldA,indexA,extractA,convA,isIntT,biA,bytesOf,setAll,List.replicate,Nat.reduceAdd,Nat.reduceSub,Nat.reduceMul,Nat.reduceLT,Nat.reduceLeDiff,Nat.reduceEqDiff,Int.reduceEq,Int.reduceLT,Int.reduceLE,Int.reduceNe,Int.reduceAdd,Nat.reduceBEq,reduceCtorEq,lenB_nil,lenB_slice,lenB_oslice,lenB_str,lenB_agg,indexAddrA_slice,indexAddrA_oslice,indexAddrA_ptr,indexAddrA_optr,loadA_ptr,loadA_optr,lenK,indexK,loadK,Int.reduceBEq,Int.reduceBNe,Int.reduceMod,Int.reduceDiv,Int.reduceTDiv,Int.reduceTMod,Int.reduceFDiv,Int.reduceSub,Int.reduceNeg,Int.reduceGT,Int.reduceGE,BitVec.reduceOfInt,BitVec.reduceAnd,BitVec.reduceOr,BitVec.reduceXOr,BitVec.reduceToNat,Int.reduceToNat,Int.reducePow,Int.reduceMul,hT.all]
    refine hS.call (sPrint hp _ hb hs) ?_
    rintro v h rfl
    simp only [gX,gT,gM,gL,gB,wantedA,evOp,opv,absC,absC0,isAggT,resA,resultA,binA,eqA,eqGuardA,isConstA,isFlatScalar,shiftOp,strOp,ordB,readN,sliceCells,lenA,storeA,newA,buildA,fillA,buildSliceA,boundsA,bndA,sliceA,ptrOK,fieldAddrA,fieldA,indexA,extractA,convA,isIntT,biA,bytesOf,setAll,List.replicate,Nat.reduceAdd,Nat.reduceSub,Nat.reduceMul,Nat.reduceLT,Nat.reduceLeDiff,Nat.reduceEqDiff,Int.reduceEq,Int.reduceLT,Int.reduceLE,Int.reduceNe,Int.reduceAdd,Nat.reduceBEq,reduceCtorEq,lenB_nil,lenB_slice,lenB_oslice,lenB_str,lenB_agg,indexAddrA_slice,indexAddrA_oslice,indexAddrA_ptr,indexAddrA_optr,loadA_ptr,loadA_optr,lenK,indexK,loadK,Int.reduceBEq,Int.reduceBNe,Int.reduceMod,Int.reduceDiv,Int.reduceTDiv,Int.reduceTMod,Int.reduceFDiv,Int.reduceSub,Int.reduceNeg,Int.reduceGT,Int.reduceGE,BitVec.reduceOfInt,BitVec.reduceAnd,BitVec.reduceOr,BitVec.reduceXOr,BitVec.reduceToNat,Int.reduceToNat,Int.reducePow,Int.reduceMul,hT.all]
    refine hS.call (hP _) ?_
    rintro v h' rfl
    simp only [gX,gT,gM,gL,gB,wantedA,evOp,opv,absC,absC0,isAggT,resA,resultA,binA,eqA,eqGuardA,isConstA,isFlatScalar,shiftOp,strOp,ordB,readN,sliceCells,lenA,storeA,newA,buildA,fillA,buildSliceA,boundsA,bndA,sliceA,ptrOK,fieldAddrA,fieldA,indexA,extractA,convA,isIntT,biA,bytesOf,setAll,List.replicate,Nat.reduceAdd,Nat.reduceSub,Nat.reduceMul,Nat.reduceLT,Nat.reduceLeDiff,Nat.reduceEqDiff,Int.reduceEq,Int.reduceLT,Int.reduceLE,Int.reduceNe,Int.reduceAdd,Nat.reduceBEq,reduceCtorEq,lenB_nil,lenB_slice,lenB_oslice,lenB_str,lenB_agg,indexAddrA_slice,indexAddrA_oslice,indexAddrA_ptr,indexAddrA_optr,loadA_ptr,loadA_optr,lenK,indexK,loadK,Int.reduceBEq,Int.reduceBNe,Int.reduceMod,Int.reduceDiv,Int.reduceTDiv,Int.reduceTMod,Int.reduceFDiv,Int.reduceSub,Int.reduceNeg,Int.reduceGT,Int.reduceGE,BitVec.reduceOfInt,BitVec.reduceAnd,BitVec.reduceOr,BitVec.reduceXOr,BitVec.reduceToNat,Int.reduceToNat,Int.reducePow,Int.reduceMul,hT.all]
    refine hS.one (lNum M _ 0) ?_
    simp only [gX,gT,gM,gL,gB,wantedA,evOp,opv,absC,absC0,isAggT,resA,resultA,binA,eqA,eqGuardA,isConstA,isFlatScalar,shiftOp,strOp,ordB,readN,sliceCells,lenA,storeA,newA,buildA,fillA,buildSliceA,boundsA,bndA,sliceA,ptrOK,fieldAddrA,fieldA,indexA,extractA,convA,isIntT,biA,bytesOf,setAll,List.replicate,Nat.reduceAdd,Nat.reduceSub,Nat.reduceMul,Nat.reduceLT,Nat.reduceLeDiff,Nat.reduceEqDiff,Int.reduceEq,Int.reduceLT,Int.reduceLE,Int.reduceNe,Int.reduceAdd,Nat.reduceBEq,reduceCtorEq,lenB_nil,lenB_slice,lenB_oslice,lenB_str,lenB_agg,indexAddrA_slice,indexAddrA_oslice,indexAddrA_ptr,indexAddrA_optr,loadA_ptr,loadA_optr,lenK,indexK,loadK,Int.reduceBEq,Int.reduceBNe,Int.reduceMod,Int.reduceDiv,Int.reduceTDiv,Int.reduceTMod,Int.reduceFDiv,Int.reduceSub,Int.reduceNeg,Int.reduceGT,Int.reduceGE,BitVec.reduceOfInt,BitVec.reduceAnd,BitVec.reduceOr,BitVec.reduceXOr,BitVec.reduceToNat,Int.reduceToNat,Int.reducePow,Int.reduceMul,hT.all]
    refine hS.one (sSame M _ b y) ?_
    simp only [gX,gT,gM,gL,gB,wantedA,evOp,opv,absC,absC0,isAggT,resA,resultA,binA,eqA,eqGuardA,isConstA,isFlatScalar,shiftOp,strOp,ordB,readN,sliceCells,lenA,storeA,newA,buildA,fillA,buildSliceA,boundsA,bndA,sliceA,ptrOK,fieldAddrA,fieldA,indexA,extractA,convA,isIntT,biA,bytesOf,setAll,List.replicate,Nat.reduceAdd,Nat.reduceSub,Nat.reduceMul,Nat.reduceLT,Nat.reduceLeDiff,Nat.reduceEqDiff,Int.reduceEq,Int.reduceLT,Int.reduceLE,Int.reduceNe,Int.reduceAdd,Nat.reduceBEq,reduceCtorEq,lenB_nil,lenB_slice,lenB_oslice,lenB_str,lenB_agg,indexAddrA_slice,indexAddrA_oslice,indexAddrA_ptr,indexAddrA_optr,loadA_ptr,loadA_optr,lenK,indexK,loadK,Int.reduceBEq,Int.reduceBNe,Int.reduceMod,Int.reduceDiv,Int.reduceTDiv,Int.reduceTMod,Int.reduceFDiv,Int.reduceSub,Int.reduceNeg,Int.reduceGT,Int.reduceGE,BitVec.reduceOfInt,BitVec.reduceAnd,BitVec.reduceOr,BitVec.reduceXOr,BitVec.reduceToNat,Int.reduceToNat,Int.reducePow,Int.reduceMul,hT.all,s1]
    refine hS.one (sBits M _ b) ?_
    simp only [gX,gT,gM,gL,gB,wantedA,evOp,opv,absC,absC0,isAggT,resA,resultA,binA,eqA,eqGuardA,isConstA,isFlatScalar,shiftOp,strOp,ordB,readN,sliceCells,lenA,storeA,newA,buildA,fillA,buildSliceA,boundsA,bndA,sliceA,ptrOK,fieldAddrA,fieldA,indexA,extractA,convA,isIntT,biA,bytesOf,setAll,List.replicate,Nat.reduceAdd,Nat.reduceSub,Nat.reduceMul,Nat.reduceLT,Nat.reduceLeDiff,Nat.reduceEqDiff,Int.reduceEq,Int.reduceLT,Int.reduceLE,Int.reduceNe,Int.reduceAdd,Nat.reduceBEq,reduceCtorEq,lenB_nil,lenB_slice,lenB_oslice,lenB_str,lenB_agg,indexAddrA_slice,indexAddrA_oslice,indexAddrA_ptr,indexAddrA_optr,loadA_ptr,loadA_optr,lenK,indexK,loadK,Int.reduceBEq,Int.reduceBNe,Int.reduceMod,Int.reduceDiv,Int.reduceTDiv,Int.reduceTMod,Int.reduceFDiv,Int.reduceSub,Int.reduceNeg,Int.reduceGT,Int.reduceGE,BitVec.reduceOfInt,BitVec.reduceAnd,BitVec.reduceOr,BitVec.reduceXOr,BitVec.reduceToNat,Int.reduceToNat,Int.reducePow,Int.reduceMul,hT.all]
    refine hS.one (sOf M _ _) ?_
    simp only [gX,gT,gM,gL,gB,wantedA,evOp,opv,absC,absC0,isAggT,resA,resultA,binA,eqA,eqGuardA,isConstA,isFlatScalar,shiftOp,strOp,ordB,readN,sliceCells,lenA,storeA,newA,buildA,fillA,buildSliceA,boundsA,bndA,sliceA,ptrOK,fieldAddrA,fieldA,indexA,extractA,convA,isIntT,biA,bytesOf,setAll,List.replicate,Nat.reduceAdd,Nat.reduceSub,Nat.reduceMul,Nat.reduceLT,Nat.reduceLeDiff,Nat.reduceEqDiff,Int.reduceEq,Int.reduceLT,Int.reduceLE,Int.reduceNe,Int.reduceAdd,Nat.reduceBEq,reduceCtorEq,lenB_nil,lenB_slice,lenB_oslice,lenB_str,lenB_agg,indexAddrA_slice,indexAddrA_oslice,indexAddrA_ptr,indexAddrA_optr,loadA_ptr,loadA_optr,lenK,indexK,loadK,Int.reduceBEq,Int.reduceBNe,Int.reduceMod,Int.reduceDiv,Int.reduceTDiv,Int.reduceTMod,Int.reduceFDiv,Int.reduceSub,Int.reduceNeg,Int.reduceGT,Int.reduceGE,BitVec.reduceOfInt,BitVec.reduceAnd,BitVec.reduceOr,BitVec.reduceXOr,BitVec.reduceToNat,Int.reduceToNat,Int.reducePow,Int.reduceMul,hT.all]
    refine hS.one (sSame M _ _ b) ?_
    simp only [gX,gT,gM,gL,gB,wantedA,evOp,opv,absC,absC0,isAggT,resA,resultA,binA,eqA,eqGuardA,isConstA,isFlatScalar,shiftOp,strOp,ordB,readN,sliceCells,lenA,storeA,newA,buildA,fillA,buildSliceA,boundsA,bndA,sliceA,ptrOK,fieldAddrA,fieldA,indexA,extractA,convA,isIntT,biA,bytesOf,setAll,List.replicate,Nat.reduceAdd,Nat.reduceSub,Nat.reduceMul,Nat.reduceLT,Nat.reduceLeDiff,Nat.reduceEqDiff,Int.reduceEq,Int.reduceLT,Int.reduceLE,Int.reduceNe,Int.reduceAdd,Nat.reduceBEq,reduceCtorEq,lenB_nil,lenB_slice,lenB_oslice,lenB_str,lenB_agg,indexAddrA_slice,indexAddrA_oslice,indexAddrA_ptr,indexAddrA_optr,loadA_ptr,loadA_optr,lenK,indexK,loadK,Int.reduceBEq,Int.reduceBNe,Int.reduceMod,Int.reduceDiv,Int.reduceTDiv,Int.reduceTMod,Int.reduceFDiv,Int.reduceSub,Int.reduceNeg,Int.reduceGT,Int.reduceGE,BitVec.reduceOfInt,BitVec.reduceAnd,BitVec.reduceOr,BitVec.reduceXOr,BitVec.reduceToNat,Int.reduceToNat,Int.reducePow,Int.reduceMul,hT.all,s2]
    refine hS.one (sClass M _ hb) ?_
    rw [← hk]
    simp only [gX,gT,gM,gL,gB,wantedA,evOp,opv,absC,absC0,isAggT,resA,resultA,binA,eqA,eqGuardA,isConstA,isFlatScalar,shiftOp,strOp,ordB,readN,sliceCells,lenA,storeA,newA,buildA,fillA,buildSliceA,boundsA,bndA,sliceA,ptrOK,fieldAddrA,fieldA,indexA,extractA,convA,isIntT,biA,bytesOf,setAll,List.replicate,Nat.reduceAdd,Nat.reduceSub,Nat.reduceMul,Nat.reduceLT,Nat.reduceLeDiff,Nat.reduceEqDiff,Int.reduceEq,Int.reduceLT,Int.reduceLE,Int.reduceNe,Int.reduceAdd,Nat.reduceBEq,reduceCtorEq,lenB_nil,lenB_slice,lenB_oslice,lenB_str,lenB_agg,indexAddrA_slice,indexAddrA_oslice,indexAddrA_ptr,indexAddrA_optr,loadA_ptr,loadA_optr,lenK,indexK,loadK,Int.reduceBEq,Int.reduceBNe,Int.reduceMod,Int.reduceDiv,Int.reduceTDiv,Int.reduceTMod,Int.reduceFDiv,Int.reduceSub,Int.reduceNeg,Int.reduceGT,Int.reduceGE,BitVec.reduceOfInt,BitVec.reduceAnd,BitVec.reduceOr,BitVec.reduceXOr,BitVec.reduceToNat,Int.reduceToNat,Int.reducePow,Int.reduceMul,hT.all,k1,k2]
    refine hS.one (lNum M _ 0) ?_
    simp only [gX,gT,gM,gL,gB,wantedA,evOp,opv,absC,absC0,isAggT,resA,resultA,binA,eqA,eqGuardA,isConstA,isFlatScalar,shiftOp,strOp,ordB,readN,sliceCells,lenA,storeA,newA,buildA,fillA,buildSliceA,boundsA,bndA,sliceA,ptrOK,fieldAddrA,fieldA,indexA,extractA,convA,isIntT,biA,bytesOf,setAll,List.replicate,Nat.reduceAdd,Nat.reduceSub,Nat.reduceMul,Nat.reduceLT,Nat.reduceLeDiff,Nat.reduceEqDiff,Int.reduceEq,Int.reduceLT,Int.reduceLE,Int.reduceNe,Int.reduceAdd,Nat.reduceBEq,reduceCtorEq,lenB_nil,lenB_slice,lenB_oslice,lenB_str,lenB_agg,indexAddrA_slice,indexAddrA_oslice,indexAddrA_ptr,indexAddrA_optr,loadA_ptr,loadA_optr,lenK,indexK,loadK,Int.reduceBEq,Int.reduceBNe,Int.reduceMod,Int.reduceDiv,Int.reduceTDiv,Int.reduceTMod,Int.reduceFDiv,Int.reduceSub,Int.reduceNeg,Int.reduceGT,Int.reduceGE,BitVec.reduceOfInt,BitVec.reduceAnd,BitVec.reduceOr,BitVec.reduceXOr,BitVec.reduceToNat,Int.reduceToNat,Int.reducePow,Int.reduceMul,hT.all]
    refine hS.one (g2 _) ?_
    simp only [gX,gT,gM,gL,gB,wantedA,evOp,opv,absC,absC0,isAggT,resA,resultA,binA,eqA,eqGuardA,isConstA,isFlatScalar,shiftOp,strOp,ordB,readN,sliceCells,lenA,storeA,newA,buildA,fillA,buildSliceA,boundsA,bndA,sliceA,ptrOK,fieldAddrA,fieldA,indexA,extractA,convA,isIntT,biA,bytesOf,setAll,List.replicate,Nat.reduceAdd,Nat.reduceSub,Nat.reduceMul,Nat.reduceLT,Nat.reduceLeDiff,Nat.reduceEqDiff,Int.reduceEq,Int.reduceLT,Int.reduceLE,Int.reduceNe,Int.reduceAdd,Nat.reduceBEq,reduceCtorEq,lenB_nil,lenB_slice,lenB_oslice,lenB_str,lenB_agg,indexAddrA_slice,indexAddrA_oslice,indexAddrA_ptr,indexAddrA_optr,loadA_ptr,loadA_optr,lenK,indexK,loadK,Int.reduceBEq,Int.reduceBNe,Int.reduceMod,Int.reduceDiv,Int.reduceTDiv,Int.reduceTMod,Int.reduceFDiv,Int.reduceSub,Int.reduceNeg,Int.reduceGT,Int.reduceGE,BitVec.reduceOfInt,BitVec.reduceAnd,BitVec.reduceOr,BitVec.reduceXOr,BitVec.reduceToNat,Int.reduceToNat,Int.reducePow,Int.reduceMul,hT.all]
    refine hS.one (g3 _) ?_
    simp only [gX,gT,gM,gL,gB,wantedA,evOp,opv,absC,absC0,isAggT,resA,resultA,binA,eqA,eqGuardA,isConstA,isFlatScalar,shiftOp,strOp,ordB,readN,sliceCells,lenA,storeA,newA,buildA,fillA,buildSliceA,boundsA,bndA,sliceA,ptrOK,fieldAddrA,fieldA,indexA,extractA,convA,isIntT,biA,bytesOf,setAll,List.replicate,Nat.reduceAdd,Nat.reduceSub,Nat.reduceMul,Nat.reduceLT,Nat.reduceLeDiff,Nat.reduceEqDiff,Int.reduceEq,Int.reduceLT,Int.reduceLE,Int.reduceNe,Int.reduceAdd,Nat.reduceBEq,reduceCtorEq,lenB_nil,lenB_slice,lenB_oslice,lenB_str,lenB_agg,indexAddrA_slice,indexAddrA_oslice,indexAddrA_ptr,indexAddrA_optr,loadA_ptr,loadA_optr,lenK,indexK,loadK,Int.reduceBEq,Int.reduceBNe,Int.reduceMod,Int.reduceDiv,Int.reduceTDiv,Int.reduceTMod,Int.reduceFDiv,Int.reduceSub,Int.reduceNeg,Int.reduceGT,Int.reduceGE,BitVec.reduceOfInt,BitVec.reduceAnd,BitVec.reduceOr,BitVec.reduceXOr,BitVec.reduceToNat,Int.reduceToNat,Int.reducePow,Int.reduceMul,hT.all]
    refine hS.one (hpb _) ?_
    simp only [gX,gT,gM,gL,gB,wantedA,evOp,opv,absC,absC0,isAggT,resA,resultA,binA,eqA,eqGuardA,isConstA,isFlatScalar,shiftOp,strOp,ordB,readN,sliceCells,lenA,storeA,newA,buildA,fillA,buildSliceA,boundsA,bndA,sliceA,ptrOK,fieldAddrA,fieldA,indexA,extractA,convA,isIntT,biA,bytesOf,setAll,List.replicate,Nat.reduceAdd,Nat.reduceSub,Nat.reduceMul,Nat.reduceLT,Nat.reduceLeDiff,Nat.reduceEqDiff,Int.reduceEq,Int.reduceLT,Int.reduceLE,Int.reduceNe,Int.reduceAdd,Nat.reduceBEq,reduceCtorEq,lenB_nil,lenB_slice,lenB_oslice,lenB_str,lenB_agg,indexAddrA_slice,indexAddrA_oslice,indexAddrA_ptr,indexAddrA_optr,loadA_ptr,loadA_optr,lenK,indexK,loadK,Int.reduceBEq,Int.reduceBNe,Int.reduceMod,Int.reduceDiv,Int.reduceTDiv,Int.reduceTMod,Int.reduceFDiv,Int.reduceSub,Int.reduceNeg,Int.reduceGT,Int.reduceGE,BitVec.reduceOfInt,BitVec.reduceAnd,BitVec.reduceOr,BitVec.reduceXOr,BitVec.reduceToNat,Int.reduceToNat,Int.reducePow,Int.reduceMul,hT.all]
    refine hS.one (sSame M _ pb pb) ?_
    rw [ep]
    rcases g4 with g4 | ⟨g4, g5, g6, g7⟩
    · simp only [gX,gT,gM,gL,gB,wantedA,evOp,opv,absC,absC0,isAggT,resA,resultA,binA,eqA,eqGuardA,isConstA,isFlatScalar,shiftOp,strOp,ordB,readN,sliceCells,lenA,storeA,newA,buildA,fillA,buildSliceA,boundsA,bndA,sliceA,ptrOK,fieldAddrA,fieldA,indexA,extractA,convA,isIntT,biA,bytesOf,setAll,List.replicate,Nat.reduceAdd,Nat.reduceSub,Nat.reduceMul,Nat.reduceLT,Nat.reduceLeDiff,Nat.reduceEqDiff,Int.reduceEq,Int.reduceLT,Int.reduceLE,Int.reduceNe,Int.reduceAdd,Nat.reduceBEq,reduceCtorEq,lenB_nil,lenB_slice,lenB_oslice,lenB_str,lenB_agg,indexAddrA_slice,indexAddrA_oslice,indexAddrA_ptr,indexAddrA_optr,loadA_ptr,loadA_optr,lenK,indexK,loadK,Int.reduceBEq,Int.reduceBNe,Int.reduceMod,Int.reduceDiv,Int.reduceTDiv,Int.reduceTMod,Int.reduceFDiv,Int.reduceSub,Int.reduceNeg,Int.reduceGT,Int.reduceGE,BitVec.reduceOfInt,BitVec.reduceAnd,BitVec.reduceOr,BitVec.reduceXOr,BitVec.reduceToNat,Int.reduceToNat,Int.reducePow,Int.reduceMul,hT.all,g4]
      refine hS.one (alive M hM _) ?_
      simp only [gX,gT,gM,gL,gB,wantedA,evOp,opv,absC,absC0,isAggT,resA,resultA,binA,eqA,eqGuardA,isConstA,isFlatScalar,shiftOp,strOp,ordB,readN,sliceCells,lenA,storeA,newA,buildA,fillA,buildSliceA,boundsA,bndA,sliceA,ptrOK,fieldAddrA,fieldA,indexA,extractA,convA,isIntT,biA,bytesOf,setAll,List.replicate,Nat.reduceAdd,Nat.reduceSub,Nat.reduceMul,Nat.reduceLT,Nat.reduceLeDiff,Nat.reduceEqDiff,Int.reduceEq,Int.reduceLT,Int.reduceLE,Int.reduceNe,Int.reduceAdd,Nat.reduceBEq,reduceCtorEq,lenB_nil,lenB_slice,lenB_oslice,lenB_str,lenB_agg,indexAddrA_slice,indexAddrA_oslice,indexAddrA_ptr,indexAddrA_optr,loadA_ptr,loadA_optr,lenK,indexK,loadK,Int.reduceBEq,Int.reduceBNe,Int.reduceMod,Int.reduceDiv,Int.reduceTDiv,Int.reduceTMod,Int.reduceFDiv,Int.reduceSub,Int.reduceNeg,Int.reduceGT,Int.reduceGE,BitVec.reduceOfInt,BitVec.reduceAnd,BitVec.reduceOr,BitVec.reduceXOr,BitVec.reduceToNat,Int.reduceToNat,Int.reducePow,Int.reduceMul,hT.all]
    · simp only [gX,gT,gM,gL,gB,wantedA,evOp,opv,absC,absC0,isAggT,resA,resultA,binA,eqA,eqGuardA,isConstA,isFlatScalar,shiftOp,strOp,ordB,readN,sliceCells,lenA,storeA,newA,buildA,fillA,buildSliceA,boundsA,bndA,sliceA,ptrOK,fieldAddrA,fieldA,indexA,extractA,convA,isIntT,biA,bytesOf,setAll,List.replicate,Nat.reduceAdd,Nat.reduceSub,Nat.reduceMul,Nat.reduceLT,Nat.reduceLeDiff,Nat.reduceEqDiff,Int.reduceEq,Int.reduceLT,Int.reduceLE,Int.reduceNe,Int.reduceAdd,Nat.reduceBEq,reduceCtorEq,lenB_nil,lenB_slice,lenB_oslice,lenB_str,lenB_agg,indexAddrA_slice,indexAddrA_oslice,indexAddrA_ptr,indexAddrA_optr,loadA_ptr,loadA_optr,lenK,indexK,loadK,Int.reduceBEq,Int.reduceBNe,Int.reduceMod,Int.reduceDiv,Int.reduceTDiv,Int.reduceTMod,Int.reduceFDiv,Int.reduceSub,Int.reduceNeg,Int.reduceGT,Int.reduceGE,BitVec.reduceOfInt,BitVec.reduceAnd,BitVec.reduceOr,BitVec.reduceXOr,BitVec.reduceToNat,Int.reduceToNat,Int.reducePow,Int.reduceMul,hT.all,g4,g5,g6,g7]
      refine hS.one (alive M hM _) ?_
      simp only [gX,gT,gM,gL,gB,wantedA,evOp,opv,absC,absC0,isAggT,resA,resultA,binA,eqA,eqGuardA,isConstA,isFlatScalar,shiftOp,strOp,ordB,readN,sliceCells,lenA,storeA,newA,buildA,fillA,buildSliceA,boundsA,bndA,sliceA,ptrOK,fieldAddrA,fieldA,indexA,extractA,convA,isIntT,biA,bytesOf,setAll,List.replicate,Nat.reduceAdd,Nat.reduceSub,Nat.reduceMul,Nat.reduceLT,Nat.reduceLeDiff,Nat.reduceEqDiff,Int.reduceEq,Int.reduceLT,Int.reduceLE,Int.reduceNe,Int.reduceAdd,Nat.reduceBEq,reduceCtorEq,lenB_nil,lenB_slice,lenB_oslice,lenB_str,lenB_agg,indexAddrA_slice,indexAddrA_oslice,indexAddrA_ptr,indexAddrA_optr,loadA_ptr,loadA_optr,lenK,indexK,loadK,Int.reduceBEq,Int.reduceBNe,Int.reduceMod,Int.reduceDiv,Int.reduceTDiv,Int.reduceTMod,Int.reduceFDiv,Int.reduceSub,Int.reduceNeg,Int.reduceGT,Int.reduceGE,BitVec.reduceOfInt,BitVec.reduceAnd,BitVec.reduceOr,BitVec.reduceXOr,BitVec.reduceToNat,Int.reduceToNat,Int.reducePow,Int.reduceMul,hT.all]
  by_cases z : b % 9223372036854775808 = 0
  · rw [if_pos z] at hsp
    have hz : pb = 0 := by
      rw [hpbE]
      unfold plusW
      by_cases q : b = 9223372036854775808
      · rw [if_pos q]
      · rw [if_neg q]; omega
    refine core 0 0 0 hsp (fun H => ?_) (fun H => ?_) (.inr ⟨rfl, rfl, rfl, by rw [k3 z]; rfl⟩)
    · have := sJoin M H (m := 0) (e := 0) ⟨by omega, by omega⟩ ⟨by omega, by omega⟩
      rw [show D.word (decide ((0 : Int) < 0)) (rung (0 : Int).natAbs 0) = 0 by rw [decide_eq_false (by omega), word_false]; exact rung_zero 0] at this
      exact this
    · rw [hz]
      exact sPlus M H (n := 0) (by omega)
  · rw [if_neg z] at hsp
    obtain ⟨r, hr⟩ : ∃ r, r = b % 9223372036854775808 := ⟨_, rfl⟩
    rw [← hr] at hsp c z
    have hmg : magOf r < 9007199254740992 := by unfold magOf; split <;> omega
    have hmg0 : magOf r ≠ 0 := by unfold magOf; split <;> omega
    have hup : upOf r ≤ 2045 := by unfold upOf; split <;> omega
    obtain ⟨t1, t2, t3⟩ := tz_spec hmg0 (by omega)
    have hrx : rung (magOf r / 2 ^ tz (magOf r)) (-1074 + upOf r + tz (magOf r)) = r := by
      have h1 := rung_scale (magOf r / 2 ^ tz (magOf r)) (tz (magOf r)) (-1074 + upOf r)
      rw [← t1] at h1
      rw [← h1]
      exact rung_exact c
    have hle : magOf r / 2 ^ tz (magOf r) ≤ magOf r := Nat.div_le_self _ _
    obtain ⟨q, hq⟩ : ∃ q, q = magOf r / 2 ^ tz (magOf r) := ⟨_, rfl⟩
    obtain ⟨e, he⟩ : ∃ e : Int, e = -1074 + upOf r + tz (magOf r) := ⟨_, rfl⟩
    rw [← hq] at hsp t2 hrx hle
    rw [← he] at hsp hrx
    have hw := word_of b (by omega)
    rw [← hr] at hw
    obtain ⟨sg, hsg⟩ : ∃ sg, sg = decide (9223372036854775808 ≤ b) := ⟨_, rfl⟩
    rw [← hsg] at hsp hw
    have hmb : I64 (sI sg q) := by unfold I64 sI; cases sg <;> simp <;> omega
    have hna : (sI sg q).natAbs = q := by unfold sI; cases sg <;> simp
    have hlt : decide (sI sg q < 0) = sg := by
      unfold sI
      cases sg
      · rw [if_neg (by decide)]; exact decide_eq_false (by omega)
      · rw [if_pos rfl]; exact decide_eq_true (by omega)
    refine core (sI sg q) e b hsp (fun H => ?_) (fun H => ?_) (.inl ?_)
    · have := sJoin M H (m := sI sg q) (e := e) hmb ⟨by omega, by omega⟩
      rw [hna, hlt, hrx, ← hw] at this
      exact this
    · exact hpb H
    · rw [bne_iff_ne]
      unfold sI
      cases sg
      · rw [if_neg (by decide), Int.tmod_eq_emod_of_nonneg (by omega)]; omega
      · rw [if_pos rfl, Int.neg_tmod, Int.tmod_eq_emod_of_nonneg (by omega)]; omega

end Go.Proofs.YtpddepehlinfnaaGreatDoor.B
