/- Part of a claim: the document's Print. -/
import Derived.Test.YtpddepehlinfnaaGreatDoorPS39
set_option linter.unusedSimpArgs false
set_option linter.unusedVariables false
set_option maxRecDepth 100000
set_option maxHeartbeats 10000000
namespace Go.Proofs.YtpddepehlinfnaaGreatDoor.B
open Go Go.RowKit Go.Proofs.YtpddepehlinfnaaGreatDoor.E Go.Proofs.YtpddepehlinfnaaGreatDoor.FL

theorem strMidU {T : Tab} (hT : Ty T) {H : Heap} {s : List UInt8} {n m : Nat} (h1 : n ≤ m) (h : m ≤ s.length) : sliceA T H 9 (.str s) (some (.int .u64 (n : Int))) (some (.int .u64 (m : Int))) none = some (.str ((s.take m).drop n)) := by
  have hb : 0 ≤ (n : Int) ∧ (n : Int) ≤ (m : Int) := ⟨by omega, by omega⟩
  have hb2 : 0 ≤ (m : Int) ∧ (m : Int) ≤ (s.length : Int) := ⟨by omega, by omega⟩
  simp [sliceA, hT.ty9, boundsA, bndA, hb, hb2, h, h1]
theorem tx_app (a b : List Nat) : tx (a ++ b) = tx a ++ tx b := by unfold tx; rw [List.map_append]

theorem rPrint (M : Addr → Option AV) (H : Heap) {n : Nat} (h : n < 18446744073709551616) (h1 : n % 9223372036854775808 ≠ 0) (h2 : n % 9223372036854775808 < 9218868437227405312) {N K : Nat} (e1 : magOf (n % 9223372036854775808) * 2 ^ N = K) (e2 : 4503599627370496 ≤ K) (e3 : K < 9007199254740992) (e4 : N ≤ 52) :
    SemF Tryz.prog M 41 [.float .f64 n] H fun v _ => v = .str (tx (hdN (decide (9223372036854775808 ≤ n)) (K - 4503599627370496)) ++ [112] ++ Lib.itoa ((upOf (n % 9223372036854775808) : Int) - 1022 - N)) := by
  have hcl := rClass M H h
  have hsi := rSigned M H h
  unfold clsW at hcl
  unfold sgW at hsi
  have hn : isNaN .f64 n = false := by rw [isNaN_of, decide_eq_false_iff_not]; omega
  obtain ⟨k, hk, hk1, hk2, hk3⟩ : ∃ k : Int, (if isNaN .f64 n = true then (1 : Int) else if n % 9223372036854775808 = 9218868437227405312 then 2 else if n % 9223372036854775808 = 0 then 3 else if n % 9223372036854775808 < 4503599627370496 then 4 else 5) = k ∧ (k == 1) = false ∧ (k == 2) = false ∧ (k == 3) = false := by
    rw [hn, if_neg (by simp), if_neg (by omega), if_neg h1]
    by_cases c : n % 9223372036854775808 < 4503599627370496
    · rw [if_pos c]; exact ⟨_, rfl, rfl, rfl, rfl⟩
    · rw [if_neg c]; exact ⟨_, rfl, rfl, rfl, rfl⟩
  rw [hk] at hcl
  rw [hn] at hsi
  simp only [Bool.not_false, Bool.true_and] at hsi
  have hpa := rParts M H h rfl h2
  obtain ⟨r, hr⟩ : ∃ r, r = n % 9223372036854775808 := ⟨_, rfl⟩
  have hup : upOf r ≤ 2045 := by unfold upOf; split <;> omega
  have hm0 : magOf r ≠ 0 := by unfold magOf; split <;> omega
  rw [← hr] at hpa e1 ⊢
  obtain ⟨ex, hex⟩ : ∃ ex : Int, ex = (upOf r : Int) - 1022 - N := ⟨_, rfl⟩
  rw [← hex]
  obtain ⟨f, hf⟩ : ∃ f, f = K - 4503599627370496 := ⟨_, rfl⟩
  rw [← hf]
  obtain ⟨neg, hneg⟩ : ∃ neg, neg = decide (9223372036854775808 ≤ n) := ⟨_, rfl⟩
  rw [← hneg] at hsi ⊢
  have hsl : (sgN neg).length ≤ 1 := by unfold sgN; split <;> simp
  refine fw Tryz.func41 (by kernel_rfl) rfl (by kernel_rfl) fun C L T hT hS => ?_
  simp only [gXs,gT,gM,gL,gB,wantedA,evOp,opv,absC,absC0,isAggT,resA,resultA,binA,eqA,eqGuardA,isConstA,isFlatScalar,shiftOp,strOp,ordB,readN,sliceCells,lenA,storeA,newA,buildA,fillA,buildSliceA,boundsA,bndA,sliceA,ptrOK,fieldAddrA,fieldA,indexA,extractA,convA,isIntT,biA,bytesOf,setAll,List.replicate,Nat.reduceAdd,Nat.reduceSub,Nat.reduceMul,Nat.reduceLT,Nat.reduceLeDiff,Nat.reduceEqDiff,Int.reduceEq,Int.reduceLT,Int.reduceLE,Int.reduceNe,Int.reduceAdd,Nat.reduceBEq,reduceCtorEq,lenB_nil,lenB_slice,lenB_oslice,lenB_str,lenB_agg,indexAddrA_slice,indexAddrA_oslice,indexAddrA_ptr,indexAddrA_optr,loadA_ptr,loadA_optr,lenK,indexK,loadK,Int.reduceBEq,Int.reduceBNe,Int.reduceMod,Int.reduceDiv,Int.reduceTDiv,Int.reduceTMod,Int.reduceFDiv,Int.reduceSub,Int.reduceNeg,Int.reduceGT,Int.reduceGE,BitVec.reduceOfInt,BitVec.reduceAnd,BitVec.reduceOr,BitVec.reduceXOr,BitVec.reduceToNat,Int.reduceToNat,Int.reducePow,Int.reduceMul,hT.all,Tryz.f41]
  rw [xC_seq]
  simp only [gXs,gT,gM,gL,gB,wantedA,evOp,opv,absC,absC0,isAggT,resA,resultA,binA,eqA,eqGuardA,isConstA,isFlatScalar,shiftOp,strOp,ordB,readN,sliceCells,lenA,storeA,newA,buildA,fillA,buildSliceA,boundsA,bndA,sliceA,ptrOK,fieldAddrA,fieldA,indexA,extractA,convA,isIntT,biA,bytesOf,setAll,List.replicate,Nat.reduceAdd,Nat.reduceSub,Nat.reduceMul,Nat.reduceLT,Nat.reduceLeDiff,Nat.reduceEqDiff,Int.reduceEq,Int.reduceLT,Int.reduceLE,Int.reduceNe,Int.reduceAdd,Nat.reduceBEq,reduceCtorEq,lenB_nil,lenB_slice,lenB_oslice,lenB_str,lenB_agg,indexAddrA_slice,indexAddrA_oslice,indexAddrA_ptr,indexAddrA_optr,loadA_ptr,loadA_optr,lenK,indexK,loadK,Int.reduceBEq,Int.reduceBNe,Int.reduceMod,Int.reduceDiv,Int.reduceTDiv,Int.reduceTMod,Int.reduceFDiv,Int.reduceSub,Int.reduceNeg,Int.reduceGT,Int.reduceGE,BitVec.reduceOfInt,BitVec.reduceAnd,BitVec.reduceOr,BitVec.reduceXOr,BitVec.reduceToNat,Int.reduceToNat,Int.reducePow,Int.reduceMul,hT.all]
  rw [xC_seq]
  simp only [gXs,gT,gM,gL,gB,wantedA,evOp,opv,absC,absC0,isAggT,resA,resultA,binA,eqA,eqGuardA,isConstA,isFlatScalar,shiftOp,strOp,ordB,readN,sliceCells,lenA,storeA,newA,buildA,fillA,buildSliceA,boundsA,bndA,sliceA,ptrOK,fieldAddrA,fieldA,indexA,extractA,convA,isIntT,biA,bytesOf,setAll,List.replicate,Nat.reduceAdd,Nat.reduceSub,Nat.reduceMul,Nat.reduceLT,Nat.reduceLeDiff,Nat.reduceEqDiff,Int.reduceEq,Int.reduceLT,Int.reduceLE,Int.reduceNe,Int.reduceAdd,Nat.reduceBEq,reduceCtorEq,lenB_nil,lenB_slice,lenB_oslice,lenB_str,lenB_agg,indexAddrA_slice,indexAddrA_oslice,indexAddrA_ptr,indexAddrA_optr,loadA_ptr,loadA_optr,lenK,indexK,loadK,Int.reduceBEq,Int.reduceBNe,Int.reduceMod,Int.reduceDiv,Int.reduceTDiv,Int.reduceTMod,Int.reduceFDiv,Int.reduceSub,Int.reduceNeg,Int.reduceGT,Int.reduceGE,BitVec.reduceOfInt,BitVec.reduceAnd,BitVec.reduceOr,BitVec.reduceXOr,BitVec.reduceToNat,Int.reduceToNat,Int.reducePow,Int.reduceMul,hT.all]
  -- the sign
  refine hS.cut (fun e h' => ∃ (x2 : AV) (j : List AV), e = .float .f64 n :: x2 :: .str [] :: .str (tx (sgN neg)) :: j ∧ j.length = 66 ∧ h' = H) ?_ ?_
  · rw [xC_seq]
    simp only [gXs,gT,gM,gL,gB,wantedA,evOp,opv,absC,absC0,isAggT,resA,resultA,binA,eqA,eqGuardA,isConstA,isFlatScalar,shiftOp,strOp,ordB,readN,sliceCells,lenA,storeA,newA,buildA,fillA,buildSliceA,boundsA,bndA,sliceA,ptrOK,fieldAddrA,fieldA,indexA,extractA,convA,isIntT,biA,bytesOf,setAll,List.replicate,Nat.reduceAdd,Nat.reduceSub,Nat.reduceMul,Nat.reduceLT,Nat.reduceLeDiff,Nat.reduceEqDiff,Int.reduceEq,Int.reduceLT,Int.reduceLE,Int.reduceNe,Int.reduceAdd,Nat.reduceBEq,reduceCtorEq,lenB_nil,lenB_slice,lenB_oslice,lenB_str,lenB_agg,indexAddrA_slice,indexAddrA_oslice,indexAddrA_ptr,indexAddrA_optr,loadA_ptr,loadA_optr,lenK,indexK,loadK,Int.reduceBEq,Int.reduceBNe,Int.reduceMod,Int.reduceDiv,Int.reduceTDiv,Int.reduceTMod,Int.reduceFDiv,Int.reduceSub,Int.reduceNeg,Int.reduceGT,Int.reduceGE,BitVec.reduceOfInt,BitVec.reduceAnd,BitVec.reduceOr,BitVec.reduceXOr,BitVec.reduceToNat,Int.reduceToNat,Int.reducePow,Int.reduceMul,hT.all]
    refine hS.one hsi ?_
    cases neg
    · simp only [gXs,gT,gM,gL,gB,wantedA,evOp,opv,absC,absC0,isAggT,resA,resultA,binA,eqA,eqGuardA,isConstA,isFlatScalar,shiftOp,strOp,ordB,readN,sliceCells,lenA,storeA,newA,buildA,fillA,buildSliceA,boundsA,bndA,sliceA,ptrOK,fieldAddrA,fieldA,indexA,extractA,convA,isIntT,biA,bytesOf,setAll,List.replicate,Nat.reduceAdd,Nat.reduceSub,Nat.reduceMul,Nat.reduceLT,Nat.reduceLeDiff,Nat.reduceEqDiff,Int.reduceEq,Int.reduceLT,Int.reduceLE,Int.reduceNe,Int.reduceAdd,Nat.reduceBEq,reduceCtorEq,lenB_nil,lenB_slice,lenB_oslice,lenB_str,lenB_agg,indexAddrA_slice,indexAddrA_oslice,indexAddrA_ptr,indexAddrA_optr,loadA_ptr,loadA_optr,lenK,indexK,loadK,Int.reduceBEq,Int.reduceBNe,Int.reduceMod,Int.reduceDiv,Int.reduceTDiv,Int.reduceTMod,Int.reduceFDiv,Int.reduceSub,Int.reduceNeg,Int.reduceGT,Int.reduceGE,BitVec.reduceOfInt,BitVec.reduceAnd,BitVec.reduceOr,BitVec.reduceXOr,BitVec.reduceToNat,Int.reduceToNat,Int.reducePow,Int.reduceMul,hT.all]
      exact ⟨_, _, ⟨rfl, rfl, rfl⟩, rfl⟩
    · simp only [gXs,gT,gM,gL,gB,wantedA,evOp,opv,absC,absC0,isAggT,resA,resultA,binA,eqA,eqGuardA,isConstA,isFlatScalar,shiftOp,strOp,ordB,readN,sliceCells,lenA,storeA,newA,buildA,fillA,buildSliceA,boundsA,bndA,sliceA,ptrOK,fieldAddrA,fieldA,indexA,extractA,convA,isIntT,biA,bytesOf,setAll,List.replicate,Nat.reduceAdd,Nat.reduceSub,Nat.reduceMul,Nat.reduceLT,Nat.reduceLeDiff,Nat.reduceEqDiff,Int.reduceEq,Int.reduceLT,Int.reduceLE,Int.reduceNe,Int.reduceAdd,Nat.reduceBEq,reduceCtorEq,lenB_nil,lenB_slice,lenB_oslice,lenB_str,lenB_agg,indexAddrA_slice,indexAddrA_oslice,indexAddrA_ptr,indexAddrA_optr,loadA_ptr,loadA_optr,lenK,indexK,loadK,Int.reduceBEq,Int.reduceBNe,Int.reduceMod,Int.reduceDiv,Int.reduceTDiv,Int.reduceTMod,Int.reduceFDiv,Int.reduceSub,Int.reduceNeg,Int.reduceGT,Int.reduceGE,BitVec.reduceOfInt,BitVec.reduceAnd,BitVec.reduceOr,BitVec.reduceXOr,BitVec.reduceToNat,Int.reduceToNat,Int.reducePow,Int.reduceMul,hT.all]
      exact ⟨_, _, ⟨rfl, rfl, rfl⟩, rfl⟩
  rintro e h' ⟨x2, j, rfl, hj, rfl⟩
  obtain ⟨g, rfl⟩ : ∃ g : Nat → AV, j = [g 0, g 1, g 2, g 3, g 4, g 5, g 6, g 7, g 8, g 9, g 10, g 11, g 12, g 13, g 14, g 15, g 16, g 17, g 18, g 19, g 20, g 21, g 22, g 23, g 24, g 25, g 26, g 27, g 28, g 29, g 30, g 31, g 32, g 33, g 34, g 35, g 36, g 37, g 38, g 39, g 40, g 41, g 42, g 43, g 44, g 45, g 46, g 47, g 48, g 49, g 50, g 51, g 52, g 53, g 54, g 55, g 56, g 57, g 58, g 59, g 60, g 61, g 62, g 63, g 64, g 65] := junk 66 j hj
  simp only [gX,gT,gM,gL,gB,wantedA,evOp,opv,absC,absC0,isAggT,resA,resultA,binA,eqA,eqGuardA,isConstA,isFlatScalar,shiftOp,strOp,ordB,readN,sliceCells,lenA,storeA,newA,buildA,fillA,buildSliceA,boundsA,bndA,sliceA,ptrOK,fieldAddrA,fieldA,indexA,extractA,convA,isIntT,biA,bytesOf,setAll,List.replicate,Nat.reduceAdd,Nat.reduceSub,Nat.reduceMul,Nat.reduceLT,Nat.reduceLeDiff,Nat.reduceEqDiff,Int.reduceEq,Int.reduceLT,Int.reduceLE,Int.reduceNe,Int.reduceAdd,Nat.reduceBEq,reduceCtorEq,lenB_nil,lenB_slice,lenB_oslice,lenB_str,lenB_agg,indexAddrA_slice,indexAddrA_oslice,indexAddrA_ptr,indexAddrA_optr,loadA_ptr,loadA_optr,lenK,indexK,loadK,Int.reduceBEq,Int.reduceBNe,Int.reduceMod,Int.reduceDiv,Int.reduceTDiv,Int.reduceTMod,Int.reduceFDiv,Int.reduceSub,Int.reduceNeg,Int.reduceGT,Int.reduceGE,BitVec.reduceOfInt,BitVec.reduceAnd,BitVec.reduceOr,BitVec.reduceXOr,BitVec.reduceToNat,Int.reduceToNat,Int.reducePow,Int.reduceMul,hT.all]
  refine hS.one hcl ?_
  simp only [gX,gT,gM,gL,gB,wantedA,evOp,opv,absC,absC0,isAggT,resA,resultA,binA,eqA,eqGuardA,isConstA,isFlatScalar,shiftOp,strOp,ordB,readN,sliceCells,lenA,storeA,newA,buildA,fillA,buildSliceA,boundsA,bndA,sliceA,ptrOK,fieldAddrA,fieldA,indexA,extractA,convA,isIntT,biA,bytesOf,setAll,List.replicate,Nat.reduceAdd,Nat.reduceSub,Nat.reduceMul,Nat.reduceLT,Nat.reduceLeDiff,Nat.reduceEqDiff,Int.reduceEq,Int.reduceLT,Int.reduceLE,Int.reduceNe,Int.reduceAdd,Nat.reduceBEq,reduceCtorEq,lenB_nil,lenB_slice,lenB_oslice,lenB_str,lenB_agg,indexAddrA_slice,indexAddrA_oslice,indexAddrA_ptr,indexAddrA_optr,loadA_ptr,loadA_optr,lenK,indexK,loadK,Int.reduceBEq,Int.reduceBNe,Int.reduceMod,Int.reduceDiv,Int.reduceTDiv,Int.reduceTMod,Int.reduceFDiv,Int.reduceSub,Int.reduceNeg,Int.reduceGT,Int.reduceGE,BitVec.reduceOfInt,BitVec.reduceAnd,BitVec.reduceOr,BitVec.reduceXOr,BitVec.reduceToNat,Int.reduceToNat,Int.reducePow,Int.reduceMul,hT.all,hk1,hk2,hk3]
  refine hS.one hpa ?_
  simp only [gX,gT,gM,gL,gB,wantedA,evOp,opv,absC,absC0,isAggT,resA,resultA,binA,eqA,eqGuardA,isConstA,isFlatScalar,shiftOp,strOp,ordB,readN,sliceCells,lenA,storeA,newA,buildA,fillA,buildSliceA,boundsA,bndA,sliceA,ptrOK,fieldAddrA,fieldA,indexA,extractA,convA,isIntT,biA,bytesOf,setAll,List.replicate,Nat.reduceAdd,Nat.reduceSub,Nat.reduceMul,Nat.reduceLT,Nat.reduceLeDiff,Nat.reduceEqDiff,Int.reduceEq,Int.reduceLT,Int.reduceLE,Int.reduceNe,Int.reduceAdd,Nat.reduceBEq,reduceCtorEq,lenB_nil,lenB_slice,lenB_oslice,lenB_str,lenB_agg,indexAddrA_slice,indexAddrA_oslice,indexAddrA_ptr,indexAddrA_optr,loadA_ptr,loadA_optr,lenK,indexK,loadK,Int.reduceBEq,Int.reduceBNe,Int.reduceMod,Int.reduceDiv,Int.reduceTDiv,Int.reduceTMod,Int.reduceFDiv,Int.reduceSub,Int.reduceNeg,Int.reduceGT,Int.reduceGE,BitVec.reduceOfInt,BitVec.reduceAnd,BitVec.reduceOr,BitVec.reduceXOr,BitVec.reduceToNat,Int.reduceToNat,Int.reducePow,Int.reduceMul,hT.all]
  clear hcl hk hk1 hk2 hk3 hpa hsi hneg
  obtain ⟨sg, hsg⟩ : ∃ sg, sg = tx (sgN neg) := ⟨_, rfl⟩
  have hsgl : sg.length ≤ 1 := by rw [hsg, tx_length]; exact hsl
  rw [← hsg]
  have ad1 := fun T t o p => addS (T := T) (t := t) (o := o) (p := p) (a := sg) (b := [48, 120, 49]) (by simp; omega)
  obtain ⟨s1, hs1⟩ : ∃ s1, s1 = sg ++ [48, 120, 49] := ⟨_, rfl⟩
  have hs1l : s1.length ≤ 4 := by rw [hs1, List.length_append]; simp; omega
  rw [← hs1] at ad1
  refine hS.loop (fun m e h => ∃ (mm : Nat) (ee : Int) (x1 : AV) (j : List AV), e = .float .f64 n :: x1 :: .str [] :: .str sg :: .int .u64 (mm : Int) :: .int .i64 ee :: j ∧ j.length = 64 ∧ mm * 2 ^ m = K ∧ ee = ex + m - 52 ∧ m ≤ 52 ∧ h = h') N ⟨magOf r, -1074 + (upOf r : Int), _, _, rfl, ?_, ?_, ?_, ?_, ?_⟩ ?_
  · rfl
  · exact e1
  · omega
  · exact e4
  · rfl
  rintro m e h0 ⟨mm, ee, x1, j, rfl, hj, hmm, hee, hm52, rfl⟩ J hJ
  obtain ⟨g, rfl⟩ : ∃ g : Nat → AV, j = [g 0, g 1, g 2, g 3, g 4, g 5, g 6, g 7, g 8, g 9, g 10, g 11, g 12, g 13, g 14, g 15, g 16, g 17, g 18, g 19, g 20, g 21, g 22, g 23, g 24, g 25, g 26, g 27, g 28, g 29, g 30, g 31, g 32, g 33, g 34, g 35, g 36, g 37, g 38, g 39, g 40, g 41, g 42, g 43, g 44, g 45, g 46, g 47, g 48, g 49, g 50, g 51, g 52, g 53, g 54, g 55, g 56, g 57, g 58, g 59, g 60, g 61, g 62, g 63] := junk 64 j hj
  try dsimp only
  have hmm0 : mm ≠ 0 := by rintro rfl; rw [Nat.zero_mul] at hmm; omega
  rcases m with _ | k
  rotate_left
  · have hlt : mm < 4503599627370496 := by
      have : mm * 2 ≤ K := by
        rw [← hmm, Nat.pow_succ, Nat.mul_comm (2 ^ k), ← Nat.mul_assoc]
        exact Nat.le_mul_of_pos_right _ (Nat.two_pow_pos _)
      omega
    have b1 : decide ((mm : Int) < 4503599627370496) = true := decide_eq_true (by omega)
    have u1 : IntKind.u64.wrap ((mm : Int) * 2) = ((mm * 2 : Nat) : Int) := by rw [wU]; omega
    have i1 : IntKind.i64.wrap (ee - 1) = ee - 1 := wrap_i64 (by omega) (by omega)
    simp only [gX,gT,gM,gL,gB,wantedA,evOp,opv,absC,absC0,isAggT,resA,resultA,binA,eqA,eqGuardA,isConstA,isFlatScalar,shiftOp,strOp,ordB,readN,sliceCells,lenA,storeA,newA,buildA,fillA,buildSliceA,boundsA,bndA,sliceA,ptrOK,fieldAddrA,fieldA,indexA,extractA,convA,isIntT,biA,bytesOf,setAll,List.replicate,Nat.reduceAdd,Nat.reduceSub,Nat.reduceMul,Nat.reduceLT,Nat.reduceLeDiff,Nat.reduceEqDiff,Int.reduceEq,Int.reduceLT,Int.reduceLE,Int.reduceNe,Int.reduceAdd,Nat.reduceBEq,reduceCtorEq,lenB_nil,lenB_slice,lenB_oslice,lenB_str,lenB_agg,indexAddrA_slice,indexAddrA_oslice,indexAddrA_ptr,indexAddrA_optr,loadA_ptr,loadA_optr,lenK,indexK,loadK,Int.reduceBEq,Int.reduceBNe,Int.reduceMod,Int.reduceDiv,Int.reduceTDiv,Int.reduceTMod,Int.reduceFDiv,Int.reduceSub,Int.reduceNeg,Int.reduceGT,Int.reduceGE,BitVec.reduceOfInt,BitVec.reduceAnd,BitVec.reduceOr,BitVec.reduceXOr,BitVec.reduceToNat,Int.reduceToNat,Int.reducePow,Int.reduceMul,hT.all,b1,u1,i1]
    exact hJ k _ _ _ (by omega) (Weak.refl _) ⟨mm * 2, ee - 1, _, _, rfl, rfl, by rw [← hmm, Nat.pow_succ, Nat.mul_comm (2 ^ k), Nat.mul_assoc], by omega, by omega, rfl⟩
  rw [Nat.pow_zero, Nat.mul_one] at hmm
  subst hmm
  clear hJ
  have b1 : decide ((mm : Int) < 4503599627370496) = false := decide_eq_false (by omega)
  have i1 : IntKind.i64.wrap (ee + 52) = ex := by rw [wrap_i64 (by omega) (by omega)]; omega
  have a1 := low52 (n := mm) (by omega)
  rw [show mm % 4503599627370496 = f by omega] at a1
  have hf52 : f < 4503599627370496 := by omega
  rw [xC_seq]
  rw [xC_seq]
  simp only [gXs,gT,gM,gL,gB,wantedA,evOp,opv,absC,absC0,isAggT,resA,resultA,binA,eqA,eqGuardA,isConstA,isFlatScalar,shiftOp,strOp,ordB,readN,sliceCells,lenA,storeA,newA,buildA,fillA,buildSliceA,boundsA,bndA,sliceA,ptrOK,fieldAddrA,fieldA,indexA,extractA,convA,isIntT,biA,bytesOf,setAll,List.replicate,Nat.reduceAdd,Nat.reduceSub,Nat.reduceMul,Nat.reduceLT,Nat.reduceLeDiff,Nat.reduceEqDiff,Int.reduceEq,Int.reduceLT,Int.reduceLE,Int.reduceNe,Int.reduceAdd,Nat.reduceBEq,reduceCtorEq,lenB_nil,lenB_slice,lenB_oslice,lenB_str,lenB_agg,indexAddrA_slice,indexAddrA_oslice,indexAddrA_ptr,indexAddrA_optr,loadA_ptr,loadA_optr,lenK,indexK,loadK,Int.reduceBEq,Int.reduceBNe,Int.reduceMod,Int.reduceDiv,Int.reduceTDiv,Int.reduceTMod,Int.reduceFDiv,Int.reduceSub,Int.reduceNeg,Int.reduceGT,Int.reduceGE,BitVec.reduceOfInt,BitVec.reduceAnd,BitVec.reduceOr,BitVec.reduceXOr,BitVec.reduceToNat,Int.reduceToNat,Int.reducePow,Int.reduceMul,hT.all,b1]
  rw [xC_seq]
  simp only [gXs,gT,gM,gL,gB,wantedA,evOp,opv,absC,absC0,isAggT,resA,resultA,binA,eqA,eqGuardA,isConstA,isFlatScalar,shiftOp,strOp,ordB,readN,sliceCells,lenA,storeA,newA,buildA,fillA,buildSliceA,boundsA,bndA,sliceA,ptrOK,fieldAddrA,fieldA,indexA,extractA,convA,isIntT,biA,bytesOf,setAll,List.replicate,Nat.reduceAdd,Nat.reduceSub,Nat.reduceMul,Nat.reduceLT,Nat.reduceLeDiff,Nat.reduceEqDiff,Int.reduceEq,Int.reduceLT,Int.reduceLE,Int.reduceNe,Int.reduceAdd,Nat.reduceBEq,reduceCtorEq,lenB_nil,lenB_slice,lenB_oslice,lenB_str,lenB_agg,indexAddrA_slice,indexAddrA_oslice,indexAddrA_ptr,indexAddrA_optr,loadA_ptr,loadA_optr,lenK,indexK,loadK,Int.reduceBEq,Int.reduceBNe,Int.reduceMod,Int.reduceDiv,Int.reduceTDiv,Int.reduceTMod,Int.reduceFDiv,Int.reduceSub,Int.reduceNeg,Int.reduceGT,Int.reduceGE,BitVec.reduceOfInt,BitVec.reduceAnd,BitVec.reduceOr,BitVec.reduceXOr,BitVec.reduceToNat,Int.reduceToNat,Int.reducePow,Int.reduceMul,hT.all,i1]
  rw [xC_seq]
  simp only [gXs,gT,gM,gL,gB,wantedA,evOp,opv,absC,absC0,isAggT,resA,resultA,eqA,eqGuardA,isConstA,isFlatScalar,shiftOp,strOp,ordB,readN,sliceCells,lenA,storeA,newA,buildA,fillA,buildSliceA,boundsA,bndA,sliceA,ptrOK,fieldAddrA,fieldA,indexA,extractA,convA,isIntT,biA,bytesOf,setAll,List.replicate,Nat.reduceAdd,Nat.reduceSub,Nat.reduceMul,Nat.reduceLT,Nat.reduceLeDiff,Nat.reduceEqDiff,Int.reduceEq,Int.reduceLT,Int.reduceLE,Int.reduceNe,Int.reduceAdd,Nat.reduceBEq,reduceCtorEq,lenB_nil,lenB_slice,lenB_oslice,lenB_str,lenB_agg,indexAddrA_slice,indexAddrA_oslice,indexAddrA_ptr,indexAddrA_optr,loadA_ptr,loadA_optr,lenK,indexK,loadK,Int.reduceBEq,Int.reduceBNe,Int.reduceMod,Int.reduceDiv,Int.reduceTDiv,Int.reduceTMod,Int.reduceFDiv,Int.reduceSub,Int.reduceNeg,Int.reduceGT,Int.reduceGE,BitVec.reduceOfInt,BitVec.reduceAnd,BitVec.reduceOr,BitVec.reduceXOr,BitVec.reduceToNat,Int.reduceToNat,Int.reducePow,Int.reduceMul,hT.all,ad1]
  rw [xC_seq]
  simp only [gXs,gT,gM,gL,gB,wantedA,evOp,opv,absC,absC0,isAggT,resA,resultA,binA,eqA,eqGuardA,isConstA,isFlatScalar,shiftOp,strOp,ordB,readN,sliceCells,lenA,storeA,newA,buildA,fillA,buildSliceA,boundsA,bndA,sliceA,ptrOK,fieldAddrA,fieldA,indexA,extractA,convA,isIntT,biA,bytesOf,setAll,List.replicate,Nat.reduceAdd,Nat.reduceSub,Nat.reduceMul,Nat.reduceLT,Nat.reduceLeDiff,Nat.reduceEqDiff,Int.reduceEq,Int.reduceLT,Int.reduceLE,Int.reduceNe,Int.reduceAdd,Nat.reduceBEq,reduceCtorEq,lenB_nil,lenB_slice,lenB_oslice,lenB_str,lenB_agg,indexAddrA_slice,indexAddrA_oslice,indexAddrA_ptr,indexAddrA_optr,loadA_ptr,loadA_optr,lenK,indexK,loadK,Int.reduceBEq,Int.reduceBNe,Int.reduceMod,Int.reduceDiv,Int.reduceTDiv,Int.reduceTMod,Int.reduceFDiv,Int.reduceSub,Int.reduceNeg,Int.reduceGT,Int.reduceGE,BitVec.reduceOfInt,BitVec.reduceAnd,BitVec.reduceOr,BitVec.reduceXOr,BitVec.reduceToNat,Int.reduceToNat,Int.reducePow,Int.reduceMul,hT.all,a1]
  refine hS.cut (fun e h => ∃ (x1 x4 : AV) (j : List AV), e = .float .f64 n :: x1 :: .str [] :: .str (s1 ++ (if f = 0 then [] else [46])) :: x4 :: .int .i64 ex :: .int .u64 (f : Int) :: j ∧ j.length = 63 ∧ h = h0) ?_ ?_
  · rw [xC_seq]
    by_cases hf0 : f = 0
    · have b2 : ((f : Int) != 0) = false := by rw [bne_eq_false_iff_eq]; omega
      rw [if_pos hf0, List.append_nil]
      simp only [gXs,gT,gM,gL,gB,wantedA,evOp,opv,absC,absC0,isAggT,resA,resultA,binA,eqA,eqGuardA,isConstA,isFlatScalar,shiftOp,strOp,ordB,readN,sliceCells,lenA,storeA,newA,buildA,fillA,buildSliceA,boundsA,bndA,sliceA,ptrOK,fieldAddrA,fieldA,indexA,extractA,convA,isIntT,biA,bytesOf,setAll,List.replicate,Nat.reduceAdd,Nat.reduceSub,Nat.reduceMul,Nat.reduceLT,Nat.reduceLeDiff,Nat.reduceEqDiff,Int.reduceEq,Int.reduceLT,Int.reduceLE,Int.reduceNe,Int.reduceAdd,Nat.reduceBEq,reduceCtorEq,lenB_nil,lenB_slice,lenB_oslice,lenB_str,lenB_agg,indexAddrA_slice,indexAddrA_oslice,indexAddrA_ptr,indexAddrA_optr,loadA_ptr,loadA_optr,lenK,indexK,loadK,Int.reduceBEq,Int.reduceBNe,Int.reduceMod,Int.reduceDiv,Int.reduceTDiv,Int.reduceTMod,Int.reduceFDiv,Int.reduceSub,Int.reduceNeg,Int.reduceGT,Int.reduceGE,BitVec.reduceOfInt,BitVec.reduceAnd,BitVec.reduceOr,BitVec.reduceXOr,BitVec.reduceToNat,Int.reduceToNat,Int.reducePow,Int.reduceMul,hT.all,b2]
      exact ⟨_, _, _, ⟨rfl, rfl, rfl⟩, rfl⟩
    · have b2 : ((f : Int) != 0) = true := by rw [bne_iff_ne]; omega
      have l3 : s1.length + 1 ≤ 9223372036854775807 := by omega
      rw [if_neg hf0]
      simp only [gXs,gT,gM,gL,gB,wantedA,evOp,opv,absC,absC0,isAggT,resA,resultA,binA,eqA,eqGuardA,isConstA,isFlatScalar,shiftOp,strOp,ordB,readN,sliceCells,lenA,storeA,newA,buildA,fillA,buildSliceA,boundsA,bndA,sliceA,ptrOK,fieldAddrA,fieldA,indexA,extractA,convA,isIntT,biA,bytesOf,setAll,List.replicate,Nat.reduceAdd,Nat.reduceSub,Nat.reduceMul,Nat.reduceLT,Nat.reduceLeDiff,Nat.reduceEqDiff,Int.reduceEq,Int.reduceLT,Int.reduceLE,Int.reduceNe,Int.reduceAdd,Nat.reduceBEq,reduceCtorEq,lenB_nil,lenB_slice,lenB_oslice,lenB_str,lenB_agg,indexAddrA_slice,indexAddrA_oslice,indexAddrA_ptr,indexAddrA_optr,loadA_ptr,loadA_optr,lenK,indexK,loadK,Int.reduceBEq,Int.reduceBNe,Int.reduceMod,Int.reduceDiv,Int.reduceTDiv,Int.reduceTMod,Int.reduceFDiv,Int.reduceSub,Int.reduceNeg,Int.reduceGT,Int.reduceGE,BitVec.reduceOfInt,BitVec.reduceAnd,BitVec.reduceOr,BitVec.reduceXOr,BitVec.reduceToNat,Int.reduceToNat,Int.reducePow,Int.reduceMul,hT.all,b2,l3]
      exact ⟨_, _, _, ⟨rfl, rfl, rfl⟩, rfl⟩
  rintro e h9 ⟨x1, x4, j, rfl, hj, rfl⟩
  obtain ⟨bs, hbs⟩ : ∃ bs, bs = sgN neg ++ [48, 120, 49] ++ (if f = 0 then [] else [46]) := ⟨_, rfl⟩
  have hb1 : s1 ++ (if f = 0 then [] else [46]) = tx bs := by
    rw [hbs, tx_app, tx_app, ← hsg, hs1]
    split <;> rfl
  have hbl : bs.length ≤ 5 := by
    rw [hbs, List.length_append, List.length_append]
    split <;> simp <;> omega
  have hb2 : bs ++ hexF 13 f = hdN neg f := by
    rw [hbs]
    unfold hdN
    by_cases c : f = 0
    · rw [if_pos c, if_pos c, c]; simp [hexF]
    · rw [if_neg c, if_neg c]; simp
  have hit : Lib.itoa ex = if ex < 0 then 45 :: Lib.decDigits ex.natAbs else Lib.decDigits ex.toNat := rfl
  have hdl2 := dec_len ex.natAbs
  have hdec := fun H => rDecimal M ex.natAbs (by omega) H
  have hll := hdN_len neg f
  rw [← tx_length] at hll
  rw [hb1]
  obtain ⟨g, rfl⟩ : ∃ g : Nat → AV, j = [g 0, g 1, g 2, g 3, g 4, g 5, g 6, g 7, g 8, g 9, g 10, g 11, g 12, g 13, g 14, g 15, g 16, g 17, g 18, g 19, g 20, g 21, g 22, g 23, g 24, g 25, g 26, g 27, g 28, g 29, g 30, g 31, g 32, g 33, g 34, g 35, g 36, g 37, g 38, g 39, g 40, g 41, g 42, g 43, g 44, g 45, g 46, g 47, g 48, g 49, g 50, g 51, g 52, g 53, g 54, g 55, g 56, g 57, g 58, g 59, g 60, g 61, g 62] := junk 63 j hj
  refine hS.loop (fun m e h => ∃ (gv c : Nat) (done : List Nat) (st : List UInt8) (x1 x4 x7 : AV) (j : List AV), e = .float .f64 n :: x1 :: .str [] :: .str st :: x4 :: .int .i64 ex :: .int .u64 (gv : Int) :: x7 :: j ∧ j.length = 62 ∧
    m ≤ 13 ∧ gv < 4503599627370496 ∧ gv = c * 2 ^ (52 - 4 * m) ∧ done ++ hexF m gv = hexF 13 f ∧ done.length + m = 13 ∧ st = tx (bs ++ done) ∧ h = h9) 13 ⟨f, f, [], tx bs, x1, x4, _, _, rfl, rfl, by omega, hf52, by simp, rfl, rfl, by rw [List.append_nil], rfl⟩ ?_
  rintro m e h0 ⟨gv, c, done, st, x1, x4, x7, j, rfl, hj, hm13, hg, hgc, hdone, hdl, hst, rfl⟩ J hJ
  have hstl : st.length ≤ 18 := by rw [hst, tx_length, List.length_append]; omega
  by_cases hg0 : gv = 0
  · have bg : ((gv : Int) != 0) = false := by rw [bne_eq_false_iff_eq]; omega
    have hd : hexF m gv = [] := by cases m <;> simp [hexF, hg0]
    rw [hd, List.append_nil] at hdone
    have hsf : st = tx (hdN neg f) := by rw [hst, hdone, hb2]
    have l4 : st.length + 1 ≤ 9223372036854775807 := by omega
    obtain ⟨w, hw⟩ : ∃ w, w = Lib.decDigits ex.natAbs := ⟨_, rfl⟩
    rw [← hw] at hdl2
    simp only [← hw] at hdec
    have l5 : st.length + 1 + 1 ≤ 9223372036854775807 := by omega
    have l6 : st.length + 1 + 1 + w.length ≤ 9223372036854775807 := by omega
    have l7 : st.length + 1 + w.length ≤ 9223372036854775807 := by omega
    obtain ⟨q, hq⟩ : ∃ q, q = ex.natAbs := ⟨_, rfl⟩
    rw [← hq] at hdec
    rw [← hsf]
    by_cases he : ex < 0
    · have hi2 : Lib.itoa ex = 45 :: w := by rw [hit, if_pos he, hw]
      rw [hi2]
      have b5 : decide (ex < 0) = true := decide_eq_true he
      have i5 : IntKind.i64.wrap (0 - ex) = (q : Int) := by rw [wrap_i64 (by omega) (by omega)]; omega
      have ad5 := fun T t o p => addS (T := T) (t := t) (o := o) (p := p) (a := st ++ [112] ++ [45]) (b := w) (by simp; omega)
      obtain ⟨g, rfl⟩ : ∃ g : Nat → AV, j = [g 0, g 1, g 2, g 3, g 4, g 5, g 6, g 7, g 8, g 9, g 10, g 11, g 12, g 13, g 14, g 15, g 16, g 17, g 18, g 19, g 20, g 21, g 22, g 23, g 24, g 25, g 26, g 27, g 28, g 29, g 30, g 31, g 32, g 33, g 34, g 35, g 36, g 37, g 38, g 39, g 40, g 41, g 42, g 43, g 44, g 45, g 46, g 47, g 48, g 49, g 50, g 51, g 52, g 53, g 54, g 55, g 56, g 57, g 58, g 59, g 60, g 61] := junk 62 j hj
      simp only [gX,gT,gM,gL,gB,wantedA,evOp,opv,absC,absC0,isAggT,resA,resultA,binA,eqA,eqGuardA,isConstA,isFlatScalar,shiftOp,strOp,ordB,readN,sliceCells,lenA,storeA,newA,buildA,fillA,buildSliceA,boundsA,bndA,sliceA,ptrOK,fieldAddrA,fieldA,indexA,extractA,convA,isIntT,biA,bytesOf,setAll,List.replicate,Nat.reduceAdd,Nat.reduceSub,Nat.reduceMul,Nat.reduceLT,Nat.reduceLeDiff,Nat.reduceEqDiff,Int.reduceEq,Int.reduceLT,Int.reduceLE,Int.reduceNe,Int.reduceAdd,Nat.reduceBEq,reduceCtorEq,lenB_nil,lenB_slice,lenB_oslice,lenB_str,lenB_agg,indexAddrA_slice,indexAddrA_oslice,indexAddrA_ptr,indexAddrA_optr,loadA_ptr,loadA_optr,lenK,indexK,loadK,Int.reduceBEq,Int.reduceBNe,Int.reduceMod,Int.reduceDiv,Int.reduceTDiv,Int.reduceTMod,Int.reduceFDiv,Int.reduceSub,Int.reduceNeg,Int.reduceGT,Int.reduceGE,BitVec.reduceOfInt,BitVec.reduceAnd,BitVec.reduceOr,BitVec.reduceXOr,BitVec.reduceToNat,Int.reduceToNat,Int.reducePow,Int.reduceMul,hT.all,bg,l4,b5,l5,i5]
      refine hS.one (hdec _) ?_
      simp only [gX,gT,gM,gL,gB,wantedA,evOp,opv,absC,absC0,isAggT,resA,resultA,binA,eqA,eqGuardA,isConstA,isFlatScalar,shiftOp,strOp,ordB,readN,sliceCells,lenA,storeA,newA,buildA,fillA,buildSliceA,boundsA,bndA,sliceA,ptrOK,fieldAddrA,fieldA,indexA,extractA,convA,isIntT,biA,bytesOf,setAll,List.replicate,Nat.reduceAdd,Nat.reduceSub,Nat.reduceMul,Nat.reduceLT,Nat.reduceLeDiff,Nat.reduceEqDiff,Int.reduceEq,Int.reduceLT,Int.reduceLE,Int.reduceNe,Int.reduceAdd,Nat.reduceBEq,reduceCtorEq,lenB_nil,lenB_slice,lenB_oslice,lenB_str,lenB_agg,indexAddrA_slice,indexAddrA_oslice,indexAddrA_ptr,indexAddrA_optr,loadA_ptr,loadA_optr,lenK,indexK,loadK,Int.reduceBEq,Int.reduceBNe,Int.reduceMod,Int.reduceDiv,Int.reduceTDiv,Int.reduceTMod,Int.reduceFDiv,Int.reduceSub,Int.reduceNeg,Int.reduceGT,Int.reduceGE,BitVec.reduceOfInt,BitVec.reduceAnd,BitVec.reduceOr,BitVec.reduceXOr,BitVec.reduceToNat,Int.reduceToNat,Int.reducePow,Int.reduceMul,hT.all,l6]
      try simp
    · have hi2 : Lib.itoa ex = w := by rw [hit, if_neg he, hw, show ex.toNat = ex.natAbs by omega]
      rw [hi2]
      have b5 : decide (ex < 0) = false := decide_eq_false he
      obtain rfl : ex = (q : Int) := by omega
      obtain ⟨g, rfl⟩ : ∃ g : Nat → AV, j = [g 0, g 1, g 2, g 3, g 4, g 5, g 6, g 7, g 8, g 9, g 10, g 11, g 12, g 13, g 14, g 15, g 16, g 17, g 18, g 19, g 20, g 21, g 22, g 23, g 24, g 25, g 26, g 27, g 28, g 29, g 30, g 31, g 32, g 33, g 34, g 35, g 36, g 37, g 38, g 39, g 40, g 41, g 42, g 43, g 44, g 45, g 46, g 47, g 48, g 49, g 50, g 51, g 52, g 53, g 54, g 55, g 56, g 57, g 58, g 59, g 60, g 61] := junk 62 j hj
      simp only [gX,gT,gM,gL,gB,wantedA,evOp,opv,absC,absC0,isAggT,resA,resultA,binA,eqA,eqGuardA,isConstA,isFlatScalar,shiftOp,strOp,ordB,readN,sliceCells,lenA,storeA,newA,buildA,fillA,buildSliceA,boundsA,bndA,sliceA,ptrOK,fieldAddrA,fieldA,indexA,extractA,convA,isIntT,biA,bytesOf,setAll,List.replicate,Nat.reduceAdd,Nat.reduceSub,Nat.reduceMul,Nat.reduceLT,Nat.reduceLeDiff,Nat.reduceEqDiff,Int.reduceEq,Int.reduceLT,Int.reduceLE,Int.reduceNe,Int.reduceAdd,Nat.reduceBEq,reduceCtorEq,lenB_nil,lenB_slice,lenB_oslice,lenB_str,lenB_agg,indexAddrA_slice,indexAddrA_oslice,indexAddrA_ptr,indexAddrA_optr,loadA_ptr,loadA_optr,lenK,indexK,loadK,Int.reduceBEq,Int.reduceBNe,Int.reduceMod,Int.reduceDiv,Int.reduceTDiv,Int.reduceTMod,Int.reduceFDiv,Int.reduceSub,Int.reduceNeg,Int.reduceGT,Int.reduceGE,BitVec.reduceOfInt,BitVec.reduceAnd,BitVec.reduceOr,BitVec.reduceXOr,BitVec.reduceToNat,Int.reduceToNat,Int.reducePow,Int.reduceMul,hT.all,bg,l4,b5]
      refine hS.one (hdec _) ?_
      simp only [gX,gT,gM,gL,gB,wantedA,evOp,opv,absC,absC0,isAggT,resA,resultA,binA,eqA,eqGuardA,isConstA,isFlatScalar,shiftOp,strOp,ordB,readN,sliceCells,lenA,storeA,newA,buildA,fillA,buildSliceA,boundsA,bndA,sliceA,ptrOK,fieldAddrA,fieldA,indexA,extractA,convA,isIntT,biA,bytesOf,setAll,List.replicate,Nat.reduceAdd,Nat.reduceSub,Nat.reduceMul,Nat.reduceLT,Nat.reduceLeDiff,Nat.reduceEqDiff,Int.reduceEq,Int.reduceLT,Int.reduceLE,Int.reduceNe,Int.reduceAdd,Nat.reduceBEq,reduceCtorEq,lenB_nil,lenB_slice,lenB_oslice,lenB_str,lenB_agg,indexAddrA_slice,indexAddrA_oslice,indexAddrA_ptr,indexAddrA_optr,loadA_ptr,loadA_optr,lenK,indexK,loadK,Int.reduceBEq,Int.reduceBNe,Int.reduceMod,Int.reduceDiv,Int.reduceTDiv,Int.reduceTMod,Int.reduceFDiv,Int.reduceSub,Int.reduceNeg,Int.reduceGT,Int.reduceGE,BitVec.reduceOfInt,BitVec.reduceAnd,BitVec.reduceOr,BitVec.reduceXOr,BitVec.reduceToNat,Int.reduceToNat,Int.reducePow,Int.reduceMul,hT.all,l7]
      try simp
  have bg : ((gv : Int) != 0) = true := by rw [bne_iff_ne]; omega
  obtain ⟨k, rfl⟩ : ∃ k, m = k + 1 := ⟨m - 1, by
    rcases Nat.eq_zero_or_pos m with h0 | h0
    · subst h0
      rw [show 52 - 4 * 0 = 52 by rfl, show 2 ^ 52 = 4503599627370496 by decide] at hgc
      rcases Nat.eq_zero_or_pos c with h1 | h1 <;> omega
    · omega⟩
  have hd16 : gv / 281474976710656 < 16 := by omega
  have vd : shiftOp .shr .u64 (gv : Int) 48 = some (.int .u64 ((gv / 281474976710656 : Nat) : Int)) := by
    have := shrU (a := gv) (n := 48) (by omega)
    rw [show 2 ^ 48 = 281474976710656 by decide] at this
    exact this
  have vs : shiftOp .shl .u64 (gv : Int) 4 = some (.int .u64 ((gv * 16 : Nat) : Int)) := by
    have := shlM (a := gv) (n := 4) (by omega)
    rw [show 2 ^ 4 = 16 by decide, Nat.mod_eq_of_lt (by omega)] at this
    exact this
  have va := low52 (n := gv * 16) (by omega)
  have hhex : hexF (k + 1) gv = hx (gv / 281474976710656) :: hexF k (gv * 16 % 4503599627370496) := by rw [hexF, if_neg hg0]
  rw [hhex] at hdone
  obtain ⟨d, hd⟩ : ∃ d, d = gv / 281474976710656 := ⟨_, rfl⟩
  rw [← hd] at hd16 vd hdone
  have u1 : IntKind.u64.wrap ((d : Int) + 1) = ((d + 1 : Nat) : Int) := by rw [wU]; omega
  have t1 : ∀ H, sliceA T H 9 (.str [48, 49, 50, 51, 52, 53, 54, 55, 56, 57, 97, 98, 99, 100, 101, 102]) (some (.int .u64 (d : Int))) (some (.int .u64 ((d + 1 : Nat) : Int))) none = some (.str [UInt8.ofNat (hx d)]) := fun H => by
    rw [← digs_hx hd16]; exact strMidU hT (by omega) (by show d + 1 ≤ 16; omega)
  have l4 : st.length + 1 ≤ 9223372036854775807 := by omega
  obtain ⟨d1, hd1⟩ : ∃ d1, d1 = d + 1 := ⟨_, rfl⟩
  rw [← hd1] at u1 t1
  obtain ⟨g2, hg2⟩ : ∃ g2, g2 = gv * 16 % 4503599627370496 := ⟨_, rfl⟩
  rw [← hg2] at va hdone
  have e5 : g2 = c % 2 ^ (4 * k) * 2 ^ (52 - 4 * k) := by
    have e1 : (2 : Nat) ^ (52 - 4 * k) = 16 * 2 ^ (52 - 4 * (k + 1)) := by rw [show 52 - 4 * k = 4 + (52 - 4 * (k + 1)) by omega, Nat.pow_add]
    have e2 : (4503599627370496 : Nat) = 2 ^ (52 - 4 * k) * 2 ^ (4 * k) := by rw [← Nat.pow_add, show 52 - 4 * k + 4 * k = 52 by omega]
    have e3 : gv * 16 = 2 ^ (52 - 4 * k) * c := by rw [hgc, e1, Nat.mul_comm, ← Nat.mul_assoc, Nat.mul_comm]; rw [Nat.mul_left_comm, Nat.mul_assoc]
    rw [hg2, e3, e2, Nat.mul_mod_mul_left, Nat.mul_comm]
  have hst2 : st ++ [UInt8.ofNat (hx d)] = tx (bs ++ (done ++ [hx d])) := by rw [hst, ← List.append_assoc, tx_app (bs ++ done)]; rfl
  have hdone2 : (done ++ [hx d]) ++ hexF k g2 = hexF 13 f := by rw [List.append_assoc]; exact hdone
  have hdl3 : (done ++ [hx d]).length + k = 13 := by rw [List.length_append, List.length_singleton]; omega
  have hgl : g2 < 4503599627370496 := by omega
  obtain ⟨g, rfl⟩ : ∃ g : Nat → AV, j = [g 0, g 1, g 2, g 3, g 4, g 5, g 6, g 7, g 8, g 9, g 10, g 11, g 12, g 13, g 14, g 15, g 16, g 17, g 18, g 19, g 20, g 21, g 22, g 23, g 24, g 25, g 26, g 27, g 28, g 29, g 30, g 31, g 32, g 33, g 34, g 35, g 36, g 37, g 38, g 39, g 40, g 41, g 42, g 43, g 44, g 45, g 46, g 47, g 48, g 49, g 50, g 51, g 52, g 53, g 54, g 55, g 56, g 57, g 58, g 59, g 60, g 61] := junk 62 j hj
  simp only [gX,gT,gM,gL,gB,wantedA,evOp,opv,absC,absC0,isAggT,resA,resultA,binA,eqA,eqGuardA,isConstA,isFlatScalar,strOp,ordB,readN,sliceCells,lenA,storeA,newA,buildA,fillA,buildSliceA,boundsA,bndA,ptrOK,fieldAddrA,fieldA,indexA,extractA,convA,isIntT,biA,bytesOf,setAll,List.replicate,Nat.reduceAdd,Nat.reduceSub,Nat.reduceMul,Nat.reduceLT,Nat.reduceLeDiff,Nat.reduceEqDiff,Int.reduceEq,Int.reduceLT,Int.reduceLE,Int.reduceNe,Int.reduceAdd,Nat.reduceBEq,reduceCtorEq,lenB_nil,lenB_slice,lenB_oslice,lenB_str,lenB_agg,indexAddrA_slice,indexAddrA_oslice,indexAddrA_ptr,indexAddrA_optr,loadA_ptr,loadA_optr,lenK,indexK,loadK,Int.reduceBEq,Int.reduceBNe,Int.reduceMod,Int.reduceDiv,Int.reduceTDiv,Int.reduceTMod,Int.reduceFDiv,Int.reduceSub,Int.reduceNeg,Int.reduceGT,Int.reduceGE,BitVec.reduceOfInt,BitVec.reduceAnd,BitVec.reduceOr,BitVec.reduceXOr,BitVec.reduceToNat,Int.reduceToNat,Int.reducePow,Int.reduceMul,hT.all,bg,vd,u1,t1,l4,vs,va]
  exact hJ k _ _ _ (by omega) (Weak.refl _) ⟨g2, c % 2 ^ (4 * k), done ++ [hx d], st ++ [UInt8.ofNat (hx d)], x1, _, _, _, rfl, rfl, by omega, hgl, e5, hdone2, hdl3, hst2, rfl⟩

end Go.Proofs.YtpddepehlinfnaaGreatDoor.B
