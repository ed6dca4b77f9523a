/- Part of a claim: the library writes a float in base 16. -/
import Derived.Test.YtpddepehlinfnaaGreatDoorPS32
set_option linter.unusedSimpArgs false
set_option linter.unusedVariables false
set_option maxRecDepth 100000
set_option maxHeartbeats 10000000
namespace Go.Proofs.YtpddepehlinfnaaGreatDoor.B
open Go Go.RowKit Go.Proofs.YtpddepehlinfnaaGreatDoor.E Go.Proofs.YtpddepehlinfnaaGreatDoor.FL

def sgN (neg : Bool) : List Nat := if neg then [45] else []
/-- What the library writes: the 52 bits behind the first, the exponent. -/
def outX (neg : Bool) (f : Nat) (eneg : Bool) (n : Nat) : List Nat := sgN neg ++ [48, 120, 49] ++ (if f = 0 then [] else 46 :: hexF 13 f) ++ [112] ++ expN eneg n

theorem hexF_len : ∀ (n f : Nat), (hexF n f).length ≤ n
  | 0, _ => by simp [hexF]
  | n + 1, f => by
    unfold hexF
    split
    · simp
    · have := hexF_len n (f * 16 % 4503599627370496)
      simp; omega

theorem pLower (M : Addr → Option AV) (H : Heap) : SemF Tryz.prog M 143 [.int .u8 120] H fun v h => v = .int .u8 120 ∧ h = H := by
  have w : IntKind.u8.wrap 120 = 120 := rfl
  refine fpure rfl rfl (fw Tryz.func143 (by kernel_rfl) rfl (by kernel_rfl) fun C L T hT hS => ?_) H
  simp only [gX,gT,gM,gL,gB,wantedA,evOp,opv,absC,absC0,isAggT,resA,resultA,binA,eqA,eqGuardA,isConstA,isFlatScalar,shiftOp,strOp,ordB,readN,sliceCells,lenA,storeA,newA,buildA,fillA,buildSliceA,boundsA,bndA,sliceA,ptrOK,fieldAddrA,fieldA,indexA,extractA,convA,isIntT,biA,bytesOf,setAll,List.replicate,Nat.reduceAdd,Nat.reduceSub,Nat.reduceMul,Nat.reduceLT,Nat.reduceLeDiff,Nat.reduceEqDiff,Int.reduceEq,Int.reduceLT,Int.reduceLE,Int.reduceNe,Int.reduceAdd,Nat.reduceBEq,reduceCtorEq,lenB_nil,lenB_slice,lenB_oslice,lenB_str,lenB_agg,indexAddrA_slice,indexAddrA_oslice,indexAddrA_ptr,indexAddrA_optr,loadA_ptr,loadA_optr,lenK,indexK,loadK,Int.reduceBEq,Int.reduceBNe,Int.reduceMod,Int.reduceDiv,Int.reduceTDiv,Int.reduceTMod,Int.reduceFDiv,Int.reduceSub,Int.reduceNeg,Int.reduceGT,Int.reduceGE,BitVec.reduceOfInt,BitVec.reduceAnd,BitVec.reduceOr,BitVec.reduceXOr,BitVec.reduceToNat,Int.reduceToNat,Int.reducePow,Int.reduceMul,hT.all,Tryz.f143,w]

/-- The end: p, a sign, digits. -/
theorem exp_cells (n : Nat) (h : n ≤ 9999) : ((n : Int).tdiv 10 = ((n / 10 : Nat) : Int)) ∧ ((n : Int).tmod 10 = ((n % 10 : Nat) : Int)) ∧ ((n : Int).tdiv 100 = ((n / 100 : Nat) : Int)) ∧ ((n : Int).tdiv 1000 = ((n / 1000 : Nat) : Int)) ∧ (((n / 10 : Nat) : Int).tmod 10 = ((n / 10 % 10 : Nat) : Int)) ∧ (((n / 100 : Nat) : Int).tmod 10 = ((n / 100 % 10 : Nat) : Int)) := by
  refine ⟨?_, ?_, ?_, ?_, ?_, ?_⟩
  · rw [Int.tdiv_eq_ediv_of_nonneg (by omega)]; omega
  · rw [Int.tmod_eq_emod_of_nonneg (by omega)]; omega
  · rw [Int.tdiv_eq_ediv_of_nonneg (by omega)]; omega
  · rw [Int.tdiv_eq_ediv_of_nonneg (by omega)]; omega
  · rw [Int.tmod_eq_emod_of_nonneg (by omega)]; omega
  · rw [Int.tmod_eq_emod_of_nonneg (by omega)]; omega

theorem pFmtX (M : Addr → Option AV) {H : Heap} {b m0 K N f : Nat} {neg : Bool} {e0 ex : Int} (hB : Bf H b []) (hm : m0 * 2 ^ N = K) (hK1 : 4503599627370496 ≤ K) (hK2 : K < 9007199254740992) (hN : N ≤ 60) (hf : f = K - 4503599627370496) (hex : ex = e0 - N) (h1 : -1100 ≤ ex) (h2 : e0 ≤ 1100) :
    SemF Tryz.prog M 118 [.slice b 0 0 1 0 (some 24), .int .i64 (-1), .int .u8 120, .bool neg, .int .u64 m0, .int .i64 e0, .int .i64 52] H fun v h => ∃ n, v = .slice b 0 0 1 n (some 24) ∧ n = (outX neg f (decide (ex < 0)) ex.natAbs).length ∧ Bf h b (outX neg f (decide (ex < 0)) ex.natAbs) := by
  have hm0 : m0 ≠ 0 := by rintro rfl; rw [Nat.zero_mul] at hm; omega
  have hmK : m0 ≤ K := by rw [← hm]; exact Nat.le_mul_of_pos_right _ (Nat.two_pow_pos _)
  have b0 : ((m0 : Int) == 0) = false := by rw [beq_eq_false_iff_ne]; omega
  have w8' : IntKind.i64.wrap 8 = 8 := rfl
  have v8 : shiftOp .shl .u64 (m0 : Int) 8 = some (.int .u64 ((m0 * 256 : Nat) : Int)) := by
    have := shlU (a := m0) (n := 8) (by omega) (by omega)
    exact this
  refine fw Tryz.func118 (by kernel_rfl) rfl (by kernel_rfl) fun C L T hT hS => ?_
  simp only [gX,gT,gM,gL,gB,wantedA,evOp,opv,absC,absC0,isAggT,resA,resultA,binA,eqA,eqGuardA,isConstA,isFlatScalar,strOp,ordB,readN,sliceCells,lenA,storeA,newA,buildA,fillA,buildSliceA,boundsA,bndA,sliceA,ptrOK,fieldAddrA,fieldA,indexA,extractA,convA,isIntT,biA,bytesOf,setAll,List.replicate,Nat.reduceAdd,Nat.reduceSub,Nat.reduceMul,Nat.reduceLT,Nat.reduceLeDiff,Nat.reduceEqDiff,Int.reduceEq,Int.reduceLT,Int.reduceLE,Int.reduceNe,Int.reduceAdd,Nat.reduceBEq,reduceCtorEq,lenB_nil,lenB_slice,lenB_oslice,lenB_str,lenB_agg,indexAddrA_slice,indexAddrA_oslice,indexAddrA_ptr,indexAddrA_optr,loadA_ptr,loadA_optr,lenK,indexK,loadK,Int.reduceBEq,Int.reduceBNe,Int.reduceMod,Int.reduceDiv,Int.reduceTDiv,Int.reduceTMod,Int.reduceFDiv,Int.reduceSub,Int.reduceNeg,Int.reduceGT,Int.reduceGE,BitVec.reduceOfInt,BitVec.reduceAnd,BitVec.reduceOr,BitVec.reduceXOr,BitVec.reduceToNat,Int.reduceToNat,Int.reducePow,Int.reduceMul,hT.all,Tryz.f118,b0,w8',v8]
  refine hS.loop (fun m e h => ∃ (mm : Nat) (ee : Int) (j : List AV), e = .slice b 0 0 1 0 (some 24) :: .int .i64 (-1) :: .int .u8 120 :: .bool neg :: .int .u64 (mm : Int) :: .int .i64 ee :: .int .i64 52 :: j ∧ j.length = 194 ∧ mm * 2 ^ m = K * 256 ∧ ee = ex + m ∧ m ≤ 60 ∧ h = H) N ⟨m0 * 256, e0, _, rfl, rfl, by rw [Nat.mul_right_comm, hm], by omega, hN, rfl⟩ ?_
  rintro m e h ⟨mm, ee, j, rfl, hj, hmm, hee, hm60, rfl⟩ J hJ
  obtain ⟨g, rfl⟩ : ∃ g : Nat → AV, j = [g 0, g 1, g 2, g 3, g 4, g 5, g 6, g 7, g 8, g 9, g 10, g 11, g 12, g 13, g 14, g 15, g 16, g 17, g 18, g 19, g 20, g 21, g 22, g 23, g 24, g 25, g 26, g 27, g 28, g 29, g 30, g 31, g 32, g 33, g 34, g 35, g 36, g 37, g 38, g 39, g 40, g 41, g 42, g 43, g 44, g 45, g 46, g 47, g 48, g 49, g 50, g 51, g 52, g 53, g 54, g 55, g 56, g 57, g 58, g 59, g 60, g 61, g 62, g 63, g 64, g 65, g 66, g 67, g 68, g 69, g 70, g 71, g 72, g 73, g 74, g 75, g 76, g 77, g 78, g 79, g 80, g 81, g 82, g 83, g 84, g 85, g 86, g 87, g 88, g 89, g 90, g 91, g 92, g 93, g 94, g 95, g 96, g 97, g 98, g 99, g 100, g 101, g 102, g 103, g 104, g 105, g 106, g 107, g 108, g 109, g 110, g 111, g 112, g 113, g 114, g 115, g 116, g 117, g 118, g 119, g 120, g 121, g 122, g 123, g 124, g 125, g 126, g 127, g 128, g 129, g 130, g 131, g 132, g 133, g 134, g 135, g 136, g 137, g 138, g 139, g 140, g 141, g 142, g 143, g 144, g 145, g 146, g 147, g 148, g 149, g 150, g 151, g 152, g 153, g 154, g 155, g 156, g 157, g 158, g 159, g 160, g 161, g 162, g 163, g 164, g 165, g 166, g 167, g 168, g 169, g 170, g 171, g 172, g 173, g 174, g 175, g 176, g 177, g 178, g 179, g 180, g 181, g 182, g 183, g 184, g 185, g 186, g 187, g 188, g 189, g 190, g 191, g 192, g 193] := junk 194 j hj
  have hmm0 : mm ≠ 0 := by rintro rfl; rw [Nat.zero_mul] at hmm; omega
  have hmmK : mm ≤ K * 256 := by rw [← hmm]; exact Nat.le_mul_of_pos_right _ (Nat.two_pow_pos _)
  have bn : ((mm : Int) != 0) = true := by rw [bne_iff_ne]; omega
  have a60 := and_one60 (n := mm) (by omega)
  by_cases hm1 : m = 0
  rotate_left
  · obtain ⟨k, rfl⟩ : ∃ k, m = k + 1 := ⟨m - 1, by omega⟩
    have hlt : mm < 1152921504606846976 := by
      have : mm * 2 ≤ K * 256 := by
        rw [← hmm, Nat.pow_succ, Nat.mul_comm (2 ^ k), ← Nat.mul_assoc]
        exact Nat.le_mul_of_pos_right _ (Nat.two_pow_pos _)
      omega
    rw [if_pos hlt] at a60
    have vs : shiftOp .shl .u64 (mm : Int) 1 = some (.int .u64 ((mm * 2 : Nat) : Int)) := shlU (a := mm) (n := 1) (by omega) (by omega)
    have i1 : IntKind.i64.wrap (ee - 1) = ee - 1 := wrap_i64 (by omega) (by omega)
    have z0 : (((0 : Nat) : Int) == 0) = true := rfl
    simp only [gX,gT,gM,gL,gB,wantedA,evOp,opv,absC,absC0,isAggT,resA,resultA,binA,eqA,eqGuardA,isConstA,isFlatScalar,strOp,ordB,readN,sliceCells,lenA,storeA,newA,buildA,fillA,buildSliceA,boundsA,bndA,sliceA,ptrOK,fieldAddrA,fieldA,indexA,extractA,convA,isIntT,biA,bytesOf,setAll,List.replicate,Nat.reduceAdd,Nat.reduceSub,Nat.reduceMul,Nat.reduceLT,Nat.reduceLeDiff,Nat.reduceEqDiff,Int.reduceEq,Int.reduceLT,Int.reduceLE,Int.reduceNe,Int.reduceAdd,Nat.reduceBEq,reduceCtorEq,lenB_nil,lenB_slice,lenB_oslice,lenB_str,lenB_agg,indexAddrA_slice,indexAddrA_oslice,indexAddrA_ptr,indexAddrA_optr,loadA_ptr,loadA_optr,lenK,indexK,loadK,Int.reduceBEq,Int.reduceBNe,Int.reduceMod,Int.reduceDiv,Int.reduceTDiv,Int.reduceTMod,Int.reduceFDiv,Int.reduceSub,Int.reduceNeg,Int.reduceGT,Int.reduceGE,BitVec.reduceOfInt,BitVec.reduceAnd,BitVec.reduceOr,BitVec.reduceXOr,BitVec.reduceToNat,Int.reduceToNat,Int.reducePow,Int.reduceMul,hT.all,bn,a60,z0,vs,i1]
    exact hJ k _ _ _ (by omega) (Weak.refl _) ⟨mm * 2, ee - 1, _, rfl, rfl, by rw [← hmm, Nat.pow_succ, Nat.mul_comm (2 ^ k), Nat.mul_assoc], by omega, by omega, rfl⟩
  subst hm1
  rw [Nat.pow_zero, Nat.mul_one] at hmm
  subst hmm
  rw [if_neg (by omega)] at a60
  obtain rfl : ee = ex := by omega
  clear hJ
  have z0 : (((1152921504606846976 : Nat) : Int) == 0) = false := rfl
  have v1 : shiftOp .shr .u64 ((K * 256 : Nat) : Int) 60 = some (.int .u64 1) := by
    have := shrU (a := K * 256) (n := 60) (by omega)
    rw [show 2 ^ 60 = 1152921504606846976 by decide, show K * 256 / 1152921504606846976 = 1 by omega] at this
    exact this
  have v2 : shiftOp .shl .u64 ((K * 256 : Nat) : Int) 4 = some (.int .u64 ((f * 4096 : Nat) : Int)) := by
    have := shlM (a := K * 256) (n := 4) (by omega)
    rw [show 2 ^ 4 = 16 by decide, show K * 256 * 16 % 18446744073709551616 = f * 4096 by omega] at this
    exact this
  have u1 : IntKind.u64.wrap 1 = 1 := rfl
  have u2 : IntKind.u8.wrap 1 = 1 := rfl
  have u3 : IntKind.u8.wrap 49 = 49 := rfl
  -- what is written ahead of the fraction
  obtain ⟨mk, hmk⟩ : ∃ mk, mk = K * 256 := ⟨_, rfl⟩
  rw [← hmk] at v1 v2 bn a60 ⊢
  simp only [gXs,gT,gM,gL,gB,wantedA,evOp,opv,absC,absC0,isAggT,resA,resultA,binA,eqA,eqGuardA,isConstA,isFlatScalar,shiftOp,strOp,ordB,readN,sliceCells,lenA,storeA,newA,buildA,fillA,buildSliceA,boundsA,bndA,sliceA,ptrOK,fieldAddrA,fieldA,indexA,extractA,convA,isIntT,biA,bytesOf,setAll,List.replicate,Nat.reduceAdd,Nat.reduceSub,Nat.reduceMul,Nat.reduceLT,Nat.reduceLeDiff,Nat.reduceEqDiff,Int.reduceEq,Int.reduceLT,Int.reduceLE,Int.reduceNe,Int.reduceAdd,Nat.reduceBEq,reduceCtorEq,lenB_nil,lenB_slice,lenB_oslice,lenB_str,lenB_agg,indexAddrA_slice,indexAddrA_oslice,indexAddrA_ptr,indexAddrA_optr,loadA_ptr,loadA_optr,lenK,indexK,loadK,Int.reduceBEq,Int.reduceBNe,Int.reduceMod,Int.reduceDiv,Int.reduceTDiv,Int.reduceTMod,Int.reduceFDiv,Int.reduceSub,Int.reduceNeg,Int.reduceGT,Int.reduceGE,BitVec.reduceOfInt,BitVec.reduceAnd,BitVec.reduceOr,BitVec.reduceXOr,BitVec.reduceToNat,Int.reduceToNat,Int.reducePow,Int.reduceMul,hT.all]
  rw [xC_seq]
  rw [xC_seq]
  simp only [gXs,gT,gM,gL,gB,wantedA,evOp,opv,absC,absC0,isAggT,resA,resultA,binA,eqA,eqGuardA,isConstA,isFlatScalar,shiftOp,strOp,ordB,readN,sliceCells,lenA,storeA,newA,buildA,fillA,buildSliceA,boundsA,bndA,sliceA,ptrOK,fieldAddrA,fieldA,indexA,extractA,convA,isIntT,biA,bytesOf,setAll,List.replicate,Nat.reduceAdd,Nat.reduceSub,Nat.reduceMul,Nat.reduceLT,Nat.reduceLeDiff,Nat.reduceEqDiff,Int.reduceEq,Int.reduceLT,Int.reduceLE,Int.reduceNe,Int.reduceAdd,Nat.reduceBEq,reduceCtorEq,lenB_nil,lenB_slice,lenB_oslice,lenB_str,lenB_agg,indexAddrA_slice,indexAddrA_oslice,indexAddrA_ptr,indexAddrA_optr,loadA_ptr,loadA_optr,lenK,indexK,loadK,Int.reduceBEq,Int.reduceBNe,Int.reduceMod,Int.reduceDiv,Int.reduceTDiv,Int.reduceTMod,Int.reduceFDiv,Int.reduceSub,Int.reduceNeg,Int.reduceGT,Int.reduceGE,BitVec.reduceOfInt,BitVec.reduceAnd,BitVec.reduceOr,BitVec.reduceXOr,BitVec.reduceToNat,Int.reduceToNat,Int.reducePow,Int.reduceMul,hT.all,bn,a60,z0]
  rw [xC_seq]
  rw [xC_seq]
  simp only [gXs,gT,gM,gL,gB,wantedA,evOp,opv,absC,absC0,isAggT,resA,resultA,binA,eqA,eqGuardA,isConstA,isFlatScalar,shiftOp,strOp,ordB,readN,sliceCells,lenA,storeA,newA,buildA,fillA,buildSliceA,boundsA,bndA,sliceA,ptrOK,fieldAddrA,fieldA,indexA,extractA,convA,isIntT,biA,bytesOf,setAll,List.replicate,Nat.reduceAdd,Nat.reduceSub,Nat.reduceMul,Nat.reduceLT,Nat.reduceLeDiff,Nat.reduceEqDiff,Int.reduceEq,Int.reduceLT,Int.reduceLE,Int.reduceNe,Int.reduceAdd,Nat.reduceBEq,reduceCtorEq,lenB_nil,lenB_slice,lenB_oslice,lenB_str,lenB_agg,indexAddrA_slice,indexAddrA_oslice,indexAddrA_ptr,indexAddrA_optr,loadA_ptr,loadA_optr,lenK,indexK,loadK,Int.reduceBEq,Int.reduceBNe,Int.reduceMod,Int.reduceDiv,Int.reduceTDiv,Int.reduceTMod,Int.reduceFDiv,Int.reduceSub,Int.reduceNeg,Int.reduceGT,Int.reduceGE,BitVec.reduceOfInt,BitVec.reduceAnd,BitVec.reduceOr,BitVec.reduceXOr,BitVec.reduceToNat,Int.reduceToNat,Int.reducePow,Int.reduceMul,hT.all]
  rw [xC_seq]
  simp only [gXs,gT,gM,gL,gB,wantedA,evOp,opv,absC,absC0,isAggT,resA,resultA,binA,eqA,eqGuardA,isConstA,isFlatScalar,shiftOp,strOp,ordB,readN,sliceCells,lenA,storeA,newA,buildA,fillA,buildSliceA,boundsA,bndA,sliceA,ptrOK,fieldAddrA,fieldA,indexA,extractA,convA,isIntT,biA,bytesOf,setAll,List.replicate,Nat.reduceAdd,Nat.reduceSub,Nat.reduceMul,Nat.reduceLT,Nat.reduceLeDiff,Nat.reduceEqDiff,Int.reduceEq,Int.reduceLT,Int.reduceLE,Int.reduceNe,Int.reduceAdd,Nat.reduceBEq,reduceCtorEq,lenB_nil,lenB_slice,lenB_oslice,lenB_str,lenB_agg,indexAddrA_slice,indexAddrA_oslice,indexAddrA_ptr,indexAddrA_optr,loadA_ptr,loadA_optr,lenK,indexK,loadK,Int.reduceBEq,Int.reduceBNe,Int.reduceMod,Int.reduceDiv,Int.reduceTDiv,Int.reduceTMod,Int.reduceFDiv,Int.reduceSub,Int.reduceNeg,Int.reduceGT,Int.reduceGE,BitVec.reduceOfInt,BitVec.reduceAnd,BitVec.reduceOr,BitVec.reduceXOr,BitVec.reduceToNat,Int.reduceToNat,Int.reducePow,Int.reduceMul,hT.all]
  rw [xC_seq]
  rw [xC_seq]
  simp only [gXs,gT,gM,gL,gB,wantedA,evOp,opv,absC,absC0,isAggT,resA,resultA,binA,eqA,eqGuardA,isConstA,isFlatScalar,shiftOp,strOp,ordB,readN,sliceCells,lenA,storeA,newA,buildA,fillA,buildSliceA,boundsA,bndA,sliceA,ptrOK,fieldAddrA,fieldA,indexA,extractA,convA,isIntT,biA,bytesOf,setAll,List.replicate,Nat.reduceAdd,Nat.reduceSub,Nat.reduceMul,Nat.reduceLT,Nat.reduceLeDiff,Nat.reduceEqDiff,Int.reduceEq,Int.reduceLT,Int.reduceLE,Int.reduceNe,Int.reduceAdd,Nat.reduceBEq,reduceCtorEq,lenB_nil,lenB_slice,lenB_oslice,lenB_str,lenB_agg,indexAddrA_slice,indexAddrA_oslice,indexAddrA_ptr,indexAddrA_optr,loadA_ptr,loadA_optr,lenK,indexK,loadK,Int.reduceBEq,Int.reduceBNe,Int.reduceMod,Int.reduceDiv,Int.reduceTDiv,Int.reduceTMod,Int.reduceFDiv,Int.reduceSub,Int.reduceNeg,Int.reduceGT,Int.reduceGE,BitVec.reduceOfInt,BitVec.reduceAnd,BitVec.reduceOr,BitVec.reduceXOr,BitVec.reduceToNat,Int.reduceToNat,Int.reducePow,Int.reduceMul,hT.all]
  -- the sign
  refine hS.cut (fun e h' => ∃ (n : Nat) (jm j : List AV), e = .slice b 0 0 1 n (some 24) :: .int .i64 (-1) :: .int .u8 120 :: .bool neg :: .int .u64 (mk : Int) :: .int .i64 ee :: .int .i64 52 :: (jm ++ .str [48, 49, 50, 51, 52, 53, 54, 55, 56, 57, 97, 98, 99, 100, 101, 102] :: j) ∧ jm.length = 10 ∧ j.length = 183 ∧ n = (sgN neg).length ∧ Bf h' b (sgN neg)) ?_ ?_
  · cases neg
    · rw [xC_seq]
      simp only [gXs,gT,gM,gL,gB,wantedA,evOp,opv,absC,absC0,isAggT,resA,resultA,binA,eqA,eqGuardA,isConstA,isFlatScalar,shiftOp,strOp,ordB,readN,sliceCells,lenA,storeA,newA,buildA,fillA,buildSliceA,boundsA,bndA,sliceA,ptrOK,fieldAddrA,fieldA,indexA,extractA,convA,isIntT,biA,bytesOf,setAll,List.replicate,Nat.reduceAdd,Nat.reduceSub,Nat.reduceMul,Nat.reduceLT,Nat.reduceLeDiff,Nat.reduceEqDiff,Int.reduceEq,Int.reduceLT,Int.reduceLE,Int.reduceNe,Int.reduceAdd,Nat.reduceBEq,reduceCtorEq,lenB_nil,lenB_slice,lenB_oslice,lenB_str,lenB_agg,indexAddrA_slice,indexAddrA_oslice,indexAddrA_ptr,indexAddrA_optr,loadA_ptr,loadA_optr,lenK,indexK,loadK,Int.reduceBEq,Int.reduceBNe,Int.reduceMod,Int.reduceDiv,Int.reduceTDiv,Int.reduceTMod,Int.reduceFDiv,Int.reduceSub,Int.reduceNeg,Int.reduceGT,Int.reduceGE,BitVec.reduceOfInt,BitVec.reduceAnd,BitVec.reduceOr,BitVec.reduceXOr,BitVec.reduceToNat,Int.reduceToNat,Int.reducePow,Int.reduceMul,hT.all]
      exact ⟨0, [_, _, _, _, _, _, _, _, _, _], _, ⟨rfl, rfl⟩, rfl, by rfl, rfl, hB⟩
    · obtain ⟨H', ap, hB'⟩ := hB.app hT (M := M) (n := 0) (m := 1) (k := 1) (nb := [45]) rfl rfl rfl (by omega) (by omega)
      simp only [bC, List.map_cons, List.map_nil, Int.cast_ofNat_Int] at ap
      rw [xC_seq]
      simp only [gXs,gT,gM,gL,gB,wantedA,evOp,opv,absC,absC0,isAggT,resA,resultA,binA,eqA,eqGuardA,isConstA,isFlatScalar,shiftOp,strOp,ordB,readN,sliceCells,lenA,storeA,newA,buildA,fillA,buildSliceA,boundsA,bndA,sliceA,ptrOK,fieldAddrA,fieldA,indexA,extractA,convA,isIntT,biA,bytesOf,setAll,List.replicate,Nat.reduceAdd,Nat.reduceSub,Nat.reduceMul,Nat.reduceLT,Nat.reduceLeDiff,Nat.reduceEqDiff,Int.reduceEq,Int.reduceLT,Int.reduceLE,Int.reduceNe,Int.reduceAdd,Nat.reduceBEq,reduceCtorEq,lenB_nil,lenB_slice,lenB_oslice,lenB_str,lenB_agg,indexAddrA_slice,indexAddrA_oslice,indexAddrA_ptr,indexAddrA_optr,loadA_ptr,loadA_optr,lenK,indexK,loadK,Int.reduceBEq,Int.reduceBNe,Int.reduceMod,Int.reduceDiv,Int.reduceTDiv,Int.reduceTMod,Int.reduceFDiv,Int.reduceSub,Int.reduceNeg,Int.reduceGT,Int.reduceGE,BitVec.reduceOfInt,BitVec.reduceAnd,BitVec.reduceOr,BitVec.reduceXOr,BitVec.reduceToNat,Int.reduceToNat,Int.reducePow,Int.reduceMul,hT.all,ap]
      exact ⟨1, [_, _, _, _, _, _, _, _, _, _], _, ⟨rfl, rfl⟩, rfl, by rfl, rfl, hB'⟩
  rintro e h' ⟨n, jm, j, rfl, hjm, hj, hn, hB1⟩
  obtain ⟨g, rfl⟩ : ∃ g : Nat → AV, j = [g 0, g 1, g 2, g 3, g 4, g 5, g 6, g 7, g 8, g 9, g 10, g 11, g 12, g 13, g 14, g 15, g 16, g 17, g 18, g 19, g 20, g 21, g 22, g 23, g 24, g 25, g 26, g 27, g 28, g 29, g 30, g 31, g 32, g 33, g 34, g 35, g 36, g 37, g 38, g 39, g 40, g 41, g 42, g 43, g 44, g 45, g 46, g 47, g 48, g 49, g 50, g 51, g 52, g 53, g 54, g 55, g 56, g 57, g 58, g 59, g 60, g 61, g 62, g 63, g 64, g 65, g 66, g 67, g 68, g 69, g 70, g 71, g 72, g 73, g 74, g 75, g 76, g 77, g 78, g 79, g 80, g 81, g 82, g 83, g 84, g 85, g 86, g 87, g 88, g 89, g 90, g 91, g 92, g 93, g 94, g 95, g 96, g 97, g 98, g 99, g 100, g 101, g 102, g 103, g 104, g 105, g 106, g 107, g 108, g 109, g 110, g 111, g 112, g 113, g 114, g 115, g 116, g 117, g 118, g 119, g 120, g 121, g 122, g 123, g 124, g 125, g 126, g 127, g 128, g 129, g 130, g 131, g 132, g 133, g 134, g 135, g 136, g 137, g 138, g 139, g 140, g 141, g 142, g 143, g 144, g 145, g 146, g 147, g 148, g 149, g 150, g 151, g 152, g 153, g 154, g 155, g 156, g 157, g 158, g 159, g 160, g 161, g 162, g 163, g 164, g 165, g 166, g 167, g 168, g 169, g 170, g 171, g 172, g 173, g 174, g 175, g 176, g 177, g 178, g 179, g 180, g 181, g 182] := junk 183 j hj
  obtain ⟨gm, rfl⟩ : ∃ g : Nat → AV, jm = [g 0, g 1, g 2, g 3, g 4, g 5, g 6, g 7, g 8, g 9] := junk 10 jm hjm
  simp only [List.cons_append, List.nil_append]
  have hsl : (sgN neg).length ≤ 1 := by unfold sgN; split <;> simp
  obtain ⟨n3, hn3⟩ : ∃ k, k = n + 3 := ⟨_, rfl⟩
  obtain ⟨H2, ap2, hB2⟩ := hB1.app hT (M := M) (n := n) (m := 3) (k := n3) (nb := [48, 120, 49]) hn rfl hn3 (by omega) (by omega)
  simp only [bC, List.map_cons, List.map_nil, Int.cast_ofNat_Int] at ap2
  have hn3' : n3 = (sgN neg ++ [48, 120, 49]).length := by rw [List.length_append, ← hn]; exact hn3
  rw [xC_seq]
  simp only [gXs,gT,gM,gL,gB,wantedA,evOp,opv,absC,absC0,isAggT,resA,resultA,binA,eqA,eqGuardA,isConstA,isFlatScalar,strOp,ordB,readN,sliceCells,lenA,storeA,newA,buildA,fillA,buildSliceA,boundsA,bndA,sliceA,ptrOK,fieldAddrA,fieldA,indexA,extractA,convA,isIntT,biA,bytesOf,setAll,List.replicate,Nat.reduceAdd,Nat.reduceSub,Nat.reduceMul,Nat.reduceLT,Nat.reduceLeDiff,Nat.reduceEqDiff,Int.reduceEq,Int.reduceLT,Int.reduceLE,Int.reduceNe,Int.reduceAdd,Nat.reduceBEq,reduceCtorEq,lenB_nil,lenB_slice,lenB_oslice,lenB_str,lenB_agg,indexAddrA_slice,indexAddrA_oslice,indexAddrA_ptr,indexAddrA_optr,loadA_ptr,loadA_optr,lenK,indexK,loadK,Int.reduceBEq,Int.reduceBNe,Int.reduceMod,Int.reduceDiv,Int.reduceTDiv,Int.reduceTMod,Int.reduceFDiv,Int.reduceSub,Int.reduceNeg,Int.reduceGT,Int.reduceGE,BitVec.reduceOfInt,BitVec.reduceAnd,BitVec.reduceOr,BitVec.reduceXOr,BitVec.reduceToNat,Int.reduceToNat,Int.reducePow,Int.reduceMul,hT.all,v1,u1,u2,u3,ap2]
  rw [xC_seq]
  simp only [gXs,gT,gM,gL,gB,wantedA,evOp,opv,absC,absC0,isAggT,resA,resultA,binA,eqA,eqGuardA,isConstA,isFlatScalar,strOp,ordB,readN,sliceCells,lenA,storeA,newA,buildA,fillA,buildSliceA,boundsA,bndA,sliceA,ptrOK,fieldAddrA,fieldA,indexA,extractA,convA,isIntT,biA,bytesOf,setAll,List.replicate,Nat.reduceAdd,Nat.reduceSub,Nat.reduceMul,Nat.reduceLT,Nat.reduceLeDiff,Nat.reduceEqDiff,Int.reduceEq,Int.reduceLT,Int.reduceLE,Int.reduceNe,Int.reduceAdd,Nat.reduceBEq,reduceCtorEq,lenB_nil,lenB_slice,lenB_oslice,lenB_str,lenB_agg,indexAddrA_slice,indexAddrA_oslice,indexAddrA_ptr,indexAddrA_optr,loadA_ptr,loadA_optr,lenK,indexK,loadK,Int.reduceBEq,Int.reduceBNe,Int.reduceMod,Int.reduceDiv,Int.reduceTDiv,Int.reduceTMod,Int.reduceFDiv,Int.reduceSub,Int.reduceNeg,Int.reduceGT,Int.reduceGE,BitVec.reduceOfInt,BitVec.reduceAnd,BitVec.reduceOr,BitVec.reduceXOr,BitVec.reduceToNat,Int.reduceToNat,Int.reducePow,Int.reduceMul,hT.all,v2]
  -- the fraction
  have hf52 : f < 4503599627370496 := by omega
  obtain ⟨pre, hpre⟩ : ∃ pre, pre = sgN neg ++ [48, 120, 49] := ⟨_, rfl⟩
  rw [← hpre] at hB2 hn3'
  have hprl : pre.length ≤ 4 := by rw [hpre, List.length_append]; simp; omega
  refine hS.cut (fun e h' => ∃ (n : Nat) (x4 : AV) (j : List AV), e = .slice b 0 0 1 n (some 24) :: .int .i64 (-1) :: .int .u8 120 :: .bool neg :: x4 :: .int .i64 ee :: .int .i64 52 :: j ∧ j.length = 194 ∧ n = (pre ++ (if f = 0 then [] else 46 :: hexF 13 f)).length ∧ Bf h' b (pre ++ (if f = 0 then [] else 46 :: hexF 13 f))) ?_ ?_
  · by_cases hf0 : f = 0
    · have bf : ((f * 4096 : Nat) : Int) = 0 := by omega
      rw [bf]
      rw [if_pos hf0, List.append_nil]
      simp only [gXs,gT,gM,gL,gB,wantedA,evOp,opv,absC,absC0,isAggT,resA,resultA,binA,eqA,eqGuardA,isConstA,isFlatScalar,shiftOp,strOp,ordB,readN,sliceCells,lenA,storeA,newA,buildA,fillA,buildSliceA,boundsA,bndA,sliceA,ptrOK,fieldAddrA,fieldA,indexA,extractA,convA,isIntT,biA,bytesOf,setAll,List.replicate,Nat.reduceAdd,Nat.reduceSub,Nat.reduceMul,Nat.reduceLT,Nat.reduceLeDiff,Nat.reduceEqDiff,Int.reduceEq,Int.reduceLT,Int.reduceLE,Int.reduceNe,Int.reduceAdd,Nat.reduceBEq,reduceCtorEq,lenB_nil,lenB_slice,lenB_oslice,lenB_str,lenB_agg,indexAddrA_slice,indexAddrA_oslice,indexAddrA_ptr,indexAddrA_optr,loadA_ptr,loadA_optr,lenK,indexK,loadK,Int.reduceBEq,Int.reduceBNe,Int.reduceMod,Int.reduceDiv,Int.reduceTDiv,Int.reduceTMod,Int.reduceFDiv,Int.reduceSub,Int.reduceNeg,Int.reduceGT,Int.reduceGE,BitVec.reduceOfInt,BitVec.reduceAnd,BitVec.reduceOr,BitVec.reduceXOr,BitVec.reduceToNat,Int.reduceToNat,Int.reducePow,Int.reduceMul,hT.all]
      exact ⟨n3, _, _, rfl, rfl, hn3', hB2⟩
    · rw [if_neg hf0]
      have bf : (((f * 4096 : Nat) : Int) != 0) = true := by rw [bne_iff_ne]; omega
      obtain ⟨n4, hn4⟩ : ∃ k, k = n3 + 1 := ⟨_, rfl⟩
      obtain ⟨H3, ap3, hB3⟩ := hB2.app hT (M := M) (n := n3) (m := 1) (k := n4) (nb := [46]) hn3' rfl hn4 (by omega) (by omega)
      simp only [bC, List.map_cons, List.map_nil, Int.cast_ofNat_Int] at ap3
      simp only [gX,gT,gM,gL,gB,wantedA,evOp,opv,absC,absC0,isAggT,resA,resultA,binA,eqA,eqGuardA,isConstA,isFlatScalar,shiftOp,strOp,ordB,readN,sliceCells,lenA,storeA,newA,buildA,fillA,buildSliceA,boundsA,bndA,sliceA,ptrOK,fieldAddrA,fieldA,indexA,extractA,convA,isIntT,biA,bytesOf,setAll,List.replicate,Nat.reduceAdd,Nat.reduceSub,Nat.reduceMul,Nat.reduceLT,Nat.reduceLeDiff,Nat.reduceEqDiff,Int.reduceEq,Int.reduceLT,Int.reduceLE,Int.reduceNe,Int.reduceAdd,Nat.reduceBEq,reduceCtorEq,lenB_nil,lenB_slice,lenB_oslice,lenB_str,lenB_agg,indexAddrA_slice,indexAddrA_oslice,indexAddrA_ptr,indexAddrA_optr,loadA_ptr,loadA_optr,lenK,indexK,loadK,Int.reduceBEq,Int.reduceBNe,Int.reduceMod,Int.reduceDiv,Int.reduceTDiv,Int.reduceTMod,Int.reduceFDiv,Int.reduceSub,Int.reduceNeg,Int.reduceGT,Int.reduceGE,BitVec.reduceOfInt,BitVec.reduceAnd,BitVec.reduceOr,BitVec.reduceXOr,BitVec.reduceToNat,Int.reduceToNat,Int.reducePow,Int.reduceMul,hT.all,bf,ap3]
      refine hS.loop (fun m e h => ∃ (gv c : Nat) (done : List Nat) (n : Nat) (jm j : List AV), e = .slice b 0 0 1 n (some 24) :: .int .i64 (-1) :: .int .u8 120 :: .bool neg :: .int .u64 ((gv * 4096 : Nat) : Int) :: .int .i64 ee :: .int .i64 52 :: (jm ++ .str [48, 49, 50, 51, 52, 53, 54, 55, 56, 57, 97, 98, 99, 100, 101, 102] :: j) ∧ jm.length = 10 ∧ j.length = 183 ∧
        m ≤ 13 ∧ gv < 4503599627370496 ∧ gv = c * 2 ^ (52 - 4 * m) ∧ done ++ hexF m gv = hexF 13 f ∧ done.length + m = 13 ∧ n = (pre ++ 46 :: done).length ∧ Bf h b (pre ++ 46 :: done)) 13 ⟨f, f, [], n4, [_, _, _, _, _, _, _, _, _, _], _, rfl, rfl, by rfl, by omega, hf52, by simp, rfl, rfl, by rw [List.length_append, ← hn3']; exact hn4, hB3⟩ ?_
      rintro m e h ⟨gv, c, done, n, jm, j, rfl, hjm, hj, hm13, hg, hgc, hdone, hdl, hn, hB4⟩ J hJ
      obtain ⟨g, rfl⟩ : ∃ g : Nat → AV, j = [g 0, g 1, g 2, g 3, g 4, g 5, g 6, g 7, g 8, g 9, g 10, g 11, g 12, g 13, g 14, g 15, g 16, g 17, g 18, g 19, g 20, g 21, g 22, g 23, g 24, g 25, g 26, g 27, g 28, g 29, g 30, g 31, g 32, g 33, g 34, g 35, g 36, g 37, g 38, g 39, g 40, g 41, g 42, g 43, g 44, g 45, g 46, g 47, g 48, g 49, g 50, g 51, g 52, g 53, g 54, g 55, g 56, g 57, g 58, g 59, g 60, g 61, g 62, g 63, g 64, g 65, g 66, g 67, g 68, g 69, g 70, g 71, g 72, g 73, g 74, g 75, g 76, g 77, g 78, g 79, g 80, g 81, g 82, g 83, g 84, g 85, g 86, g 87, g 88, g 89, g 90, g 91, g 92, g 93, g 94, g 95, g 96, g 97, g 98, g 99, g 100, g 101, g 102, g 103, g 104, g 105, g 106, g 107, g 108, g 109, g 110, g 111, g 112, g 113, g 114, g 115, g 116, g 117, g 118, g 119, g 120, g 121, g 122, g 123, g 124, g 125, g 126, g 127, g 128, g 129, g 130, g 131, g 132, g 133, g 134, g 135, g 136, g 137, g 138, g 139, g 140, g 141, g 142, g 143, g 144, g 145, g 146, g 147, g 148, g 149, g 150, g 151, g 152, g 153, g 154, g 155, g 156, g 157, g 158, g 159, g 160, g 161, g 162, g 163, g 164, g 165, g 166, g 167, g 168, g 169, g 170, g 171, g 172, g 173, g 174, g 175, g 176, g 177, g 178, g 179, g 180, g 181, g 182] := junk 183 j hj
      obtain ⟨gm, rfl⟩ : ∃ g : Nat → AV, jm = [g 0, g 1, g 2, g 3, g 4, g 5, g 6, g 7, g 8, g 9] := junk 10 jm hjm
      simp only [List.cons_append, List.nil_append]
      by_cases hg0 : gv = 0
      · have bg : (((gv * 4096 : Nat) : Int) != 0) = false := by rw [bne_eq_false_iff_eq]; omega
        have hd : hexF m gv = [] := by cases m <;> simp [hexF, hg0]
        rw [hd, List.append_nil] at hdone
        rw [hdone] at hn hB4
        simp only [gX,gT,gM,gL,gB,wantedA,evOp,opv,absC,absC0,isAggT,resA,resultA,binA,eqA,eqGuardA,isConstA,isFlatScalar,shiftOp,strOp,ordB,readN,sliceCells,lenA,storeA,newA,buildA,fillA,buildSliceA,boundsA,bndA,sliceA,ptrOK,fieldAddrA,fieldA,indexA,extractA,convA,isIntT,biA,bytesOf,setAll,List.replicate,Nat.reduceAdd,Nat.reduceSub,Nat.reduceMul,Nat.reduceLT,Nat.reduceLeDiff,Nat.reduceEqDiff,Int.reduceEq,Int.reduceLT,Int.reduceLE,Int.reduceNe,Int.reduceAdd,Nat.reduceBEq,reduceCtorEq,lenB_nil,lenB_slice,lenB_oslice,lenB_str,lenB_agg,indexAddrA_slice,indexAddrA_oslice,indexAddrA_ptr,indexAddrA_optr,loadA_ptr,loadA_optr,lenK,indexK,loadK,Int.reduceBEq,Int.reduceBNe,Int.reduceMod,Int.reduceDiv,Int.reduceTDiv,Int.reduceTMod,Int.reduceFDiv,Int.reduceSub,Int.reduceNeg,Int.reduceGT,Int.reduceGE,BitVec.reduceOfInt,BitVec.reduceAnd,BitVec.reduceOr,BitVec.reduceXOr,BitVec.reduceToNat,Int.reduceToNat,Int.reducePow,Int.reduceMul,hT.all,bg]
        exact ⟨n, _, _, ⟨rfl, rfl, rfl⟩, rfl, by rw [hn]; simp, hB4⟩
      have bg : (((gv * 4096 : Nat) : Int) != 0) = true := by rw [bne_iff_ne]; omega
      obtain ⟨k, rfl⟩ : ∃ k, m = k + 1 := ⟨m - 1, by
        rcases Nat.eq_zero_or_pos m with h0 | h0
        · subst h0
          rw [show 52 - 4 * 0 = 52 by rfl, show 2 ^ 52 = 4503599627370496 by decide] at hgc
          rcases Nat.eq_zero_or_pos c with h1 | h1 <;> omega
        · omega⟩
      have hd16 : gv / 281474976710656 < 16 := by omega
      have vd : shiftOp .shr .u64 ((gv * 4096 : Nat) : Int) 60 = some (.int .u64 ((gv / 281474976710656 : Nat) : Int)) := by
        have := shrU (a := gv * 4096) (n := 60) (by omega)
        rw [show 2 ^ 60 = 1152921504606846976 by decide, show gv * 4096 / 1152921504606846976 = gv / 281474976710656 by omega] at this
        exact this
      have va := and15 (n := gv / 281474976710656) (by omega)
      rw [Nat.mod_eq_of_lt hd16] at va
      have vs : shiftOp .shl .u64 ((gv * 4096 : Nat) : Int) 4 = some (.int .u64 ((gv * 16 % 4503599627370496 * 4096 : Nat) : Int)) := by
        have := shlM (a := gv * 4096) (n := 4) (by omega)
        rw [show 2 ^ 4 = 16 by decide, show gv * 4096 * 16 % 18446744073709551616 = gv * 16 % 4503599627370496 * 4096 by omega] at this
        exact this
      obtain ⟨d, hd⟩ : ∃ d, d = gv / 281474976710656 := ⟨_, rfl⟩
      rw [← hd] at hd16 vd va
      have hat := hex_at hd16
      have hxl := hx_lt hd16
      have hut : (UInt8.ofNat (hx d)).toNat = hx d := by rw [UInt8.toNat_ofNat']; omega
      have nn0 : 0 ≤ (d : Int) := by omega
      obtain ⟨n5, hn5⟩ : ∃ k, k = n + 1 := ⟨_, rfl⟩
      have hll : (pre ++ 46 :: done).length = pre.length + 1 + done.length := by simp; omega
      obtain ⟨H5, ap5, hB5⟩ := hB4.app hT (M := M) (n := n) (m := 1) (k := n5) (nb := [hx d]) hn rfl hn5 (by omega) (by omega)
      simp only [bC, List.map_cons, List.map_nil] at ap5
      have tn : ((d : Int)).toNat = d := Int.toNat_natCast d
      have hhex : hexF (k + 1) gv = hx d :: hexF k (gv * 16 % 4503599627370496) := by rw [hexF, if_neg hg0, ← hd]
      rw [hhex] at hdone
      simp only [gX,gT,gM,gL,gB,wantedA,evOp,opv,absC,absC0,isAggT,resA,resultA,binA,eqA,eqGuardA,isConstA,isFlatScalar,strOp,ordB,readN,sliceCells,lenA,storeA,newA,buildA,fillA,buildSliceA,boundsA,bndA,sliceA,ptrOK,fieldAddrA,fieldA,indexA,extractA,convA,isIntT,biA,bytesOf,setAll,List.replicate,Nat.reduceAdd,Nat.reduceSub,Nat.reduceMul,Nat.reduceLT,Nat.reduceLeDiff,Nat.reduceEqDiff,Int.reduceEq,Int.reduceLT,Int.reduceLE,Int.reduceNe,Int.reduceAdd,Nat.reduceBEq,reduceCtorEq,lenB_nil,lenB_slice,lenB_oslice,lenB_str,lenB_agg,indexAddrA_slice,indexAddrA_oslice,indexAddrA_ptr,indexAddrA_optr,loadA_ptr,loadA_optr,lenK,indexK,loadK,Int.reduceBEq,Int.reduceBNe,Int.reduceMod,Int.reduceDiv,Int.reduceTDiv,Int.reduceTMod,Int.reduceFDiv,Int.reduceSub,Int.reduceNeg,Int.reduceGT,Int.reduceGE,BitVec.reduceOfInt,BitVec.reduceAnd,BitVec.reduceOr,BitVec.reduceXOr,BitVec.reduceToNat,Int.reduceToNat,Int.reducePow,Int.reduceMul,hT.all,bg,vd,va,indexA,nn0,tn,hat,hut,ap5,vs]
      refine hJ k _ _ _ (by omega) (Weak.refl _) ⟨gv * 16 % 4503599627370496, c % 2 ^ (4 * k), done ++ [hx d], n5, [_, _, _, _, _, _, _, _, _, _], _, rfl, rfl, ?_, by omega, by omega, ?_, by rw [List.append_assoc]; exact hdone, by simp; omega, by rw [hn5, hn]; simp; omega, by rw [List.append_assoc] at hB5; exact hB5⟩
      · rfl
      have e1 : (2 : Nat) ^ (52 - 4 * k) = 16 * 2 ^ (52 - 4 * (k + 1)) := by rw [show 52 - 4 * k = 4 + (52 - 4 * (k + 1)) by omega, Nat.pow_add]
      have e2 : (4503599627370496 : Nat) = 2 ^ (52 - 4 * k) * 2 ^ (4 * k) := by rw [← Nat.pow_add, show 52 - 4 * k + 4 * k = 52 by omega]
      have e3 : gv * 16 = 2 ^ (52 - 4 * k) * c := by rw [hgc, e1, Nat.mul_comm, ← Nat.mul_assoc, Nat.mul_comm]; rw [Nat.mul_left_comm, Nat.mul_assoc]
      rw [e3, e2, Nat.mul_mod_mul_left, Nat.mul_comm]
  rintro e h' ⟨n, x4, j, rfl, hj, hn, hB4⟩
  obtain ⟨pr, hpr⟩ : ∃ pr, pr = pre ++ (if f = 0 then [] else 46 :: hexF 13 f) := ⟨_, rfl⟩
  have hprl2 : pr.length ≤ 18 := by
    rw [hpr, List.length_append]
    split
    · simp; omega
    · have := hexF_len 13 f
      simp; omega
  obtain ⟨q, hq⟩ : ∃ q, q = ee.natAbs := ⟨_, rfl⟩
  have hout : outX neg f (decide (ee < 0)) ee.natAbs = pr ++ [112] ++ expN (decide (ee < 0)) q := by rw [hpr, hpre, hq]; rfl
  rw [hout]
  rw [← hpr] at hn hB4
  clear hout hpr hpre hB2 hB1 ap2 v1 v2 bn a60 hB
  obtain ⟨g, rfl⟩ : ∃ g : Nat → AV, j = [g 0, g 1, g 2, g 3, g 4, g 5, g 6, g 7, g 8, g 9, g 10, g 11, g 12, g 13, g 14, g 15, g 16, g 17, g 18, g 19, g 20, g 21, g 22, g 23, g 24, g 25, g 26, g 27, g 28, g 29, g 30, g 31, g 32, g 33, g 34, g 35, g 36, g 37, g 38, g 39, g 40, g 41, g 42, g 43, g 44, g 45, g 46, g 47, g 48, g 49, g 50, g 51, g 52, g 53, g 54, g 55, g 56, g 57, g 58, g 59, g 60, g 61, g 62, g 63, g 64, g 65, g 66, g 67, g 68, g 69, g 70, g 71, g 72, g 73, g 74, g 75, g 76, g 77, g 78, g 79, g 80, g 81, g 82, g 83, g 84, g 85, g 86, g 87, g 88, g 89, g 90, g 91, g 92, g 93, g 94, g 95, g 96, g 97, g 98, g 99, g 100, g 101, g 102, g 103, g 104, g 105, g 106, g 107, g 108, g 109, g 110, g 111, g 112, g 113, g 114, g 115, g 116, g 117, g 118, g 119, g 120, g 121, g 122, g 123, g 124, g 125, g 126, g 127, g 128, g 129, g 130, g 131, g 132, g 133, g 134, g 135, g 136, g 137, g 138, g 139, g 140, g 141, g 142, g 143, g 144, g 145, g 146, g 147, g 148, g 149, g 150, g 151, g 152, g 153, g 154, g 155, g 156, g 157, g 158, g 159, g 160, g 161, g 162, g 163, g 164, g 165, g 166, g 167, g 168, g 169, g 170, g 171, g 172, g 173, g 174, g 175, g 176, g 177, g 178, g 179, g 180, g 181, g 182, g 183, g 184, g 185, g 186, g 187, g 188, g 189, g 190, g 191, g 192, g 193] := junk 194 j hj
  simp only [gXs,gT,gM,gL,gB,wantedA,evOp,opv,absC,absC0,isAggT,resA,resultA,binA,eqA,eqGuardA,isConstA,isFlatScalar,shiftOp,strOp,ordB,readN,sliceCells,lenA,storeA,newA,buildA,fillA,buildSliceA,boundsA,bndA,sliceA,ptrOK,fieldAddrA,fieldA,indexA,extractA,convA,isIntT,biA,bytesOf,setAll,List.replicate,Nat.reduceAdd,Nat.reduceSub,Nat.reduceMul,Nat.reduceLT,Nat.reduceLeDiff,Nat.reduceEqDiff,Int.reduceEq,Int.reduceLT,Int.reduceLE,Int.reduceNe,Int.reduceAdd,Nat.reduceBEq,reduceCtorEq,lenB_nil,lenB_slice,lenB_oslice,lenB_str,lenB_agg,indexAddrA_slice,indexAddrA_oslice,indexAddrA_ptr,indexAddrA_optr,loadA_ptr,loadA_optr,lenK,indexK,loadK,Int.reduceBEq,Int.reduceBNe,Int.reduceMod,Int.reduceDiv,Int.reduceTDiv,Int.reduceTMod,Int.reduceFDiv,Int.reduceSub,Int.reduceNeg,Int.reduceGT,Int.reduceGE,BitVec.reduceOfInt,BitVec.reduceAnd,BitVec.reduceOr,BitVec.reduceXOr,BitVec.reduceToNat,Int.reduceToNat,Int.reducePow,Int.reduceMul,hT.all]
  rw [xC_seq]
  simp only [gXs,gT,gM,gL,gB,wantedA,evOp,opv,absC,absC0,isAggT,resA,resultA,binA,eqA,eqGuardA,isConstA,isFlatScalar,shiftOp,strOp,ordB,readN,sliceCells,lenA,storeA,newA,buildA,fillA,buildSliceA,boundsA,bndA,sliceA,ptrOK,fieldAddrA,fieldA,indexA,extractA,convA,isIntT,biA,bytesOf,setAll,List.replicate,Nat.reduceAdd,Nat.reduceSub,Nat.reduceMul,Nat.reduceLT,Nat.reduceLeDiff,Nat.reduceEqDiff,Int.reduceEq,Int.reduceLT,Int.reduceLE,Int.reduceNe,Int.reduceAdd,Nat.reduceBEq,reduceCtorEq,lenB_nil,lenB_slice,lenB_oslice,lenB_str,lenB_agg,indexAddrA_slice,indexAddrA_oslice,indexAddrA_ptr,indexAddrA_optr,loadA_ptr,loadA_optr,lenK,indexK,loadK,Int.reduceBEq,Int.reduceBNe,Int.reduceMod,Int.reduceDiv,Int.reduceTDiv,Int.reduceTMod,Int.reduceFDiv,Int.reduceSub,Int.reduceNeg,Int.reduceGT,Int.reduceGE,BitVec.reduceOfInt,BitVec.reduceAnd,BitVec.reduceOr,BitVec.reduceXOr,BitVec.reduceToNat,Int.reduceToNat,Int.reducePow,Int.reduceMul,hT.all]
  refine hS.call (pLower M _) ?_
  rintro v h ⟨rfl, rfl⟩
  simp only [gXs,gT,gM,gL,gB,wantedA,evOp,opv,absC,absC0,isAggT,resA,resultA,binA,eqA,eqGuardA,isConstA,isFlatScalar,shiftOp,strOp,ordB,readN,sliceCells,lenA,storeA,newA,buildA,fillA,buildSliceA,boundsA,bndA,sliceA,ptrOK,fieldAddrA,fieldA,indexA,extractA,convA,isIntT,biA,bytesOf,setAll,List.replicate,Nat.reduceAdd,Nat.reduceSub,Nat.reduceMul,Nat.reduceLT,Nat.reduceLeDiff,Nat.reduceEqDiff,Int.reduceEq,Int.reduceLT,Int.reduceLE,Int.reduceNe,Int.reduceAdd,Nat.reduceBEq,reduceCtorEq,lenB_nil,lenB_slice,lenB_oslice,lenB_str,lenB_agg,indexAddrA_slice,indexAddrA_oslice,indexAddrA_ptr,indexAddrA_optr,loadA_ptr,loadA_optr,lenK,indexK,loadK,Int.reduceBEq,Int.reduceBNe,Int.reduceMod,Int.reduceDiv,Int.reduceTDiv,Int.reduceTMod,Int.reduceFDiv,Int.reduceSub,Int.reduceNeg,Int.reduceGT,Int.reduceGE,BitVec.reduceOfInt,BitVec.reduceAnd,BitVec.reduceOr,BitVec.reduceXOr,BitVec.reduceToNat,Int.reduceToNat,Int.reducePow,Int.reduceMul,hT.all]
  obtain ⟨n5, hn5⟩ : ∃ k, k = n + 1 := ⟨_, rfl⟩
  obtain ⟨H5, ap5, hB5⟩ := hB4.app hT (M := M) (n := n) (m := 1) (k := n5) (nb := [112]) hn rfl hn5 (by omega) (by omega)
  simp only [bC, List.map_cons, List.map_nil, Int.cast_ofNat_Int] at ap5
  have hn5' : n5 = (pr ++ [112]).length := by rw [List.length_append, ← hn]; exact hn5
  rw [xC_seq]
  simp only [gXs,gT,gM,gL,gB,wantedA,evOp,opv,absC,absC0,isAggT,resA,resultA,binA,eqA,eqGuardA,isConstA,isFlatScalar,shiftOp,strOp,ordB,readN,sliceCells,lenA,storeA,newA,buildA,fillA,buildSliceA,boundsA,bndA,sliceA,ptrOK,fieldAddrA,fieldA,indexA,extractA,convA,isIntT,biA,bytesOf,setAll,List.replicate,Nat.reduceAdd,Nat.reduceSub,Nat.reduceMul,Nat.reduceLT,Nat.reduceLeDiff,Nat.reduceEqDiff,Int.reduceEq,Int.reduceLT,Int.reduceLE,Int.reduceNe,Int.reduceAdd,Nat.reduceBEq,reduceCtorEq,lenB_nil,lenB_slice,lenB_oslice,lenB_str,lenB_agg,indexAddrA_slice,indexAddrA_oslice,indexAddrA_ptr,indexAddrA_optr,loadA_ptr,loadA_optr,lenK,indexK,loadK,Int.reduceBEq,Int.reduceBNe,Int.reduceMod,Int.reduceDiv,Int.reduceTDiv,Int.reduceTMod,Int.reduceFDiv,Int.reduceSub,Int.reduceNeg,Int.reduceGT,Int.reduceGE,BitVec.reduceOfInt,BitVec.reduceAnd,BitVec.reduceOr,BitVec.reduceXOr,BitVec.reduceToNat,Int.reduceToNat,Int.reducePow,Int.reduceMul,hT.all,ap5]
  obtain ⟨sg, hsg⟩ : ∃ sg : Nat, sg = if decide (ee < 0) then 45 else 43 := ⟨_, rfl⟩
  refine hS.cut (fun e h' => ∃ (jm j : List AV), e = .slice b 0 0 1 n5 (some 24) :: .int .i64 (-1) :: .int .u8 120 :: .bool neg :: x4 :: .int .i64 (q : Int) :: .int .i64 52 :: (jm ++ .int .u8 (sg : Int) :: j) ∧ jm.length = 12 ∧ j.length = 181 ∧ Bf h' b (pr ++ [112])) ?_ ?_
  · rw [xC_seq]
    by_cases he : ee < 0
    · have ng : IntKind.i64.wrap (0 - ee) = (q : Int) := by rw [wrap_i64 (by omega) (by omega)]; omega
      have d0 : decide (ee < 0) = true := decide_eq_true he
      rw [d0, if_pos rfl] at hsg
      subst hsg
      simp only [gXs,gT,gM,gL,gB,wantedA,evOp,opv,absC,absC0,isAggT,resA,resultA,binA,eqA,eqGuardA,isConstA,isFlatScalar,shiftOp,strOp,ordB,readN,sliceCells,lenA,storeA,newA,buildA,fillA,buildSliceA,boundsA,bndA,sliceA,ptrOK,fieldAddrA,fieldA,indexA,extractA,convA,isIntT,biA,bytesOf,setAll,List.replicate,Nat.reduceAdd,Nat.reduceSub,Nat.reduceMul,Nat.reduceLT,Nat.reduceLeDiff,Nat.reduceEqDiff,Int.reduceEq,Int.reduceLT,Int.reduceLE,Int.reduceNe,Int.reduceAdd,Nat.reduceBEq,reduceCtorEq,lenB_nil,lenB_slice,lenB_oslice,lenB_str,lenB_agg,indexAddrA_slice,indexAddrA_oslice,indexAddrA_ptr,indexAddrA_optr,loadA_ptr,loadA_optr,lenK,indexK,loadK,Int.reduceBEq,Int.reduceBNe,Int.reduceMod,Int.reduceDiv,Int.reduceTDiv,Int.reduceTMod,Int.reduceFDiv,Int.reduceSub,Int.reduceNeg,Int.reduceGT,Int.reduceGE,BitVec.reduceOfInt,BitVec.reduceAnd,BitVec.reduceOr,BitVec.reduceXOr,BitVec.reduceToNat,Int.reduceToNat,Int.reducePow,Int.reduceMul,hT.all,d0,ng]
      simp only [gX,gT,gM,gL,gB,wantedA,evOp,opv,absC,absC0,isAggT,resA,resultA,binA,eqA,eqGuardA,isConstA,isFlatScalar,shiftOp,strOp,ordB,readN,sliceCells,lenA,storeA,newA,buildA,fillA,buildSliceA,boundsA,bndA,sliceA,ptrOK,fieldAddrA,fieldA,indexA,extractA,convA,isIntT,biA,bytesOf,setAll,List.replicate,Nat.reduceAdd,Nat.reduceSub,Nat.reduceMul,Nat.reduceLT,Nat.reduceLeDiff,Nat.reduceEqDiff,Int.reduceEq,Int.reduceLT,Int.reduceLE,Int.reduceNe,Int.reduceAdd,Nat.reduceBEq,reduceCtorEq,lenB_nil,lenB_slice,lenB_oslice,lenB_str,lenB_agg,indexAddrA_slice,indexAddrA_oslice,indexAddrA_ptr,indexAddrA_optr,loadA_ptr,loadA_optr,lenK,indexK,loadK,Int.reduceBEq,Int.reduceBNe,Int.reduceMod,Int.reduceDiv,Int.reduceTDiv,Int.reduceTMod,Int.reduceFDiv,Int.reduceSub,Int.reduceNeg,Int.reduceGT,Int.reduceGE,BitVec.reduceOfInt,BitVec.reduceAnd,BitVec.reduceOr,BitVec.reduceXOr,BitVec.reduceToNat,Int.reduceToNat,Int.reducePow,Int.reduceMul,hT.all,ng]
      exact ⟨[_, _, _, _, _, _, _, _, _, _, _, _], _, rfl, rfl, by rfl, hB5⟩
    · have d0 : decide (ee < 0) = false := decide_eq_false he
      rw [d0, if_neg (by simp)] at hsg
      subst hsg
      obtain rfl : ee = (q : Int) := by omega
      simp only [gXs,gT,gM,gL,gB,wantedA,evOp,opv,absC,absC0,isAggT,resA,resultA,binA,eqA,eqGuardA,isConstA,isFlatScalar,shiftOp,strOp,ordB,readN,sliceCells,lenA,storeA,newA,buildA,fillA,buildSliceA,boundsA,bndA,sliceA,ptrOK,fieldAddrA,fieldA,indexA,extractA,convA,isIntT,biA,bytesOf,setAll,List.replicate,Nat.reduceAdd,Nat.reduceSub,Nat.reduceMul,Nat.reduceLT,Nat.reduceLeDiff,Nat.reduceEqDiff,Int.reduceEq,Int.reduceLT,Int.reduceLE,Int.reduceNe,Int.reduceAdd,Nat.reduceBEq,reduceCtorEq,lenB_nil,lenB_slice,lenB_oslice,lenB_str,lenB_agg,indexAddrA_slice,indexAddrA_oslice,indexAddrA_ptr,indexAddrA_optr,loadA_ptr,loadA_optr,lenK,indexK,loadK,Int.reduceBEq,Int.reduceBNe,Int.reduceMod,Int.reduceDiv,Int.reduceTDiv,Int.reduceTMod,Int.reduceFDiv,Int.reduceSub,Int.reduceNeg,Int.reduceGT,Int.reduceGE,BitVec.reduceOfInt,BitVec.reduceAnd,BitVec.reduceOr,BitVec.reduceXOr,BitVec.reduceToNat,Int.reduceToNat,Int.reducePow,Int.reduceMul,hT.all,d0]
      exact ⟨[_, _, _, _, _, _, _, _, _, _, _, _], _, rfl, rfl, by rfl, hB5⟩
  rintro e h' ⟨jm, j, rfl, hjm, hj, hB6⟩
  obtain ⟨g, rfl⟩ : ∃ g : Nat → AV, j = [g 0, g 1, g 2, g 3, g 4, g 5, g 6, g 7, g 8, g 9, g 10, g 11, g 12, g 13, g 14, g 15, g 16, g 17, g 18, g 19, g 20, g 21, g 22, g 23, g 24, g 25, g 26, g 27, g 28, g 29, g 30, g 31, g 32, g 33, g 34, g 35, g 36, g 37, g 38, g 39, g 40, g 41, g 42, g 43, g 44, g 45, g 46, g 47, g 48, g 49, g 50, g 51, g 52, g 53, g 54, g 55, g 56, g 57, g 58, g 59, g 60, g 61, g 62, g 63, g 64, g 65, g 66, g 67, g 68, g 69, g 70, g 71, g 72, g 73, g 74, g 75, g 76, g 77, g 78, g 79, g 80, g 81, g 82, g 83, g 84, g 85, g 86, g 87, g 88, g 89, g 90, g 91, g 92, g 93, g 94, g 95, g 96, g 97, g 98, g 99, g 100, g 101, g 102, g 103, g 104, g 105, g 106, g 107, g 108, g 109, g 110, g 111, g 112, g 113, g 114, g 115, g 116, g 117, g 118, g 119, g 120, g 121, g 122, g 123, g 124, g 125, g 126, g 127, g 128, g 129, g 130, g 131, g 132, g 133, g 134, g 135, g 136, g 137, g 138, g 139, g 140, g 141, g 142, g 143, g 144, g 145, g 146, g 147, g 148, g 149, g 150, g 151, g 152, g 153, g 154, g 155, g 156, g 157, g 158, g 159, g 160, g 161, g 162, g 163, g 164, g 165, g 166, g 167, g 168, g 169, g 170, g 171, g 172, g 173, g 174, g 175, g 176, g 177, g 178, g 179, g 180] := junk 181 j hj
  obtain ⟨gm, rfl⟩ : ∃ g : Nat → AV, jm = [g 0, g 1, g 2, g 3, g 4, g 5, g 6, g 7, g 8, g 9, g 10, g 11] := junk 12 jm hjm
  simp only [List.cons_append, List.nil_append]
  obtain ⟨n6, hn6⟩ : ∃ k, k = n5 + 1 := ⟨_, rfl⟩
  obtain ⟨H6, ap6, hB7⟩ := hB6.app hT (M := M) (n := n5) (m := 1) (k := n6) (nb := [sg]) hn5' rfl hn6 (by omega) (by omega)
  simp only [bC, List.map_cons, List.map_nil] at ap6
  have hn6' : n6 = (pr ++ [112] ++ [sg]).length := by rw [List.length_append, ← hn5']; exact hn6
  rw [xC_seq]
  simp only [gXs,gT,gM,gL,gB,wantedA,evOp,opv,absC,absC0,isAggT,resA,resultA,binA,eqA,eqGuardA,isConstA,isFlatScalar,shiftOp,strOp,ordB,readN,sliceCells,lenA,storeA,newA,buildA,fillA,buildSliceA,boundsA,bndA,sliceA,ptrOK,fieldAddrA,fieldA,indexA,extractA,convA,isIntT,biA,bytesOf,setAll,List.replicate,Nat.reduceAdd,Nat.reduceSub,Nat.reduceMul,Nat.reduceLT,Nat.reduceLeDiff,Nat.reduceEqDiff,Int.reduceEq,Int.reduceLT,Int.reduceLE,Int.reduceNe,Int.reduceAdd,Nat.reduceBEq,reduceCtorEq,lenB_nil,lenB_slice,lenB_oslice,lenB_str,lenB_agg,indexAddrA_slice,indexAddrA_oslice,indexAddrA_ptr,indexAddrA_optr,loadA_ptr,loadA_optr,lenK,indexK,loadK,Int.reduceBEq,Int.reduceBNe,Int.reduceMod,Int.reduceDiv,Int.reduceTDiv,Int.reduceTMod,Int.reduceFDiv,Int.reduceSub,Int.reduceNeg,Int.reduceGT,Int.reduceGE,BitVec.reduceOfInt,BitVec.reduceAnd,BitVec.reduceOr,BitVec.reduceXOr,BitVec.reduceToNat,Int.reduceToNat,Int.reducePow,Int.reduceMul,hT.all,ap6]
  have hout2 : pr ++ [112] ++ expN (decide (ee < 0)) q = pr ++ [112] ++ [sg] ++ dgN q := by
    rw [expN, ← hsg]; simp
  rw [hout2]
  have hq9 : q ≤ 1100 := by omega
  clear hout2 hB4 hB5 hB6 ap5 ap6
  obtain ⟨c1, c2, c3, c4, c5, c6⟩ := exp_cells q (by omega)
  obtain ⟨x1, x2, x3⟩ := dg_wrap (a := q / 10) (by omega)
  obtain ⟨y1, y2, y3⟩ := dg_wrap (a := q % 10) (by omega)
  by_cases l1 : q < 100
  · have b1 : decide ((q : Int) < 100) = true := decide_eq_true (by omega)
    have hd : dgN q = [q / 10 + 48, q % 10 + 48] := if_pos l1
    rw [hd]
    obtain ⟨n7, hn7⟩ : ∃ k, k = n6 + 2 := ⟨_, rfl⟩
    obtain ⟨H7, ap7, hB8⟩ := hB7.app hT (M := M) (n := n6) (m := 2) (k := n7) (nb := [q / 10 + 48, q % 10 + 48]) hn6' rfl hn7 (by omega) (by omega)
    simp only [bC, List.map_cons, List.map_nil] at ap7
    simp only [gX,gT,gM,gL,gB,wantedA,evOp,opv,absC,absC0,isAggT,resA,resultA,binA,eqA,eqGuardA,isConstA,isFlatScalar,shiftOp,strOp,ordB,readN,sliceCells,lenA,storeA,newA,buildA,fillA,buildSliceA,boundsA,bndA,sliceA,ptrOK,fieldAddrA,fieldA,indexA,extractA,convA,isIntT,biA,bytesOf,setAll,List.replicate,Nat.reduceAdd,Nat.reduceSub,Nat.reduceMul,Nat.reduceLT,Nat.reduceLeDiff,Nat.reduceEqDiff,Int.reduceEq,Int.reduceLT,Int.reduceLE,Int.reduceNe,Int.reduceAdd,Nat.reduceBEq,reduceCtorEq,lenB_nil,lenB_slice,lenB_oslice,lenB_str,lenB_agg,indexAddrA_slice,indexAddrA_oslice,indexAddrA_ptr,indexAddrA_optr,loadA_ptr,loadA_optr,lenK,indexK,loadK,Int.reduceBEq,Int.reduceBNe,Int.reduceMod,Int.reduceDiv,Int.reduceTDiv,Int.reduceTMod,Int.reduceFDiv,Int.reduceSub,Int.reduceNeg,Int.reduceGT,Int.reduceGE,BitVec.reduceOfInt,BitVec.reduceAnd,BitVec.reduceOr,BitVec.reduceXOr,BitVec.reduceToNat,Int.reduceToNat,Int.reducePow,Int.reduceMul,hT.all,b1,c1,c2,x1,x2,x3,y1,y2,y3,ap7]
    exact ⟨n7, rfl, by (rw [hn7, hn6']; simp), by simpa using hB8⟩
  have b1 : decide ((q : Int) < 100) = false := decide_eq_false (by omega)
  obtain ⟨z1, z2, z3⟩ := dg_wrap (a := q / 100) (by omega)
  obtain ⟨u1, u2, u3⟩ := dg_wrap (a := q / 10 % 10) (by omega)
  by_cases l2 : q < 1000
  · have b2 : decide ((q : Int) < 1000) = true := decide_eq_true (by omega)
    have hd : dgN q = [q / 100 + 48, q / 10 % 10 + 48, q % 10 + 48] := (if_neg l1).trans (if_pos l2)
    rw [hd]
    obtain ⟨n7, hn7⟩ : ∃ k, k = n6 + 3 := ⟨_, rfl⟩
    obtain ⟨H7, ap7, hB8⟩ := hB7.app hT (M := M) (n := n6) (m := 3) (k := n7) (nb := [q / 100 + 48, q / 10 % 10 + 48, q % 10 + 48]) hn6' rfl hn7 (by omega) (by omega)
    simp only [bC, List.map_cons, List.map_nil] at ap7
    simp only [gX,gT,gM,gL,gB,wantedA,evOp,opv,absC,absC0,isAggT,resA,resultA,binA,eqA,eqGuardA,isConstA,isFlatScalar,shiftOp,strOp,ordB,readN,sliceCells,lenA,storeA,newA,buildA,fillA,buildSliceA,boundsA,bndA,sliceA,ptrOK,fieldAddrA,fieldA,indexA,extractA,convA,isIntT,biA,bytesOf,setAll,List.replicate,Nat.reduceAdd,Nat.reduceSub,Nat.reduceMul,Nat.reduceLT,Nat.reduceLeDiff,Nat.reduceEqDiff,Int.reduceEq,Int.reduceLT,Int.reduceLE,Int.reduceNe,Int.reduceAdd,Nat.reduceBEq,reduceCtorEq,lenB_nil,lenB_slice,lenB_oslice,lenB_str,lenB_agg,indexAddrA_slice,indexAddrA_oslice,indexAddrA_ptr,indexAddrA_optr,loadA_ptr,loadA_optr,lenK,indexK,loadK,Int.reduceBEq,Int.reduceBNe,Int.reduceMod,Int.reduceDiv,Int.reduceTDiv,Int.reduceTMod,Int.reduceFDiv,Int.reduceSub,Int.reduceNeg,Int.reduceGT,Int.reduceGE,BitVec.reduceOfInt,BitVec.reduceAnd,BitVec.reduceOr,BitVec.reduceXOr,BitVec.reduceToNat,Int.reduceToNat,Int.reducePow,Int.reduceMul,hT.all,b1,b2,c1,c2,c3,c5,x1,x2,x3,y1,y2,y3,z1,z2,z3,u1,u2,u3,ap7]
    exact ⟨n7, rfl, by (rw [hn7, hn6']; simp), by simpa using hB8⟩
  have b2 : decide ((q : Int) < 1000) = false := decide_eq_false (by omega)
  obtain ⟨s1, s2, s3⟩ := dg_wrap (a := q / 1000) (by omega)
  obtain ⟨t1, t2, t3⟩ := dg_wrap (a := q / 100 % 10) (by omega)
  have hd : dgN q = [q / 1000 + 48, q / 100 % 10 + 48, q / 10 % 10 + 48, q % 10 + 48] := (if_neg l1).trans (if_neg l2)
  rw [hd]
  obtain ⟨n7, hn7⟩ : ∃ k, k = n6 + 4 := ⟨_, rfl⟩
  obtain ⟨H7, ap7, hB8⟩ := hB7.app hT (M := M) (n := n6) (m := 4) (k := n7) (nb := [q / 1000 + 48, q / 100 % 10 + 48, q / 10 % 10 + 48, q % 10 + 48]) hn6' rfl hn7 (by omega) (by omega)
  simp only [bC, List.map_cons, List.map_nil] at ap7
  simp only [gX,gT,gM,gL,gB,wantedA,evOp,opv,absC,absC0,isAggT,resA,resultA,binA,eqA,eqGuardA,isConstA,isFlatScalar,shiftOp,strOp,ordB,readN,sliceCells,lenA,storeA,newA,buildA,fillA,buildSliceA,boundsA,bndA,sliceA,ptrOK,fieldAddrA,fieldA,indexA,extractA,convA,isIntT,biA,bytesOf,setAll,List.replicate,Nat.reduceAdd,Nat.reduceSub,Nat.reduceMul,Nat.reduceLT,Nat.reduceLeDiff,Nat.reduceEqDiff,Int.reduceEq,Int.reduceLT,Int.reduceLE,Int.reduceNe,Int.reduceAdd,Nat.reduceBEq,reduceCtorEq,lenB_nil,lenB_slice,lenB_oslice,lenB_str,lenB_agg,indexAddrA_slice,indexAddrA_oslice,indexAddrA_ptr,indexAddrA_optr,loadA_ptr,loadA_optr,lenK,indexK,loadK,Int.reduceBEq,Int.reduceBNe,Int.reduceMod,Int.reduceDiv,Int.reduceTDiv,Int.reduceTMod,Int.reduceFDiv,Int.reduceSub,Int.reduceNeg,Int.reduceGT,Int.reduceGE,BitVec.reduceOfInt,BitVec.reduceAnd,BitVec.reduceOr,BitVec.reduceXOr,BitVec.reduceToNat,Int.reduceToNat,Int.reducePow,Int.reduceMul,hT.all,b1,b2,c1,c2,c3,c4,c5,c6,x1,x2,x3,y1,y2,y3,z1,z2,z3,u1,u2,u3,s1,s2,s3,t1,t2,t3,ap7]
  exact ⟨n7, rfl, by (rw [hn7, hn6']; simp), by simpa using hB8⟩

end Go.Proofs.YtpddepehlinfnaaGreatDoor.B
