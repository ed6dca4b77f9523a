/- Part of a claim: the library makes a float out of digits of base 16. -/
import Derived.Test.YtpddepehlinfnaaGreatDoorPQ2
set_option linter.unusedSimpArgs false
set_option linter.unusedVariables false
set_option maxRecDepth 100000
set_option maxHeartbeats 10000000
namespace Go.Proofs.YtpddepehlinfnaaGreatDoor.B
open Go Go.RowKit Go.Proofs.YtpddepehlinfnaaGreatDoor.E Go.Proofs.YtpddepehlinfnaaGreatDoor.FL

theorem kFrom (M : Addr → Option AV) (H : Heap) (n : Nat) : SemF Tryz.prog M 176 [.int .u64 n] H fun v h => v = .float .f64 n ∧ h = H :=
  X0_ok M 176 _ rfl _ _ _ _ (by simp only [unbitsX, if_true, Int.toNat_natCast])

theorem or_zero64 {n : Nat} (h : n < 18446744073709551616) : IntKind.u64.wrap (((BitVec.ofInt 64 (n : Int)) ||| 0#64).toNat : Int) = (n : Nat) := by
  rw [BitVec.or_zero, ofInt_nat, BitVec.toNat_ofNat, Nat.mod_eq_of_lt (by omega), wU]
  omega
theorem zero_or64 {n : Nat} (h : n < 18446744073709551616) : IntKind.u64.wrap ((0#64 ||| (BitVec.ofInt 64 (n : Int))).toNat : Int) = (n : Nat) := by
  rw [BitVec.or_comm]; exact or_zero64 h
theorem or63 {n : Nat} (h : n < 9223372036854775808) : IntKind.u64.wrap (((BitVec.ofInt 64 (n : Int)) ||| 9223372036854775808#64).toNat : Int) = (9223372036854775808 + n : Nat) := by
  have := or64 (k := 63) (a := 1) (b := n) (by omega) (by omega) (by omega)
  rw [show ((1 * 2 ^ 63 : Nat) : Int) = 9223372036854775808 by decide, show BitVec.ofInt 64 (9223372036854775808 : Int) = 9223372036854775808#64 by decide, BitVec.or_comm] at this
  rw [this]
theorem and3 {n : Nat} (h : n < 18446744073709551616) : IntKind.u64.wrap (((BitVec.ofInt 64 (n : Int)) &&& 3#64).toNat : Int) = (n % 4 : Nat) := by
  have := and64 (b := 3) h (by omega)
  rw [show BitVec.ofInt 64 ((3 : Nat) : Int) = 3#64 by decide] at this
  rw [this, show (3 : Nat) = 2 ^ 2 - 1 by decide, Nat.and_two_pow_sub_one_eq_mod]

theorem pHex (M : Addr → Option AV) (hM : ∀ a v, tabM a = some v → M a = some v) (H : Heap) {s : List UInt8} {n r K N q m : Nat} {e0 : Int} (hn : n < 18446744073709551616) (hr : r = n % 9223372036854775808) (h0 : r ≠ 0) (hf : r < 9218868437227405312)
    (hm : magOf r * 2 ^ N = K) (hK1 : 4503599627370496 ≤ K) (hK2 : K < 9007199254740992) (hN : N ≤ 52) (hq : m * 2 ^ q = K * 4) (hq2 : q ≤ 60) (he : e0 = (upOf r : Int) - 1076 - N + q) :
    SemF Tryz.prog M 168 [.str s, .optr ⟨8, 0, none⟩, .int .u64 (m : Int), .int .i64 e0, .bool (decide (9223372036854775808 ≤ n)), .bool false] H fun v h => v = .tup [.float .f64 n, .nilIface] ∧ h = H := by
  have m0 : M ⟨8, 0, none⟩ = some (.int .u64 52) := hM _ _ rfl
  have m1 : M ⟨8, 0 + 1, none⟩ = some (.int .u64 11) := hM _ _ rfl
  have m2 : M ⟨8, 0 + 2, none⟩ = some (.int .i64 (-1023)) := hM _ _ rfl
  have hup : upOf r ≤ 2045 := by unfold upOf; split <;> omega
  have hmg : magOf r < 9007199254740992 := by unfold magOf; split <;> omega
  have hmg0 : magOf r ≠ 0 := by unfold magOf; split <;> omega
  have hNu : N = 0 ∨ upOf r = 0 := by
    by_cases c : r < 4503599627370496
    · right; unfold upOf; rw [if_pos c]
    · left
      rcases Nat.eq_zero_or_pos N with h | h
      · exact h
      · exfalso
        have h1 : 4503599627370496 ≤ magOf r := by unfold magOf; rw [if_neg c]; omega
        obtain ⟨k, rfl⟩ : ∃ k, N = k + 1 := ⟨N - 1, by omega⟩
        have h2 := Nat.two_pow_pos k
        rw [Nat.pow_succ, Nat.mul_comm (2 ^ k), ← Nat.mul_assoc] at hm
        have h3 : magOf r * 2 ≤ magOf r * 2 * 2 ^ k := Nat.le_mul_of_pos_right _ h2
        omega
  have hparts : magOf r % 4503599627370496 = r % 4503599627370496 ∧ (magOf r / 4503599627370496 = 0 ↔ r < 4503599627370496) ∧ (4503599627370496 ≤ r → upOf r + 1 = r / 4503599627370496) := by
    unfold magOf upOf
    by_cases c : r < 4503599627370496
    · rw [if_pos c, if_pos c]; omega
    · rw [if_neg c, if_neg c]; omega
  obtain ⟨mg, hmgE⟩ : ∃ mg, mg = magOf r := ⟨_, rfl⟩
  obtain ⟨up, hupE⟩ : ∃ up, up = upOf r := ⟨_, rfl⟩
  rw [← hmgE] at hm hmg hmg0 hparts
  rw [← hupE] at he hup hNu hparts
  obtain ⟨ng, hng⟩ : ∃ ng, ng = decide (9223372036854775808 ≤ n) := ⟨_, rfl⟩
  rw [← hng]
  have w54 : IntKind.u64.wrap 54 = 54 := rfl
  have w53 : IntKind.u64.wrap 53 = 53 := rfl
  have w55 : IntKind.u64.wrap 55 = 55 := rfl
  have w52 : IntKind.i64.wrap 52 = 52 := rfl
  have v11 : shiftOp .shl .i64 1 11 = some (.int .i64 2048) := rfl
  have v52 : shiftOp .shl .u64 1 52 = some (.int .u64 4503599627370496) := rfl
  have v63 : shiftOp .shl .u64 4503599627370496 11 = some (.int .u64 9223372036854775808) := rfl
  have w1025 : IntKind.i64.wrap 1025 = 1025 := rfl
  have w1023 : IntKind.i64.wrap 1023 = 1023 := rfl
  have wm1022 : IntKind.i64.wrap (-1022) = -1022 := rfl
  have wm1024 : IntKind.i64.wrap (-1024) = -1024 := rfl
  have wmsk : IntKind.u64.wrap 4503599627370495 = 4503599627370495 := rfl
  have w2047 : IntKind.i64.wrap 2047 = 2047 := rfl
  have ie : IntKind.i64.wrap (e0 + 52) = (up : Int) - 1024 - N + q := by rw [wrap_i64 (by omega) (by omega)]; omega
  refine fpure rfl rfl (fw Tryz.func168 (by kernel_rfl) rfl (by kernel_rfl) fun C L T hT hS => ?_) H
  have l0 : ∀ H, loadA T M H 71 (.optr (Addr.add ⟨8, 0, none⟩ 0)) = some (.int .u64 52) := fun H => by
    simp only [loadA, hT.ty71]
    simp [readN, Mc, Addr.add, m0, isAggT, List.range, List.range.loop]
  have l1 : ∀ H, loadA T M H 71 (.optr (Addr.add ⟨8, 0, none⟩ 1)) = some (.int .u64 11) := fun H => by
    simp only [loadA, hT.ty71]
    simp [readN, Mc, Addr.add, m1, isAggT, List.range, List.range.loop]
  have l2 : ∀ H, loadA T M H 3 (.optr (Addr.add ⟨8, 0, none⟩ 2)) = some (.int .i64 (-1023)) := fun H => by
    simp only [loadA, hT.ty3]
    simp [readN, Mc, Addr.add, m2, isAggT, List.range, List.range.loop]
  simp only [gX,gT,gM,gL,gB,wantedA,evOp,opv,absC,absC0,isAggT,resA,resultA,binA,eqA,eqGuardA,isConstA,isFlatScalar,strOp,ordB,readN,sliceCells,lenA,storeA,newA,buildA,fillA,buildSliceA,boundsA,bndA,sliceA,ptrOK,fieldAddrA,fieldA,indexA,extractA,convA,isIntT,biA,bytesOf,setAll,List.replicate,Nat.reduceAdd,Nat.reduceSub,Nat.reduceMul,Nat.reduceLT,Nat.reduceLeDiff,Nat.reduceEqDiff,Int.reduceEq,Int.reduceLT,Int.reduceLE,Int.reduceNe,Int.reduceAdd,Nat.reduceBEq,reduceCtorEq,lenB_nil,lenB_slice,lenB_oslice,lenB_str,lenB_agg,indexAddrA_slice,indexAddrA_oslice,indexAddrA_ptr,indexAddrA_optr,loadA_ptr,lenK,indexK,loadK,Int.reduceBEq,Int.reduceBNe,Int.reduceMod,Int.reduceDiv,Int.reduceTDiv,Int.reduceTMod,Int.reduceFDiv,Int.reduceSub,Int.reduceNeg,Int.reduceGT,Int.reduceGE,BitVec.reduceOfInt,BitVec.reduceAnd,BitVec.reduceOr,BitVec.reduceXOr,BitVec.reduceToNat,Int.reduceToNat,Int.reducePow,Int.reduceMul,hT.all,Tryz.f168,l0,l1,l2,v11,w1025,w1023,wm1022,w52,ie]
  -- up to 55 bits
  refine hS.loop (fun k e h => ∃ (mm : Nat) (ee : Int) (jm j : List AV), e = .str s :: .optr ⟨8, 0, none⟩ :: .int .u64 (mm : Int) :: .int .i64 ee :: .bool ng :: .bool false :: (jm ++ .int .i64 1023 :: .int .i64 (-1022) :: j) ∧ jm.length = 8 ∧ j.length = 176 ∧ mm * 2 ^ k = K * 4 ∧ ee = (up : Int) - 1024 - N + k ∧ k ≤ 60 ∧ h = []) q ⟨m, _, [_, _, _, _, _, _, _, _], _, rfl, rfl, rfl, hq, rfl, hq2, rfl⟩ ?_
  rintro k e h ⟨mm, ee, jm, j, rfl, hjm, hj, hmm, hee, hk60, rfl⟩ J hJ
  have hmm0 : mm ≠ 0 := by rintro rfl; rw [Nat.zero_mul] at hmm; omega
  have hmmK : mm ≤ K * 4 := by rw [← hmm]; exact Nat.le_mul_of_pos_right _ (Nat.two_pow_pos _)
  have bn : ((mm : Int) != 0) = true := by rw [bne_iff_ne]; omega
  have v54 : shiftOp .shr .u64 (mm : Int) 54 = some (.int .u64 ((mm / 18014398509481984 : Nat) : Int)) := by
    have := shrU (a := mm) (n := 54) (by omega)
    rw [show 2 ^ 54 = 18014398509481984 by decide] at this
    exact this
  by_cases hk0 : k = 0
  rotate_left
  · obtain ⟨k, rfl⟩ : ∃ i, k = i + 1 := ⟨k - 1, by omega⟩
    have hlt : mm * 2 < 36028797018963968 := by
      have : mm * 2 ≤ K * 4 := by
        rw [← hmm, Nat.pow_succ, Nat.mul_comm (2 ^ k), ← Nat.mul_assoc]
        exact Nat.le_mul_of_pos_right _ (Nat.two_pow_pos _)
      omega
    have b2 : (((mm / 18014398509481984 : Nat) : Int) == 0) = true := by rw [beq_iff_eq]; omega
    have vs : shiftOp .shl .u64 (mm : Int) 1 = some (.int .u64 ((mm * 2 : Nat) : Int)) := shlU (a := mm) (n := 1) (by omega) (by omega)
    have i1 : IntKind.i64.wrap (ee - 1) = ee - 1 := wrap_i64 (by omega) (by omega)
    obtain ⟨g, rfl⟩ : ∃ g : Nat → AV, j = [g 0, g 1, g 2, g 3, g 4, g 5, g 6, g 7, g 8, g 9, g 10, g 11, g 12, g 13, g 14, g 15, g 16, g 17, g 18, g 19, g 20, g 21, g 22, g 23, g 24, g 25, g 26, g 27, g 28, g 29, g 30, g 31, g 32, g 33, g 34, g 35, g 36, g 37, g 38, g 39, g 40, g 41, g 42, g 43, g 44, g 45, g 46, g 47, g 48, g 49, g 50, g 51, g 52, g 53, g 54, g 55, g 56, g 57, g 58, g 59, g 60, g 61, g 62, g 63, g 64, g 65, g 66, g 67, g 68, g 69, g 70, g 71, g 72, g 73, g 74, g 75, g 76, g 77, g 78, g 79, g 80, g 81, g 82, g 83, g 84, g 85, g 86, g 87, g 88, g 89, g 90, g 91, g 92, g 93, g 94, g 95, g 96, g 97, g 98, g 99, g 100, g 101, g 102, g 103, g 104, g 105, g 106, g 107, g 108, g 109, g 110, g 111, g 112, g 113, g 114, g 115, g 116, g 117, g 118, g 119, g 120, g 121, g 122, g 123, g 124, g 125, g 126, g 127, g 128, g 129, g 130, g 131, g 132, g 133, g 134, g 135, g 136, g 137, g 138, g 139, g 140, g 141, g 142, g 143, g 144, g 145, g 146, g 147, g 148, g 149, g 150, g 151, g 152, g 153, g 154, g 155, g 156, g 157, g 158, g 159, g 160, g 161, g 162, g 163, g 164, g 165, g 166, g 167, g 168, g 169, g 170, g 171, g 172, g 173, g 174, g 175] := junk 176 j hj
    obtain ⟨gm, rfl⟩ : ∃ g : Nat → AV, jm = [g 0, g 1, g 2, g 3, g 4, g 5, g 6, g 7] := junk 8 jm hjm
    simp only [List.cons_append, List.nil_append]
    simp only [gX,gT,gM,gL,gB,wantedA,evOp,opv,absC,absC0,isAggT,resA,resultA,binA,eqA,eqGuardA,isConstA,isFlatScalar,strOp,ordB,readN,sliceCells,lenA,storeA,newA,buildA,fillA,buildSliceA,boundsA,bndA,sliceA,ptrOK,fieldAddrA,fieldA,indexA,extractA,convA,isIntT,biA,bytesOf,setAll,List.replicate,Nat.reduceAdd,Nat.reduceSub,Nat.reduceMul,Nat.reduceLT,Nat.reduceLeDiff,Nat.reduceEqDiff,Int.reduceEq,Int.reduceLT,Int.reduceLE,Int.reduceNe,Int.reduceAdd,Nat.reduceBEq,reduceCtorEq,lenB_nil,lenB_slice,lenB_oslice,lenB_str,lenB_agg,indexAddrA_slice,indexAddrA_oslice,indexAddrA_ptr,indexAddrA_optr,loadA_ptr,lenK,indexK,loadK,Int.reduceBEq,Int.reduceBNe,Int.reduceMod,Int.reduceDiv,Int.reduceTDiv,Int.reduceTMod,Int.reduceFDiv,Int.reduceSub,Int.reduceNeg,Int.reduceGT,Int.reduceGE,BitVec.reduceOfInt,BitVec.reduceAnd,BitVec.reduceOr,BitVec.reduceXOr,BitVec.reduceToNat,Int.reduceToNat,Int.reducePow,Int.reduceMul,hT.all,bn,l0,w54,v54,b2,vs,i1]
    refine hJ k _ _ _ (by omega) (Weak.refl _) ⟨mm * 2, ee - 1, [_, _, _, _, _, _, _, _], _, rfl, rfl, ?_, by rw [← hmm, Nat.pow_succ, Nat.mul_comm (2 ^ k), Nat.mul_assoc], by omega, by omega, rfl⟩
    rfl
  subst hk0
  rw [Nat.pow_zero, Nat.mul_one] at hmm
  have b2 : (((mm / 18014398509481984 : Nat) : Int) == 0) = false := by rw [beq_eq_false_iff_ne]; omega
  have v55 : shiftOp .shr .u64 (mm : Int) 55 = some (.int .u64 0) := by
    have := shrU (a := mm) (n := 55) (by omega)
    rw [show 2 ^ 55 = 36028797018963968 by decide, show mm / 36028797018963968 = 0 by omega] at this
    exact this
  clear hJ
  obtain ⟨g, rfl⟩ : ∃ g : Nat → AV, j = [g 0, g 1, g 2, g 3, g 4, g 5, g 6, g 7, g 8, g 9, g 10, g 11, g 12, g 13, g 14, g 15, g 16, g 17, g 18, g 19, g 20, g 21, g 22, g 23, g 24, g 25, g 26, g 27, g 28, g 29, g 30, g 31, g 32, g 33, g 34, g 35, g 36, g 37, g 38, g 39, g 40, g 41, g 42, g 43, g 44, g 45, g 46, g 47, g 48, g 49, g 50, g 51, g 52, g 53, g 54, g 55, g 56, g 57, g 58, g 59, g 60, g 61, g 62, g 63, g 64, g 65, g 66, g 67, g 68, g 69, g 70, g 71, g 72, g 73, g 74, g 75, g 76, g 77, g 78, g 79, g 80, g 81, g 82, g 83, g 84, g 85, g 86, g 87, g 88, g 89, g 90, g 91, g 92, g 93, g 94, g 95, g 96, g 97, g 98, g 99, g 100, g 101, g 102, g 103, g 104, g 105, g 106, g 107, g 108, g 109, g 110, g 111, g 112, g 113, g 114, g 115, g 116, g 117, g 118, g 119, g 120, g 121, g 122, g 123, g 124, g 125, g 126, g 127, g 128, g 129, g 130, g 131, g 132, g 133, g 134, g 135, g 136, g 137, g 138, g 139, g 140, g 141, g 142, g 143, g 144, g 145, g 146, g 147, g 148, g 149, g 150, g 151, g 152, g 153, g 154, g 155, g 156, g 157, g 158, g 159, g 160, g 161, g 162, g 163, g 164, g 165, g 166, g 167, g 168, g 169, g 170, g 171, g 172, g 173, g 174, g 175] := junk 176 j hj
  obtain ⟨gm, rfl⟩ : ∃ g : Nat → AV, jm = [g 0, g 1, g 2, g 3, g 4, g 5, g 6, g 7] := junk 8 jm hjm
  simp only [List.cons_append, List.nil_append]
  simp only [gX,gT,gM,gL,gB,wantedA,evOp,opv,absC,absC0,isAggT,resA,resultA,binA,eqA,eqGuardA,isConstA,isFlatScalar,strOp,ordB,readN,sliceCells,lenA,storeA,newA,buildA,fillA,buildSliceA,boundsA,bndA,sliceA,ptrOK,fieldAddrA,fieldA,indexA,extractA,convA,isIntT,biA,bytesOf,setAll,List.replicate,Nat.reduceAdd,Nat.reduceSub,Nat.reduceMul,Nat.reduceLT,Nat.reduceLeDiff,Nat.reduceEqDiff,Int.reduceEq,Int.reduceLT,Int.reduceLE,Int.reduceNe,Int.reduceAdd,Nat.reduceBEq,reduceCtorEq,lenB_nil,lenB_slice,lenB_oslice,lenB_str,lenB_agg,indexAddrA_slice,indexAddrA_oslice,indexAddrA_ptr,indexAddrA_optr,loadA_ptr,lenK,indexK,loadK,Int.reduceBEq,Int.reduceBNe,Int.reduceMod,Int.reduceDiv,Int.reduceTDiv,Int.reduceTMod,Int.reduceFDiv,Int.reduceSub,Int.reduceNeg,Int.reduceGT,Int.reduceGE,BitVec.reduceOfInt,BitVec.reduceAnd,BitVec.reduceOr,BitVec.reduceXOr,BitVec.reduceToNat,Int.reduceToNat,Int.reducePow,Int.reduceMul,hT.all,bn,l0,w54,v54,b2]
  -- not too many
  subst hmm
  obtain ⟨w, hw⟩ : ∃ w, w = K * 4 := ⟨_, rfl⟩
  rw [← hw] at v54 v55 b2 bn ⊢
  clear hmm0 hmmK
  refine hS.loop (fun k e h => ∃ (jm j : List AV), e = .str s :: .optr ⟨8, 0, none⟩ :: .int .u64 (w : Int) :: .int .i64 ee :: .bool ng :: .bool false :: (jm ++ .int .i64 1023 :: .int .i64 (-1022) :: j) ∧ jm.length = 8 ∧ j.length = 176 ∧ h = []) 0 ⟨[_, _, _, _, _, _, _, _], _, rfl, rfl, rfl, rfl⟩ ?_
  rintro k e h ⟨jm, j, rfl, hjm, hj, rfl⟩ J hJ
  clear hJ
  obtain ⟨g, rfl⟩ : ∃ g : Nat → AV, j = [g 0, g 1, g 2, g 3, g 4, g 5, g 6, g 7, g 8, g 9, g 10, g 11, g 12, g 13, g 14, g 15, g 16, g 17, g 18, g 19, g 20, g 21, g 22, g 23, g 24, g 25, g 26, g 27, g 28, g 29, g 30, g 31, g 32, g 33, g 34, g 35, g 36, g 37, g 38, g 39, g 40, g 41, g 42, g 43, g 44, g 45, g 46, g 47, g 48, g 49, g 50, g 51, g 52, g 53, g 54, g 55, g 56, g 57, g 58, g 59, g 60, g 61, g 62, g 63, g 64, g 65, g 66, g 67, g 68, g 69, g 70, g 71, g 72, g 73, g 74, g 75, g 76, g 77, g 78, g 79, g 80, g 81, g 82, g 83, g 84, g 85, g 86, g 87, g 88, g 89, g 90, g 91, g 92, g 93, g 94, g 95, g 96, g 97, g 98, g 99, g 100, g 101, g 102, g 103, g 104, g 105, g 106, g 107, g 108, g 109, g 110, g 111, g 112, g 113, g 114, g 115, g 116, g 117, g 118, g 119, g 120, g 121, g 122, g 123, g 124, g 125, g 126, g 127, g 128, g 129, g 130, g 131, g 132, g 133, g 134, g 135, g 136, g 137, g 138, g 139, g 140, g 141, g 142, g 143, g 144, g 145, g 146, g 147, g 148, g 149, g 150, g 151, g 152, g 153, g 154, g 155, g 156, g 157, g 158, g 159, g 160, g 161, g 162, g 163, g 164, g 165, g 166, g 167, g 168, g 169, g 170, g 171, g 172, g 173, g 174, g 175] := junk 176 j hj
  obtain ⟨gm, rfl⟩ : ∃ g : Nat → AV, jm = [g 0, g 1, g 2, g 3, g 4, g 5, g 6, g 7] := junk 8 jm hjm
  simp only [List.cons_append, List.nil_append]
  simp only [gX,gT,gM,gL,gB,wantedA,evOp,opv,absC,absC0,isAggT,resA,resultA,binA,eqA,eqGuardA,isConstA,isFlatScalar,strOp,ordB,readN,sliceCells,lenA,storeA,newA,buildA,fillA,buildSliceA,boundsA,bndA,sliceA,ptrOK,fieldAddrA,fieldA,indexA,extractA,convA,isIntT,biA,bytesOf,setAll,List.replicate,Nat.reduceAdd,Nat.reduceSub,Nat.reduceMul,Nat.reduceLT,Nat.reduceLeDiff,Nat.reduceEqDiff,Int.reduceEq,Int.reduceLT,Int.reduceLE,Int.reduceNe,Int.reduceAdd,Nat.reduceBEq,reduceCtorEq,lenB_nil,lenB_slice,lenB_oslice,lenB_str,lenB_agg,indexAddrA_slice,indexAddrA_oslice,indexAddrA_ptr,indexAddrA_optr,loadA_ptr,lenK,indexK,loadK,Int.reduceBEq,Int.reduceBNe,Int.reduceMod,Int.reduceDiv,Int.reduceTDiv,Int.reduceTMod,Int.reduceFDiv,Int.reduceSub,Int.reduceNeg,Int.reduceGT,Int.reduceGE,BitVec.reduceOfInt,BitVec.reduceAnd,BitVec.reduceOr,BitVec.reduceXOr,BitVec.reduceToNat,Int.reduceToNat,Int.reducePow,Int.reduceMul,hT.all,l0,w53,w55,v55]
  -- a small one is shifted back
  refine hS.loop (fun k e h => ∃ (mm : Nat) (ee : Int) (jm j : List AV), e = .str s :: .optr ⟨8, 0, none⟩ :: .int .u64 (mm : Int) :: .int .i64 ee :: .bool ng :: .bool false :: (jm ++ .int .i64 1023 :: .int .i64 (-1022) :: j) ∧ jm.length = 8 ∧ j.length = 176 ∧ mm = mg * 4 * 2 ^ k ∧ ee = (up : Int) - 1024 - k ∧ (k = 0 ∨ up = 0) ∧ k ≤ N ∧ h = []) N ⟨w, ee, [_, _, _, _, _, _, _, _], _, rfl, rfl, rfl, by rw [hw, ← hm, Nat.mul_right_comm], by omega, by omega, Nat.le_refl _, rfl⟩ ?_
  rintro k e h ⟨mm, ee', jm, j, rfl, hjm, hj, hmm, hee', hku, hkN, rfl⟩ J hJ
  have hp2 := Nat.two_pow_pos k
  have hmm4 : 4 ≤ mm := by
    rw [hmm]
    have h1 : mg * 4 ≤ mg * 4 * 2 ^ k := Nat.le_mul_of_pos_right _ hp2
    omega
  have b1 : decide ((mm : Int) > 1) = true := decide_eq_true (by omega)
  by_cases hk0 : k = 0
  rotate_left
  · obtain ⟨k, rfl⟩ : ∃ i, k = i + 1 := ⟨k - 1, by omega⟩
    have hmm2 : mm = mg * 4 * 2 ^ k * 2 := by rw [hmm, Nat.pow_succ, ← Nat.mul_assoc]
    obtain ⟨x, hx⟩ : ∃ x, x = mg * 4 * 2 ^ k := ⟨_, rfl⟩
    rw [← hx] at hmm2
    have hxl : x < 18446744073709551616 := by
      have h1 : 2 ^ k ≤ 2 ^ 52 := Nat.pow_le_pow_right (by omega) (by omega)
      have h2 : x ≤ K * 4 := by
        rw [hx, ← hm, Nat.mul_right_comm]
        exact Nat.mul_le_mul_right _ (Nat.mul_le_mul_left _ (Nat.pow_le_pow_right (by omega) (by omega)))
      omega
    have hxl2 : mm < 18446744073709551616 := by
      have h2 : mm ≤ K * 4 := by
        rw [hmm, ← hm, Nat.mul_right_comm]
        exact Nat.mul_le_mul_right _ (Nat.mul_le_mul_left _ (Nat.pow_le_pow_right (by omega) (by omega)))
      omega
    have b2 : decide (ee' < -1024) = true := decide_eq_true (by omega)
    have vs : shiftOp .shr .u64 (mm : Int) 1 = some (.int .u64 (x : Nat)) := by
      have := shrU (a := mm) (n := 1) (by omega)
      rw [show 2 ^ 1 = 2 by decide, show mm / 2 = x by omega] at this
      exact this
    have la := low1 (n := mm) hxl2
    rw [show mm % 2 = 0 by omega] at la
    have lo := or_zero64 hxl
    have i1 : IntKind.i64.wrap (ee' + 1) = ee' + 1 := wrap_i64 (by omega) (by omega)
    obtain ⟨g, rfl⟩ : ∃ g : Nat → AV, j = [g 0, g 1, g 2, g 3, g 4, g 5, g 6, g 7, g 8, g 9, g 10, g 11, g 12, g 13, g 14, g 15, g 16, g 17, g 18, g 19, g 20, g 21, g 22, g 23, g 24, g 25, g 26, g 27, g 28, g 29, g 30, g 31, g 32, g 33, g 34, g 35, g 36, g 37, g 38, g 39, g 40, g 41, g 42, g 43, g 44, g 45, g 46, g 47, g 48, g 49, g 50, g 51, g 52, g 53, g 54, g 55, g 56, g 57, g 58, g 59, g 60, g 61, g 62, g 63, g 64, g 65, g 66, g 67, g 68, g 69, g 70, g 71, g 72, g 73, g 74, g 75, g 76, g 77, g 78, g 79, g 80, g 81, g 82, g 83, g 84, g 85, g 86, g 87, g 88, g 89, g 90, g 91, g 92, g 93, g 94, g 95, g 96, g 97, g 98, g 99, g 100, g 101, g 102, g 103, g 104, g 105, g 106, g 107, g 108, g 109, g 110, g 111, g 112, g 113, g 114, g 115, g 116, g 117, g 118, g 119, g 120, g 121, g 122, g 123, g 124, g 125, g 126, g 127, g 128, g 129, g 130, g 131, g 132, g 133, g 134, g 135, g 136, g 137, g 138, g 139, g 140, g 141, g 142, g 143, g 144, g 145, g 146, g 147, g 148, g 149, g 150, g 151, g 152, g 153, g 154, g 155, g 156, g 157, g 158, g 159, g 160, g 161, g 162, g 163, g 164, g 165, g 166, g 167, g 168, g 169, g 170, g 171, g 172, g 173, g 174, g 175] := junk 176 j hj
    obtain ⟨gm, rfl⟩ : ∃ g : Nat → AV, jm = [g 0, g 1, g 2, g 3, g 4, g 5, g 6, g 7] := junk 8 jm hjm
    simp only [List.cons_append, List.nil_append]
    simp only [gX,gT,gM,gL,gB,wantedA,evOp,opv,absC,absC0,isAggT,resA,resultA,binA,eqA,eqGuardA,isConstA,isFlatScalar,strOp,ordB,readN,sliceCells,lenA,storeA,newA,buildA,fillA,buildSliceA,boundsA,bndA,sliceA,ptrOK,fieldAddrA,fieldA,indexA,extractA,convA,isIntT,biA,bytesOf,setAll,List.replicate,Nat.reduceAdd,Nat.reduceSub,Nat.reduceMul,Nat.reduceLT,Nat.reduceLeDiff,Nat.reduceEqDiff,Int.reduceEq,Int.reduceLT,Int.reduceLE,Int.reduceNe,Int.reduceAdd,Nat.reduceBEq,reduceCtorEq,lenB_nil,lenB_slice,lenB_oslice,lenB_str,lenB_agg,indexAddrA_slice,indexAddrA_oslice,indexAddrA_ptr,indexAddrA_optr,loadA_ptr,lenK,indexK,loadK,Int.reduceBEq,Int.reduceBNe,Int.reduceMod,Int.reduceDiv,Int.reduceTDiv,Int.reduceTMod,Int.reduceFDiv,Int.reduceSub,Int.reduceNeg,Int.reduceGT,Int.reduceGE,BitVec.reduceOfInt,BitVec.reduceAnd,BitVec.reduceOr,BitVec.reduceXOr,BitVec.reduceToNat,Int.reduceToNat,Int.reducePow,Int.reduceMul,hT.all,b1,wm1024,b2,vs,la,lo,i1]
    refine hJ k _ _ _ (by omega) (Weak.refl _) ⟨x, ee' + 1, [_, _, _, _, _, _, _, _], _, rfl, rfl, ?_, hx, by omega, by omega, by omega, rfl⟩
    rfl
  subst hk0
  rw [Nat.pow_zero, Nat.mul_one] at hmm
  have b2 : decide (ee' < -1024) = false := decide_eq_false (by omega)
  clear hJ v54 v55
  -- no rounding
  have a3 := and3 (n := mm) (by omega)
  rw [show mm % 4 = 0 by omega] at a3
  have s2 : shiftOp .shr .u64 (mm : Int) 2 = some (.int .u64 (mg : Nat)) := by
    have := shrU (a := mm) (n := 2) (by omega)
    rw [show 2 ^ 2 = 4 by decide, show mm / 4 = mg by omega] at this
    exact this
  have a1 := low1 (n := mg) (by omega)
  obtain ⟨md, hmd⟩ : ∃ md, md = mg % 2 := ⟨_, rfl⟩
  rw [← hmd] at a1
  have o1 := zero_or64 (n := md) (by omega)
  have b3 : ((md : Int) == 3) = false := by rw [beq_eq_false_iff_ne]; omega
  have i2 : IntKind.i64.wrap (ee' + 2) = (up : Int) - 1022 := by rw [wrap_i64 (by omega) (by omega)]; omega
  have s52 : shiftOp .shr .u64 (mg : Int) 52 = some (.int .u64 ((mg / 4503599627370496 : Nat) : Int)) := by
    have := shrU (a := mg) (n := 52) (by omega)
    rw [show 2 ^ 52 = 4503599627370496 by decide] at this
    exact this
  have lm := low52 (n := mg) (by omega)
  rw [hparts.1] at lm
  obtain ⟨fr, hfr⟩ : ∃ fr, fr = r % 4503599627370496 := ⟨_, rfl⟩
  rw [← hfr] at lm
  have hbm : ∀ xo yo, binM T M .eql 177 xo yo (.optr ⟨8, 0, none⟩) (.optr ⟨7, 0, none⟩) = some (.bool false) := by
    intro xo yo
    have p1 : Mp M 8 = true := by unfold Mp; rw [hM ⟨8, 0, some 0⟩ .nilptr rfl]; rfl
    have p2 : Mp M 7 = true := by unfold Mp; rw [hM ⟨7, 0, some 0⟩ .nilptr rfl]; rfl
    simp only [binM, ptrEqA, hT.ty177, hT.ty179, p1, p2]
    rfl
  have w0 : IntKind.i64.wrap 0 = 0 := rfl
  have u0 : IntKind.u64.wrap 0 = 0 := rfl
  have v00 : shiftOp .shl .u64 0 52 = some (.int .u64 0) := rfl
  by_cases c : r < 4503599627370496
  · have hr0 : ((mg / 4503599627370496 : Nat) : Int) = 0 := by rw [hparts.2.1.2 c]; rfl
    rw [hr0] at s52
    have oz := or_zero64 (n := fr) (by omega)
    have b5 : decide ((-1023 : Int) > 1023) = false := rfl
    have lastf : ng = true → n = 9223372036854775808 + fr := by intro h; rw [hng, decide_eq_true_eq] at h; omega
    have lastt : ng = false → n = fr := by intro h; rw [hng, decide_eq_false_iff_not] at h; omega
    have o63 := or63 (n := fr) (by omega)
    have kf := kFrom M [] n
    clear hng hN hK1 hK2 hm hNu hup hparts
    obtain ⟨g, rfl⟩ : ∃ g : Nat → AV, j = [g 0, g 1, g 2, g 3, g 4, g 5, g 6, g 7, g 8, g 9, g 10, g 11, g 12, g 13, g 14, g 15, g 16, g 17, g 18, g 19, g 20, g 21, g 22, g 23, g 24, g 25, g 26, g 27, g 28, g 29, g 30, g 31, g 32, g 33, g 34, g 35, g 36, g 37, g 38, g 39, g 40, g 41, g 42, g 43, g 44, g 45, g 46, g 47, g 48, g 49, g 50, g 51, g 52, g 53, g 54, g 55, g 56, g 57, g 58, g 59, g 60, g 61, g 62, g 63, g 64, g 65, g 66, g 67, g 68, g 69, g 70, g 71, g 72, g 73, g 74, g 75, g 76, g 77, g 78, g 79, g 80, g 81, g 82, g 83, g 84, g 85, g 86, g 87, g 88, g 89, g 90, g 91, g 92, g 93, g 94, g 95, g 96, g 97, g 98, g 99, g 100, g 101, g 102, g 103, g 104, g 105, g 106, g 107, g 108, g 109, g 110, g 111, g 112, g 113, g 114, g 115, g 116, g 117, g 118, g 119, g 120, g 121, g 122, g 123, g 124, g 125, g 126, g 127, g 128, g 129, g 130, g 131, g 132, g 133, g 134, g 135, g 136, g 137, g 138, g 139, g 140, g 141, g 142, g 143, g 144, g 145, g 146, g 147, g 148, g 149, g 150, g 151, g 152, g 153, g 154, g 155, g 156, g 157, g 158, g 159, g 160, g 161, g 162, g 163, g 164, g 165, g 166, g 167, g 168, g 169, g 170, g 171, g 172, g 173, g 174, g 175] := junk 176 j hj
    obtain ⟨gm, rfl⟩ : ∃ g : Nat → AV, jm = [g 0, g 1, g 2, g 3, g 4, g 5, g 6, g 7] := junk 8 jm hjm
    simp only [List.cons_append, List.nil_append]
    cases ng
    · rw [lastt rfl] at kf ⊢
      simp only [gX,gT,gM,gL,gB,wantedA,evOp,opv,absC,absC0,isAggT,resA,resultA,binA,eqA,eqGuardA,isConstA,isFlatScalar,strOp,ordB,readN,sliceCells,lenA,storeA,newA,buildA,fillA,buildSliceA,boundsA,bndA,sliceA,ptrOK,fieldAddrA,fieldA,indexA,extractA,convA,isIntT,biA,bytesOf,setAll,List.replicate,Nat.reduceAdd,Nat.reduceSub,Nat.reduceMul,Nat.reduceLT,Nat.reduceLeDiff,Nat.reduceEqDiff,Int.reduceEq,Int.reduceLT,Int.reduceLE,Int.reduceNe,Int.reduceAdd,Nat.reduceBEq,reduceCtorEq,lenB_nil,lenB_slice,lenB_oslice,lenB_str,lenB_agg,indexAddrA_slice,indexAddrA_oslice,indexAddrA_ptr,indexAddrA_optr,loadA_ptr,lenK,indexK,loadK,Int.reduceBEq,Int.reduceBNe,Int.reduceMod,Int.reduceDiv,Int.reduceTDiv,Int.reduceTMod,Int.reduceFDiv,Int.reduceSub,Int.reduceNeg,Int.reduceGT,Int.reduceGE,BitVec.reduceOfInt,BitVec.reduceAnd,BitVec.reduceOr,BitVec.reduceXOr,BitVec.reduceToNat,Int.reduceToNat,Int.reducePow,Int.reduceMul,hT.all,b1,b2,b3,b5,wm1024,a3,s2,a1,o1,i2,l0,l1,l2,s52,v52,v11,w0,u0,w2047,v00,wmsk,lm,oz,hbm]
      refine hS.one kf ?_
      simp only [gX,gT,gM,gL,gB,wantedA,evOp,opv,absC,absC0,isAggT,resA,resultA,binA,eqA,eqGuardA,isConstA,isFlatScalar,shiftOp,strOp,ordB,readN,sliceCells,lenA,storeA,newA,buildA,fillA,buildSliceA,boundsA,bndA,sliceA,ptrOK,fieldAddrA,fieldA,indexA,extractA,convA,isIntT,biA,bytesOf,setAll,List.replicate,Nat.reduceAdd,Nat.reduceSub,Nat.reduceMul,Nat.reduceLT,Nat.reduceLeDiff,Nat.reduceEqDiff,Int.reduceEq,Int.reduceLT,Int.reduceLE,Int.reduceNe,Int.reduceAdd,Nat.reduceBEq,reduceCtorEq,lenB_nil,lenB_slice,lenB_oslice,lenB_str,lenB_agg,indexAddrA_slice,indexAddrA_oslice,indexAddrA_ptr,indexAddrA_optr,loadA_ptr,loadA_optr,lenK,indexK,loadK,Int.reduceBEq,Int.reduceBNe,Int.reduceMod,Int.reduceDiv,Int.reduceTDiv,Int.reduceTMod,Int.reduceFDiv,Int.reduceSub,Int.reduceNeg,Int.reduceGT,Int.reduceGE,BitVec.reduceOfInt,BitVec.reduceAnd,BitVec.reduceOr,BitVec.reduceXOr,BitVec.reduceToNat,Int.reduceToNat,Int.reducePow,Int.reduceMul,hT.all]
      try rfl
    · rw [lastf rfl] at kf ⊢
      simp only [gX,gT,gM,gL,gB,wantedA,evOp,opv,absC,absC0,isAggT,resA,resultA,binA,eqA,eqGuardA,isConstA,isFlatScalar,strOp,ordB,readN,sliceCells,lenA,storeA,newA,buildA,fillA,buildSliceA,boundsA,bndA,sliceA,ptrOK,fieldAddrA,fieldA,indexA,extractA,convA,isIntT,biA,bytesOf,setAll,List.replicate,Nat.reduceAdd,Nat.reduceSub,Nat.reduceMul,Nat.reduceLT,Nat.reduceLeDiff,Nat.reduceEqDiff,Int.reduceEq,Int.reduceLT,Int.reduceLE,Int.reduceNe,Int.reduceAdd,Nat.reduceBEq,reduceCtorEq,lenB_nil,lenB_slice,lenB_oslice,lenB_str,lenB_agg,indexAddrA_slice,indexAddrA_oslice,indexAddrA_ptr,indexAddrA_optr,loadA_ptr,lenK,indexK,loadK,Int.reduceBEq,Int.reduceBNe,Int.reduceMod,Int.reduceDiv,Int.reduceTDiv,Int.reduceTMod,Int.reduceFDiv,Int.reduceSub,Int.reduceNeg,Int.reduceGT,Int.reduceGE,BitVec.reduceOfInt,BitVec.reduceAnd,BitVec.reduceOr,BitVec.reduceXOr,BitVec.reduceToNat,Int.reduceToNat,Int.reducePow,Int.reduceMul,hT.all,b1,b2,b3,b5,wm1024,a3,s2,a1,o1,i2,l0,l1,l2,s52,v52,v11,w0,u0,w2047,v00,v63,wmsk,lm,oz,o63,hbm]
      refine hS.one kf ?_
      simp only [gX,gT,gM,gL,gB,wantedA,evOp,opv,absC,absC0,isAggT,resA,resultA,binA,eqA,eqGuardA,isConstA,isFlatScalar,shiftOp,strOp,ordB,readN,sliceCells,lenA,storeA,newA,buildA,fillA,buildSliceA,boundsA,bndA,sliceA,ptrOK,fieldAddrA,fieldA,indexA,extractA,convA,isIntT,biA,bytesOf,setAll,List.replicate,Nat.reduceAdd,Nat.reduceSub,Nat.reduceMul,Nat.reduceLT,Nat.reduceLeDiff,Nat.reduceEqDiff,Int.reduceEq,Int.reduceLT,Int.reduceLE,Int.reduceNe,Int.reduceAdd,Nat.reduceBEq,reduceCtorEq,lenB_nil,lenB_slice,lenB_oslice,lenB_str,lenB_agg,indexAddrA_slice,indexAddrA_oslice,indexAddrA_ptr,indexAddrA_optr,loadA_ptr,loadA_optr,lenK,indexK,loadK,Int.reduceBEq,Int.reduceBNe,Int.reduceMod,Int.reduceDiv,Int.reduceTDiv,Int.reduceTMod,Int.reduceFDiv,Int.reduceSub,Int.reduceNeg,Int.reduceGT,Int.reduceGE,BitVec.reduceOfInt,BitVec.reduceAnd,BitVec.reduceOr,BitVec.reduceXOr,BitVec.reduceToNat,Int.reduceToNat,Int.reducePow,Int.reduceMul,hT.all]
      try rfl
  · have hr0 : (((mg / 4503599627370496 : Nat) : Int) == 0) = false := by
      have := hparts.2.1
      rw [beq_eq_false_iff_ne]; omega
    have b5 : decide ((up : Int) - 1022 > 1023) = false := decide_eq_false (by omega)
    obtain ⟨x, hx⟩ : ∃ x, x = up + 1 := ⟨_, rfl⟩
    have hxr : x = r / 4503599627370496 := by have := hparts.2.2; omega
    have i3 : IntKind.i64.wrap ((up : Int) - 1022 - -1023) = (x : Nat) := by rw [wrap_i64 (by omega) (by omega)]; omega
    have k11 := msk11 (q := x) (by omega)
    rw [Nat.mod_eq_of_lt (by omega)] at k11
    have ux : IntKind.u64.wrap ((x : Nat) : Int) = (x : Nat) := by rw [wU]; omega
    have vx : shiftOp .shl .u64 ((x : Nat) : Int) 52 = some (.int .u64 ((x * 4503599627370496 : Nat) : Int)) := by
      have := shlU (a := x) (n := 52) (by omega) (by omega)
      rw [show 2 ^ 52 = 4503599627370496 by decide] at this
      exact this
    have ox := or64' (k := 52) (a := x) (b := fr) (by omega) (by omega) (by omega)
    rw [show 2 ^ 52 = 4503599627370496 by decide, show x * 4503599627370496 + fr = r by omega] at ox
    have o63 := or63 (n := r) (by omega)
    have lastf : ng = true → n = 9223372036854775808 + r := by intro h; rw [hng, decide_eq_true_eq] at h; omega
    have lastt : ng = false → n = r := by intro h; rw [hng, decide_eq_false_iff_not] at h; omega
    have kf := kFrom M [] n
    clear hng hN hK1 hK2 hm hNu hup hparts
    obtain ⟨g, rfl⟩ : ∃ g : Nat → AV, j = [g 0, g 1, g 2, g 3, g 4, g 5, g 6, g 7, g 8, g 9, g 10, g 11, g 12, g 13, g 14, g 15, g 16, g 17, g 18, g 19, g 20, g 21, g 22, g 23, g 24, g 25, g 26, g 27, g 28, g 29, g 30, g 31, g 32, g 33, g 34, g 35, g 36, g 37, g 38, g 39, g 40, g 41, g 42, g 43, g 44, g 45, g 46, g 47, g 48, g 49, g 50, g 51, g 52, g 53, g 54, g 55, g 56, g 57, g 58, g 59, g 60, g 61, g 62, g 63, g 64, g 65, g 66, g 67, g 68, g 69, g 70, g 71, g 72, g 73, g 74, g 75, g 76, g 77, g 78, g 79, g 80, g 81, g 82, g 83, g 84, g 85, g 86, g 87, g 88, g 89, g 90, g 91, g 92, g 93, g 94, g 95, g 96, g 97, g 98, g 99, g 100, g 101, g 102, g 103, g 104, g 105, g 106, g 107, g 108, g 109, g 110, g 111, g 112, g 113, g 114, g 115, g 116, g 117, g 118, g 119, g 120, g 121, g 122, g 123, g 124, g 125, g 126, g 127, g 128, g 129, g 130, g 131, g 132, g 133, g 134, g 135, g 136, g 137, g 138, g 139, g 140, g 141, g 142, g 143, g 144, g 145, g 146, g 147, g 148, g 149, g 150, g 151, g 152, g 153, g 154, g 155, g 156, g 157, g 158, g 159, g 160, g 161, g 162, g 163, g 164, g 165, g 166, g 167, g 168, g 169, g 170, g 171, g 172, g 173, g 174, g 175] := junk 176 j hj
    obtain ⟨gm, rfl⟩ : ∃ g : Nat → AV, jm = [g 0, g 1, g 2, g 3, g 4, g 5, g 6, g 7] := junk 8 jm hjm
    simp only [List.cons_append, List.nil_append]
    cases ng
    · rw [lastt rfl] at kf ⊢
      simp only [gX,gT,gM,gL,gB,wantedA,evOp,opv,absC,absC0,isAggT,resA,resultA,binA,eqA,eqGuardA,isConstA,isFlatScalar,strOp,ordB,readN,sliceCells,lenA,storeA,newA,buildA,fillA,buildSliceA,boundsA,bndA,sliceA,ptrOK,fieldAddrA,fieldA,indexA,extractA,convA,isIntT,biA,bytesOf,setAll,List.replicate,Nat.reduceAdd,Nat.reduceSub,Nat.reduceMul,Nat.reduceLT,Nat.reduceLeDiff,Nat.reduceEqDiff,Int.reduceEq,Int.reduceLT,Int.reduceLE,Int.reduceNe,Int.reduceAdd,Nat.reduceBEq,reduceCtorEq,lenB_nil,lenB_slice,lenB_oslice,lenB_str,lenB_agg,indexAddrA_slice,indexAddrA_oslice,indexAddrA_ptr,indexAddrA_optr,loadA_ptr,lenK,indexK,loadK,Int.reduceBEq,Int.reduceBNe,Int.reduceMod,Int.reduceDiv,Int.reduceTDiv,Int.reduceTMod,Int.reduceFDiv,Int.reduceSub,Int.reduceNeg,Int.reduceGT,Int.reduceGE,BitVec.reduceOfInt,BitVec.reduceAnd,BitVec.reduceOr,BitVec.reduceXOr,BitVec.reduceToNat,Int.reduceToNat,Int.reducePow,Int.reduceMul,hT.all,b1,b2,b3,b5,wm1024,a3,s2,a1,o1,i2,i3,l0,l1,l2,s52,hr0,v52,v11,w2047,wmsk,lm,k11,ux,vx,ox,hbm]
      refine hS.one kf ?_
      simp only [gX,gT,gM,gL,gB,wantedA,evOp,opv,absC,absC0,isAggT,resA,resultA,binA,eqA,eqGuardA,isConstA,isFlatScalar,shiftOp,strOp,ordB,readN,sliceCells,lenA,storeA,newA,buildA,fillA,buildSliceA,boundsA,bndA,sliceA,ptrOK,fieldAddrA,fieldA,indexA,extractA,convA,isIntT,biA,bytesOf,setAll,List.replicate,Nat.reduceAdd,Nat.reduceSub,Nat.reduceMul,Nat.reduceLT,Nat.reduceLeDiff,Nat.reduceEqDiff,Int.reduceEq,Int.reduceLT,Int.reduceLE,Int.reduceNe,Int.reduceAdd,Nat.reduceBEq,reduceCtorEq,lenB_nil,lenB_slice,lenB_oslice,lenB_str,lenB_agg,indexAddrA_slice,indexAddrA_oslice,indexAddrA_ptr,indexAddrA_optr,loadA_ptr,loadA_optr,lenK,indexK,loadK,Int.reduceBEq,Int.reduceBNe,Int.reduceMod,Int.reduceDiv,Int.reduceTDiv,Int.reduceTMod,Int.reduceFDiv,Int.reduceSub,Int.reduceNeg,Int.reduceGT,Int.reduceGE,BitVec.reduceOfInt,BitVec.reduceAnd,BitVec.reduceOr,BitVec.reduceXOr,BitVec.reduceToNat,Int.reduceToNat,Int.reducePow,Int.reduceMul,hT.all]
      try rfl
    · rw [lastf rfl] at kf ⊢
      simp only [gX,gT,gM,gL,gB,wantedA,evOp,opv,absC,absC0,isAggT,resA,resultA,binA,eqA,eqGuardA,isConstA,isFlatScalar,strOp,ordB,readN,sliceCells,lenA,storeA,newA,buildA,fillA,buildSliceA,boundsA,bndA,sliceA,ptrOK,fieldAddrA,fieldA,indexA,extractA,convA,isIntT,biA,bytesOf,setAll,List.replicate,Nat.reduceAdd,Nat.reduceSub,Nat.reduceMul,Nat.reduceLT,Nat.reduceLeDiff,Nat.reduceEqDiff,Int.reduceEq,Int.reduceLT,Int.reduceLE,Int.reduceNe,Int.reduceAdd,Nat.reduceBEq,reduceCtorEq,lenB_nil,lenB_slice,lenB_oslice,lenB_str,lenB_agg,indexAddrA_slice,indexAddrA_oslice,indexAddrA_ptr,indexAddrA_optr,loadA_ptr,lenK,indexK,loadK,Int.reduceBEq,Int.reduceBNe,Int.reduceMod,Int.reduceDiv,Int.reduceTDiv,Int.reduceTMod,Int.reduceFDiv,Int.reduceSub,Int.reduceNeg,Int.reduceGT,Int.reduceGE,BitVec.reduceOfInt,BitVec.reduceAnd,BitVec.reduceOr,BitVec.reduceXOr,BitVec.reduceToNat,Int.reduceToNat,Int.reducePow,Int.reduceMul,hT.all,b1,b2,b3,b5,wm1024,a3,s2,a1,o1,i2,i3,l0,l1,l2,s52,hr0,v52,v11,v63,w2047,wmsk,lm,k11,ux,vx,ox,o63,hbm]
      refine hS.one kf ?_
      simp only [gX,gT,gM,gL,gB,wantedA,evOp,opv,absC,absC0,isAggT,resA,resultA,binA,eqA,eqGuardA,isConstA,isFlatScalar,shiftOp,strOp,ordB,readN,sliceCells,lenA,storeA,newA,buildA,fillA,buildSliceA,boundsA,bndA,sliceA,ptrOK,fieldAddrA,fieldA,indexA,extractA,convA,isIntT,biA,bytesOf,setAll,List.replicate,Nat.reduceAdd,Nat.reduceSub,Nat.reduceMul,Nat.reduceLT,Nat.reduceLeDiff,Nat.reduceEqDiff,Int.reduceEq,Int.reduceLT,Int.reduceLE,Int.reduceNe,Int.reduceAdd,Nat.reduceBEq,reduceCtorEq,lenB_nil,lenB_slice,lenB_oslice,lenB_str,lenB_agg,indexAddrA_slice,indexAddrA_oslice,indexAddrA_ptr,indexAddrA_optr,loadA_ptr,loadA_optr,lenK,indexK,loadK,Int.reduceBEq,Int.reduceBNe,Int.reduceMod,Int.reduceDiv,Int.reduceTDiv,Int.reduceTMod,Int.reduceFDiv,Int.reduceSub,Int.reduceNeg,Int.reduceGT,Int.reduceGE,BitVec.reduceOfInt,BitVec.reduceAnd,BitVec.reduceOr,BitVec.reduceXOr,BitVec.reduceToNat,Int.reduceToNat,Int.reducePow,Int.reduceMul,hT.all]
      try rfl

end Go.Proofs.YtpddepehlinfnaaGreatDoor.B
