/- Part of a claim: a float taken apart, by the library and by the document; the law ScalarExact. -/
import Derived.Test.YtpddepehlinfnaaGreatDoorPS10
set_option linter.unusedSimpArgs false
set_option linter.unusedVariables false
set_option maxRecDepth 100000
set_option maxHeartbeats 10000000
namespace Go.Proofs.YtpddepehlinfnaaGreatDoor.B
open Go Go.RowKit Go.Proofs.YtpddepehlinfnaaGreatDoor.E Go.Proofs.YtpddepehlinfnaaGreatDoor.FL

/-- A number with its sign. -/
def sI (s : Bool) (k : Nat) : Int := if s = true then -(k : Int) else k

theorem norm_parts {r : Nat} (h0 : r ≠ 0) (h : r < 9218868437227405312) : ∃ K E : Nat, normR r / 4503599627370496 = E ∧ normR r % 4503599627370496 + 4503599627370496 = K ∧ K < 9007199254740992 ∧ 1 ≤ E ∧ E ≤ 2046 ∧
    K / 2 ^ tz K = magOf r / 2 ^ tz (magOf r) ∧ normE r + E - 1075 + tz K = -1074 + upOf r + tz (magOf r) ∧ normR r < 9218868437227405312 ∧ -52 ≤ normE r ∧ normE r ≤ 0 ∧ tz K < 64 ∧ K = K / 2 ^ tz K * 2 ^ tz K := by
  unfold normR normE
  by_cases c : r < 4503599627370496
  · rw [if_pos c, if_pos c]
    obtain ⟨e1, e2, e3, e4⟩ := rung_sub h0 c
    obtain ⟨m1, m2⟩ := mag_small (r := r) (by omega)
    rw [m1, m2, e1]
    obtain ⟨t1, t2⟩ := tz_mul (m := r) (k := 52 - r.log2) h0 (by omega)
    obtain ⟨s1, _, s2⟩ := tz_spec (m := r * 2 ^ (52 - r.log2)) (by omega) (by omega)
    obtain ⟨K, hK⟩ : ∃ K, K = r * 2 ^ (52 - r.log2) := ⟨_, rfl⟩
    rw [← hK] at e2 e3 t1 t2 s1 s2 ⊢
    refine ⟨K, r.log2 + 1, by omega, by omega, e3, by omega, by omega, t2, by omega, by omega, by omega, by omega, s2, s1⟩
  · rw [if_neg c, if_neg c]
    have hm : magOf r = 4503599627370496 + r % 4503599627370496 := by unfold magOf; rw [if_neg c]
    have hu : upOf r = r / 4503599627370496 - 1 := by unfold upOf; rw [if_neg c]
    obtain ⟨s1, _, s2⟩ := tz_spec (m := magOf r) (by omega) (by omega)
    exact ⟨magOf r, r / 4503599627370496, rfl, by omega, by omega, by omega, by omega, rfl, by omega, h, by omega, by omega, s2, s1⟩

theorem eq_zero {T : Tab} {t : TypeId} {x y : Operand} {s : Bool} {r : Nat} (h0 : r ≠ 0) (hr : r ≤ 9218868437227405312) : binA T .eql t x y (.float .f64 (D.word s r)) (.float .f64 0) = some (.bool false) := by
  have ho := order_word (s := s) (t := false) (r := r) (q := 0) hr (by omega)
  rw [show D.word false 0 = 0 by rfl, sval_false, V_zero] at ho
  simp only [binA, fArith, if_true]
  rw [show FloatKind.f64.format = D from rfl, ho]
  simp only [ordB, Option.map_some]
  have hp := V_pos (show 0 < r by omega)
  cases s
  · rw [sval_false, compare_gt (by omega)]; rfl
  · rw [sval_true, compare_lt (by omega)]; rfl

theorem word_parts {s : Bool} {y : Nat} (hy : y < 9223372036854775808) : D.word s y / 4503599627370496 % 2048 = y / 4503599627370496 ∧ D.word s y / 9223372036854775808 = s.toNat ∧ D.word s y % 4503599627370496 = y % 4503599627370496 ∧ D.word s y < 18446744073709551616 := by
  unfold Ieee.Format.word
  rw [d_sw]
  cases s
  · rw [if_neg (by decide)]
    exact ⟨by omega, by rw [show (false : Bool).toNat = 0 by rfl]; omega, rfl, by omega⟩
  · simp only [if_true, Bool.toNat_true]
    refine ⟨by omega, by omega, by omega, by omega⟩

theorem pFrexp (M : Addr → Option AV) (H : Heap) {n r K E : Nat} {s : Bool} (hn : n = D.word s r) (h0 : r ≠ 0) (hr : r < 9218868437227405312) (hE : normR r / 4503599627370496 = E) (hK : normR r % 4503599627370496 + 4503599627370496 = K) (hy : normR r < 9218868437227405312) (hE2 : E ≤ 2046) :
    SemF Tryz.prog M 70 [.float .f64 n] H fun v h => v = .tup [.float .f64 (D.word s (1021 * 4503599627370496 + K)), .int .i64 (normE r + E - 1022)] ∧ h = H := by
  have hw := word_neg (s := s) (r := r) (by omega)
  rw [← hn, d_sw] at hw
  have hnn : isNaN .f64 n = false := by rw [isNaN_of, decide_eq_false_iff_not]; omega
  have hi := pIsInf0 M [] hnn
  rw [hw.2, decide_eq_false (by omega)] at hi
  have hq := pIsNaN M [] n
  rw [hnn] at hq
  have hno := pNormalize M [] hn hr
  have hz : ∀ T t x y, binA T .eql t x y (.float .f64 n) (.float .f64 0) = some (.bool false) := by
    intro T t x y
    rw [hn]
    exact eq_zero h0 (by omega)
  have hne : -52 ≤ normE r ∧ normE r ≤ 0 := by unfold normE; split <;> omega
  obtain ⟨y, hyy⟩ : ∃ y, y = normR r := ⟨_, rfl⟩
  rw [← hyy] at hE hK hy hno
  obtain ⟨p1, p2, p3, p4⟩ := word_parts (s := s) (y := y) (by omega)
  have hwn : isNaN .f64 (D.word s y) = false := by
    have := word_neg (s := s) (r := y) (by omega)
    rw [d_sw] at this
    rw [isNaN_of, decide_eq_false_iff_not]; omega
  have w1 := shr52 (b := D.word s y)
  have w2 := and11 (e := D.word s y / 4503599627370496) (by omega)
  rw [p1, hE] at w2
  have w3 := clrE (n := D.word s y) p4
  rw [p2, p3] at w3
  have hs : s.toNat ≤ 1 := by cases s <;> decide
  have w4 := orE (b := s.toNat) (f := y % 4503599627370496) (k := 1022) hs (by omega) (by omega)
  rw [show BitVec.ofNat 64 (1022 * 4503599627370496) = 4602678819172646912#64 by decide] at w4
  have w5 : IntKind.i64.wrap (E : Int) = E := wrap_i64 (by omega) (by omega)
  have w6 : IntKind.i64.wrap ((E : Int) - 1023) = E - 1023 := wrap_i64 (by omega) (by omega)
  have w7 : IntKind.i64.wrap ((E : Int) - 1023 + 1) = E - 1022 := by rw [wrap_i64 (by omega) (by omega)]; omega
  have w8 : IntKind.i64.wrap (normE r + ((E : Int) - 1022)) = normE r + E - 1022 := by rw [wrap_i64 (by omega) (by omega)]; omega
  have e9 : s.toNat * 9223372036854775808 + 1022 * 4503599627370496 + y % 4503599627370496 = D.word s (1021 * 4503599627370496 + K) := by
    unfold Ieee.Format.word
    rw [d_sw]
    cases s
    · simp only [Bool.false_eq_true, if_false, Bool.toNat_false]; omega
    · simp only [if_true, Bool.toNat_true]; omega
  rw [e9] at w4
  obtain ⟨w, hww⟩ : ∃ w, w = D.word s y := ⟨_, rfl⟩
  obtain ⟨x1, hx1⟩ : ∃ x, x = w / 4503599627370496 := ⟨_, rfl⟩
  obtain ⟨x2, hx2⟩ : ∃ x, x = s.toNat * 9223372036854775808 + y % 4503599627370496 := ⟨_, rfl⟩
  obtain ⟨x3, hx3⟩ : ∃ x, x = D.word s (1021 * 4503599627370496 + K) := ⟨_, rfl⟩
  obtain ⟨e0, he0⟩ : ∃ x, x = normE r := ⟨_, rfl⟩
  rw [← hww] at hno w1 w2 w3 hwn
  rw [← hx1] at w1 w2
  rw [← hx2] at w3 w4
  rw [← hx3] at w4 ⊢
  rw [← he0] at hno w8 ⊢
  have h2 : SemF Tryz.prog M 89 [.float .f64 n] [] fun v h => v = .tup [.float .f64 x3, .int .i64 (e0 + E - 1022)] ∧ h = [] := by
    refine fpure rfl rfl (fw Tryz.func89 (by kernel_rfl) rfl (by kernel_rfl) fun C L T hT hS => ?_) []
    simp only [gX,gT,gM,gL,gB,wantedA,evOp,opv,absC,absC0,isAggT,resA,resultA,eqA,eqGuardA,isConstA,isFlatScalar,shiftOp,strOp,ordB,readN,sliceCells,lenA,storeA,newA,buildA,fillA,buildSliceA,boundsA,bndA,sliceA,ptrOK,fieldAddrA,fieldA,indexA,extractA,convA,isIntT,biA,bytesOf,setAll,List.replicate,Nat.reduceAdd,Nat.reduceSub,Nat.reduceMul,Nat.reduceLT,Nat.reduceLeDiff,Nat.reduceEqDiff,Int.reduceEq,Int.reduceLT,Int.reduceLE,Int.reduceNe,Int.reduceAdd,Nat.reduceBEq,reduceCtorEq,lenB_nil,lenB_slice,lenB_oslice,lenB_str,lenB_agg,indexAddrA_slice,indexAddrA_oslice,indexAddrA_ptr,indexAddrA_optr,loadA_ptr,loadA_optr,lenK,indexK,loadK,Int.reduceBEq,Int.reduceBNe,Int.reduceMod,Int.reduceDiv,Int.reduceTDiv,Int.reduceTMod,Int.reduceFDiv,Int.reduceSub,Int.reduceNeg,Int.reduceGT,Int.reduceGE,BitVec.reduceOfInt,BitVec.reduceAnd,BitVec.reduceOr,BitVec.reduceXOr,BitVec.reduceToNat,Int.reduceToNat,Int.reducePow,Int.reduceMul,hT.all,Tryz.f89,hz]
    refine hS.one hi ?_
    simp only [gX,gT,gM,gL,gB,wantedA,evOp,opv,absC,absC0,isAggT,resA,resultA,binA,eqA,eqGuardA,isConstA,isFlatScalar,shiftOp,strOp,ordB,readN,sliceCells,lenA,storeA,newA,buildA,fillA,buildSliceA,boundsA,bndA,sliceA,ptrOK,fieldAddrA,fieldA,indexA,extractA,convA,isIntT,biA,bytesOf,setAll,List.replicate,Nat.reduceAdd,Nat.reduceSub,Nat.reduceMul,Nat.reduceLT,Nat.reduceLeDiff,Nat.reduceEqDiff,Int.reduceEq,Int.reduceLT,Int.reduceLE,Int.reduceNe,Int.reduceAdd,Nat.reduceBEq,reduceCtorEq,lenB_nil,lenB_slice,lenB_oslice,lenB_str,lenB_agg,indexAddrA_slice,indexAddrA_oslice,indexAddrA_ptr,indexAddrA_optr,loadA_ptr,loadA_optr,lenK,indexK,loadK,Int.reduceBEq,Int.reduceBNe,Int.reduceMod,Int.reduceDiv,Int.reduceTDiv,Int.reduceTMod,Int.reduceFDiv,Int.reduceSub,Int.reduceNeg,Int.reduceGT,Int.reduceGE,BitVec.reduceOfInt,BitVec.reduceAnd,BitVec.reduceOr,BitVec.reduceXOr,BitVec.reduceToNat,Int.reduceToNat,Int.reducePow,Int.reduceMul,hT.all]
    refine hS.one hq ?_
    simp only [gX,gT,gM,gL,gB,wantedA,evOp,opv,absC,absC0,isAggT,resA,resultA,binA,eqA,eqGuardA,isConstA,isFlatScalar,shiftOp,strOp,ordB,readN,sliceCells,lenA,storeA,newA,buildA,fillA,buildSliceA,boundsA,bndA,sliceA,ptrOK,fieldAddrA,fieldA,indexA,extractA,convA,isIntT,biA,bytesOf,setAll,List.replicate,Nat.reduceAdd,Nat.reduceSub,Nat.reduceMul,Nat.reduceLT,Nat.reduceLeDiff,Nat.reduceEqDiff,Int.reduceEq,Int.reduceLT,Int.reduceLE,Int.reduceNe,Int.reduceAdd,Nat.reduceBEq,reduceCtorEq,lenB_nil,lenB_slice,lenB_oslice,lenB_str,lenB_agg,indexAddrA_slice,indexAddrA_oslice,indexAddrA_ptr,indexAddrA_optr,loadA_ptr,loadA_optr,lenK,indexK,loadK,Int.reduceBEq,Int.reduceBNe,Int.reduceMod,Int.reduceDiv,Int.reduceTDiv,Int.reduceTMod,Int.reduceFDiv,Int.reduceSub,Int.reduceNeg,Int.reduceGT,Int.reduceGE,BitVec.reduceOfInt,BitVec.reduceAnd,BitVec.reduceOr,BitVec.reduceXOr,BitVec.reduceToNat,Int.reduceToNat,Int.reducePow,Int.reduceMul,hT.all]
    refine hS.one hno ?_
    simp only [gX,gT,gM,gL,gB,wantedA,evOp,opv,absC,absC0,isAggT,resA,resultA,binA,eqA,eqGuardA,isConstA,isFlatScalar,shiftOp,strOp,ordB,readN,sliceCells,lenA,storeA,newA,buildA,fillA,buildSliceA,boundsA,bndA,sliceA,ptrOK,fieldAddrA,fieldA,indexA,extractA,convA,isIntT,biA,bytesOf,setAll,List.replicate,Nat.reduceAdd,Nat.reduceSub,Nat.reduceMul,Nat.reduceLT,Nat.reduceLeDiff,Nat.reduceEqDiff,Int.reduceEq,Int.reduceLT,Int.reduceLE,Int.reduceNe,Int.reduceAdd,Nat.reduceBEq,reduceCtorEq,lenB_nil,lenB_slice,lenB_oslice,lenB_str,lenB_agg,indexAddrA_slice,indexAddrA_oslice,indexAddrA_ptr,indexAddrA_optr,loadA_ptr,loadA_optr,lenK,indexK,loadK,Int.reduceBEq,Int.reduceBNe,Int.reduceMod,Int.reduceDiv,Int.reduceTDiv,Int.reduceTMod,Int.reduceFDiv,Int.reduceSub,Int.reduceNeg,Int.reduceGT,Int.reduceGE,BitVec.reduceOfInt,BitVec.reduceAnd,BitVec.reduceOr,BitVec.reduceXOr,BitVec.reduceToNat,Int.reduceToNat,Int.reducePow,Int.reduceMul,hT.all]
    refine hS.one (pBits M _ hwn) ?_
    simp only [gX,gT,gM,gL,gB,wantedA,evOp,opv,absC,absC0,isAggT,resA,resultA,binA,eqA,eqGuardA,isConstA,isFlatScalar,strOp,ordB,readN,sliceCells,lenA,storeA,newA,buildA,fillA,buildSliceA,boundsA,bndA,sliceA,ptrOK,fieldAddrA,fieldA,indexA,extractA,convA,isIntT,biA,bytesOf,setAll,List.replicate,Nat.reduceAdd,Nat.reduceSub,Nat.reduceMul,Nat.reduceLT,Nat.reduceLeDiff,Nat.reduceEqDiff,Int.reduceEq,Int.reduceLT,Int.reduceLE,Int.reduceNe,Int.reduceAdd,Nat.reduceBEq,reduceCtorEq,lenB_nil,lenB_slice,lenB_oslice,lenB_str,lenB_agg,indexAddrA_slice,indexAddrA_oslice,indexAddrA_ptr,indexAddrA_optr,loadA_ptr,loadA_optr,lenK,indexK,loadK,Int.reduceBEq,Int.reduceBNe,Int.reduceMod,Int.reduceDiv,Int.reduceTDiv,Int.reduceTMod,Int.reduceFDiv,Int.reduceSub,Int.reduceNeg,Int.reduceGT,Int.reduceGE,BitVec.reduceOfInt,BitVec.reduceAnd,BitVec.reduceOr,BitVec.reduceXOr,BitVec.reduceToNat,Int.reduceToNat,Int.reducePow,Int.reduceMul,hT.all,w1,w2,w3,w4,w5,w6,w7,w8]
    refine hS.one (pFrom M _ _) ?_
    simp only [gX,gT,gM,gL,gB,wantedA,evOp,opv,absC,absC0,isAggT,resA,resultA,binA,eqA,eqGuardA,isConstA,isFlatScalar,shiftOp,strOp,ordB,readN,sliceCells,lenA,storeA,newA,buildA,fillA,buildSliceA,boundsA,bndA,sliceA,ptrOK,fieldAddrA,fieldA,indexA,extractA,convA,isIntT,biA,bytesOf,setAll,List.replicate,Nat.reduceAdd,Nat.reduceSub,Nat.reduceMul,Nat.reduceLT,Nat.reduceLeDiff,Nat.reduceEqDiff,Int.reduceEq,Int.reduceLT,Int.reduceLE,Int.reduceNe,Int.reduceAdd,Nat.reduceBEq,reduceCtorEq,lenB_nil,lenB_slice,lenB_oslice,lenB_str,lenB_agg,indexAddrA_slice,indexAddrA_oslice,indexAddrA_ptr,indexAddrA_optr,loadA_ptr,loadA_optr,lenK,indexK,loadK,Int.reduceBEq,Int.reduceBNe,Int.reduceMod,Int.reduceDiv,Int.reduceTDiv,Int.reduceTMod,Int.reduceFDiv,Int.reduceSub,Int.reduceNeg,Int.reduceGT,Int.reduceGE,BitVec.reduceOfInt,BitVec.reduceAnd,BitVec.reduceOr,BitVec.reduceXOr,BitVec.reduceToNat,Int.reduceToNat,Int.reducePow,Int.reduceMul,hT.all]
  refine fpure rfl rfl (fw Tryz.func70 (by kernel_rfl) rfl (by kernel_rfl) fun C L T hT hS => ?_) H
  simp only [gX,gT,gM,gL,gB,wantedA,evOp,opv,absC,absC0,isAggT,resA,resultA,binA,eqA,eqGuardA,isConstA,isFlatScalar,shiftOp,strOp,ordB,readN,sliceCells,lenA,storeA,newA,buildA,fillA,buildSliceA,boundsA,bndA,sliceA,ptrOK,fieldAddrA,fieldA,indexA,extractA,convA,isIntT,biA,bytesOf,setAll,List.replicate,Nat.reduceAdd,Nat.reduceSub,Nat.reduceMul,Nat.reduceLT,Nat.reduceLeDiff,Nat.reduceEqDiff,Int.reduceEq,Int.reduceLT,Int.reduceLE,Int.reduceNe,Int.reduceAdd,Nat.reduceBEq,reduceCtorEq,lenB_nil,lenB_slice,lenB_oslice,lenB_str,lenB_agg,indexAddrA_slice,indexAddrA_oslice,indexAddrA_ptr,indexAddrA_optr,loadA_ptr,loadA_optr,lenK,indexK,loadK,Int.reduceBEq,Int.reduceBNe,Int.reduceMod,Int.reduceDiv,Int.reduceTDiv,Int.reduceTMod,Int.reduceFDiv,Int.reduceSub,Int.reduceNeg,Int.reduceGT,Int.reduceGE,BitVec.reduceOfInt,BitVec.reduceAnd,BitVec.reduceOr,BitVec.reduceXOr,BitVec.reduceToNat,Int.reduceToNat,Int.reducePow,Int.reduceMul,hT.all,Tryz.f70]
  refine hS.one h2 ?_
  simp only [gX,gT,gM,gL,gB,wantedA,evOp,opv,absC,absC0,isAggT,resA,resultA,binA,eqA,eqGuardA,isConstA,isFlatScalar,shiftOp,strOp,ordB,readN,sliceCells,lenA,storeA,newA,buildA,fillA,buildSliceA,boundsA,bndA,sliceA,ptrOK,fieldAddrA,fieldA,indexA,extractA,convA,isIntT,biA,bytesOf,setAll,List.replicate,Nat.reduceAdd,Nat.reduceSub,Nat.reduceMul,Nat.reduceLT,Nat.reduceLeDiff,Nat.reduceEqDiff,Int.reduceEq,Int.reduceLT,Int.reduceLE,Int.reduceNe,Int.reduceAdd,Nat.reduceBEq,reduceCtorEq,lenB_nil,lenB_slice,lenB_oslice,lenB_str,lenB_agg,indexAddrA_slice,indexAddrA_oslice,indexAddrA_ptr,indexAddrA_optr,loadA_ptr,loadA_optr,lenK,indexK,loadK,Int.reduceBEq,Int.reduceBNe,Int.reduceMod,Int.reduceDiv,Int.reduceTDiv,Int.reduceTMod,Int.reduceFDiv,Int.reduceSub,Int.reduceNeg,Int.reduceGT,Int.reduceGE,BitVec.reduceOfInt,BitVec.reduceAnd,BitVec.reduceOr,BitVec.reduceXOr,BitVec.reduceToNat,Int.reduceToNat,Int.reducePow,Int.reduceMul,hT.all]

/-- What a float falls into. -/
def splitV (s : Bool) (r : Nat) : AV := if r = 0 then .tup [.int .i64 0, .int .i64 0, .int .i64 0] else .tup [.int .i64 (sI s (magOf r / 2 ^ tz (magOf r))), .int .i64 (-1074 + upOf r + tz (magOf r)), .int .i64 0]

theorem toInt_word {s : Bool} {K : Nat} (h1 : 4503599627370496 ≤ K) (h2 : K < 9007199254740992) : Ieee.Datum.toInt .zero (FloatKind.decode .f64 (D.word s (1074 * 4503599627370496 + K))) = some (sI s K) := by
  have e := mag_up (e := 1074) (k := K) h1 (by omega)
  show Ieee.Datum.toInt .zero (D.read (D.word s (1074 * 4503599627370496 + K))) = _
  rw [read_word (by omega), e.1, e.2]
  rw [show (-1074 + ((1074 : Nat) : Int)) = 0 by decide]
  unfold Ieee.Datum.toInt Ieee.Datum.integral
  simp only
  have hc : Ieee.Toward.zero.cut s (K <<< (0 : Int).toNat) (-0 : Int).toNat = K := by
    unfold Ieee.Toward.cut
    rw [show (0 : Int).toNat = 0 by rfl, show (-0 : Int).toNat = 0 by rfl, Nat.shiftLeft_zero]
    simp
  rw [hc]
  unfold Ieee.signed sI
  rw [Nat.shiftLeft_zero]

theorem sSplit (M : Addr → Option AV) (hM : ∀ a v, tabM a = some v → M a = some v) (H : Heap) {n r : Nat} {s : Bool} (hn : n = D.word s r) (hr : r < 9218868437227405312) :
    SemF Tryz.prog M 33 [.float .f64 n] H fun v h => v = splitV s r ∧ h = H := by
  have hw := word_neg (s := s) (r := r) (by omega)
  rw [← hn, d_sw] at hw
  have hnn : isNaN .f64 n = false := by rw [isNaN_of, decide_eq_false_iff_not]; omega
  have hnl : n < 18446744073709551616 := by have := (word_parts (s := s) (y := r) (by omega)).2.2.2; omega
  have hcl := sClass M [] hnl
  unfold splitV
  by_cases h0 : r = 0
  · rw [if_pos h0]
    have hc : clsW n = 3 := by
      unfold clsW
      rw [hnn, if_neg (by decide), if_neg (by omega), if_pos (by omega)]
    rw [hc] at hcl
    refine fpure rfl rfl (fw Tryz.func33 (by kernel_rfl) rfl (by kernel_rfl) fun C L T hT hS => ?_) H
    simp only [gX,gT,gM,gL,gB,wantedA,evOp,opv,absC,absC0,isAggT,resA,resultA,binA,eqA,eqGuardA,isConstA,isFlatScalar,shiftOp,strOp,ordB,readN,sliceCells,lenA,storeA,newA,buildA,fillA,buildSliceA,boundsA,bndA,sliceA,ptrOK,fieldAddrA,fieldA,indexA,extractA,convA,isIntT,biA,bytesOf,setAll,List.replicate,Nat.reduceAdd,Nat.reduceSub,Nat.reduceMul,Nat.reduceLT,Nat.reduceLeDiff,Nat.reduceEqDiff,Int.reduceEq,Int.reduceLT,Int.reduceLE,Int.reduceNe,Int.reduceAdd,Nat.reduceBEq,reduceCtorEq,lenB_nil,lenB_slice,lenB_oslice,lenB_str,lenB_agg,indexAddrA_slice,indexAddrA_oslice,indexAddrA_ptr,indexAddrA_optr,loadA_ptr,loadA_optr,lenK,indexK,loadK,Int.reduceBEq,Int.reduceBNe,Int.reduceMod,Int.reduceDiv,Int.reduceTDiv,Int.reduceTMod,Int.reduceFDiv,Int.reduceSub,Int.reduceNeg,Int.reduceGT,Int.reduceGE,BitVec.reduceOfInt,BitVec.reduceAnd,BitVec.reduceOr,BitVec.reduceXOr,BitVec.reduceToNat,Int.reduceToNat,Int.reducePow,Int.reduceMul,hT.all,Tryz.f33]
    refine hS.one hcl ?_
    simp only [gX,gT,gM,gL,gB,wantedA,evOp,opv,absC,absC0,isAggT,resA,resultA,binA,eqA,eqGuardA,isConstA,isFlatScalar,shiftOp,strOp,ordB,readN,sliceCells,lenA,storeA,newA,buildA,fillA,buildSliceA,boundsA,bndA,sliceA,ptrOK,fieldAddrA,fieldA,indexA,extractA,convA,isIntT,biA,bytesOf,setAll,List.replicate,Nat.reduceAdd,Nat.reduceSub,Nat.reduceMul,Nat.reduceLT,Nat.reduceLeDiff,Nat.reduceEqDiff,Int.reduceEq,Int.reduceLT,Int.reduceLE,Int.reduceNe,Int.reduceAdd,Nat.reduceBEq,reduceCtorEq,lenB_nil,lenB_slice,lenB_oslice,lenB_str,lenB_agg,indexAddrA_slice,indexAddrA_oslice,indexAddrA_ptr,indexAddrA_optr,loadA_ptr,loadA_optr,lenK,indexK,loadK,Int.reduceBEq,Int.reduceBNe,Int.reduceMod,Int.reduceDiv,Int.reduceTDiv,Int.reduceTMod,Int.reduceFDiv,Int.reduceSub,Int.reduceNeg,Int.reduceGT,Int.reduceGE,BitVec.reduceOfInt,BitVec.reduceAnd,BitVec.reduceOr,BitVec.reduceXOr,BitVec.reduceToNat,Int.reduceToNat,Int.reducePow,Int.reduceMul,hT.all]
  · rw [if_neg h0]
    have hc : clsW n = 4 ∨ clsW n = 5 := by
      unfold clsW
      rw [hnn, if_neg (by decide), if_neg (by omega), if_neg (by omega)]
      split <;> omega
    obtain ⟨c, hcc⟩ : ∃ c, c = clsW n := ⟨_, rfl⟩
    rw [← hcc] at hcl hc
    have b1 : (c == 1) = false := by rw [beq_eq_false_iff_ne]; omega
    have b2 : (c == 2) = false := by rw [beq_eq_false_iff_ne]; omega
    have b3 : (c == 3) = false := by rw [beq_eq_false_iff_ne]; omega
    obtain ⟨K, E, q1, q2, q3, q4, q5, q6, q7, q8, q9, q10, q11, q12⟩ := norm_parts h0 hr
    have hfr := pFrexp M [] hn h0 hr q1 q2 q8 q5
    have e1 := mag_up (e := 1021) (k := K) (by omega) (by omega)
    have hm := mul_pow (s := s) (r := 1021 * 4503599627370496 + K) (k := 53) (by omega) (by omega) (by omega)
    have hra := rung_at (r := 1021 * 4503599627370496 + K) 53 (by omega) (by omega)
    rw [hra, e1.1, e1.2, show (1023 + 53 : Int).toNat * 4503599627370496 = 4845873199050653696 by decide, show (53 + ((1021 : Nat) : Int)).toNat = 1074 by decide, Nat.min_eq_left (by omega)] at hm
    have hmb := mul_bin hm
    have hti := toInt_word (s := s) (K := K) (by omega) q3
    have hir : IntKind.i64.min ≤ sI s K ∧ sI s K ≤ IntKind.i64.max := by
      have h1 : IntKind.i64.min = -9223372036854775808 := by decide
      have h2 : IntKind.i64.max = 9223372036854775807 := by decide
      unfold sI
      rw [h1, h2]
      split <;> omega
    obtain ⟨X, hX⟩ : ∃ X : Nat, X = (if s = true then 18446744073709551616 - K else K) := ⟨_, rfl⟩
    have w1 : IntKind.u64.wrap (sI s K) = X := by
      rw [wU, hX]
      unfold sI
      split <;> omega
    have hX2 : X ≠ 0 ∧ X < 18446744073709551616 ∧ X &&& (18446744073709551616 - X) = 2 ^ tz K := by
      have hl := low_bit64 (x := K) (by omega) (by omega)
      rw [hX]
      split
      · rw [show 18446744073709551616 - (18446744073709551616 - K) = K by omega, Nat.and_comm]
        exact ⟨by omega, by omega, hl⟩
      · exact ⟨by omega, by omega, hl⟩
    have htr := pTrail M hM [] hX2.1 hX2.2.1 hX2.2.2 q11
    have w2 : IntKind.i64.wrap (normE r + E - 1022 - 53) = normE r + E - 1075 := by rw [wrap_i64 (by omega) (by omega)]; omega
    have w3 : IntKind.i64.wrap (normE r + E - 1075 + (tz K : Nat)) = -1074 + upOf r + tz (magOf r) := by rw [wrap_i64 (by omega) (by omega)]; omega
    have w4 : shiftOp .shr .i64 (sI s K) (tz K : Nat) = some (.int .i64 (sI s (magOf r / 2 ^ tz (magOf r)))) := by
      unfold shiftOp
      rw [if_neg (by omega)]
      have e : min (((tz K : Nat) : Int).toNat) (IntKind.bits .i64) = tz K := by
        show min (((tz K : Nat) : Int).toNat) 64 = tz K
        omega
      simp only [e]
      congr 2
      rw [← q6]
      have hp := Nat.two_pow_pos (tz K)
      have hpi : (0 : Int) < 2 ^ tz K := Int.pow_pos (by omega)
      rw [Int.fdiv_eq_ediv_of_nonneg _ (Int.le_of_lt hpi)]
      have e5 : sI s K = sI s (K / 2 ^ tz K) * 2 ^ tz K := by
        have e6 : (K : Int) = (K / 2 ^ tz K : Nat) * 2 ^ tz K := by
          conv => lhs; rw [q12]
          rw [Int.natCast_mul, Int.natCast_pow]; rfl
        unfold sI
        split
        · rw [Int.neg_mul, ← e6]
        · exact e6
      rw [e5]
      exact Int.mul_ediv_cancel _ (by omega)
    obtain ⟨e0, he0⟩ : ∃ x, x = normE r := ⟨_, rfl⟩
    obtain ⟨k, hk⟩ : ∃ x, x = tz K := ⟨_, rfl⟩
    obtain ⟨sk, hsk⟩ : ∃ x, x = sI s K := ⟨_, rfl⟩
    obtain ⟨x1, hx1⟩ : ∃ x, x = D.word s (1021 * 4503599627370496 + K) := ⟨_, rfl⟩
    obtain ⟨x2, hx2⟩ : ∃ x, x = D.word s (1074 * 4503599627370496 + K) := ⟨_, rfl⟩
    obtain ⟨y1, hy1⟩ : ∃ x, x = sI s (magOf r / 2 ^ tz (magOf r)) := ⟨_, rfl⟩
    obtain ⟨y2, hy2⟩ : ∃ x, x = -1074 + (upOf r : Int) + tz (magOf r) := ⟨_, rfl⟩
    rw [← he0] at hfr w2 w3
    rw [← hk] at htr w3 w4
    rw [← hsk] at hti hir w1 w4
    rw [← hx1] at hfr hmb
    rw [← hx2] at hmb hti
    rw [← hy1] at w4 ⊢
    rw [← hy2] at w3 ⊢
    refine fpure rfl rfl (fw Tryz.func33 (by kernel_rfl) rfl (by kernel_rfl) fun C L T hT hS => ?_) H
    simp only [gX,gT,gM,gL,gB,wantedA,evOp,opv,absC,absC0,isAggT,resA,resultA,binA,eqA,eqGuardA,isConstA,isFlatScalar,shiftOp,strOp,ordB,readN,sliceCells,lenA,storeA,newA,buildA,fillA,buildSliceA,boundsA,bndA,sliceA,ptrOK,fieldAddrA,fieldA,indexA,extractA,convA,isIntT,biA,bytesOf,setAll,List.replicate,Nat.reduceAdd,Nat.reduceSub,Nat.reduceMul,Nat.reduceLT,Nat.reduceLeDiff,Nat.reduceEqDiff,Int.reduceEq,Int.reduceLT,Int.reduceLE,Int.reduceNe,Int.reduceAdd,Nat.reduceBEq,reduceCtorEq,lenB_nil,lenB_slice,lenB_oslice,lenB_str,lenB_agg,indexAddrA_slice,indexAddrA_oslice,indexAddrA_ptr,indexAddrA_optr,loadA_ptr,loadA_optr,lenK,indexK,loadK,Int.reduceBEq,Int.reduceBNe,Int.reduceMod,Int.reduceDiv,Int.reduceTDiv,Int.reduceTMod,Int.reduceFDiv,Int.reduceSub,Int.reduceNeg,Int.reduceGT,Int.reduceGE,BitVec.reduceOfInt,BitVec.reduceAnd,BitVec.reduceOr,BitVec.reduceXOr,BitVec.reduceToNat,Int.reduceToNat,Int.reducePow,Int.reduceMul,hT.all,Tryz.f33]
    refine hS.one hcl ?_
    simp only [gX,gT,gM,gL,gB,wantedA,evOp,opv,absC,absC0,isAggT,resA,resultA,binA,eqA,eqGuardA,isConstA,isFlatScalar,shiftOp,strOp,ordB,readN,sliceCells,lenA,storeA,newA,buildA,fillA,buildSliceA,boundsA,bndA,sliceA,ptrOK,fieldAddrA,fieldA,indexA,extractA,convA,isIntT,biA,bytesOf,setAll,List.replicate,Nat.reduceAdd,Nat.reduceSub,Nat.reduceMul,Nat.reduceLT,Nat.reduceLeDiff,Nat.reduceEqDiff,Int.reduceEq,Int.reduceLT,Int.reduceLE,Int.reduceNe,Int.reduceAdd,Nat.reduceBEq,reduceCtorEq,lenB_nil,lenB_slice,lenB_oslice,lenB_str,lenB_agg,indexAddrA_slice,indexAddrA_oslice,indexAddrA_ptr,indexAddrA_optr,loadA_ptr,loadA_optr,lenK,indexK,loadK,Int.reduceBEq,Int.reduceBNe,Int.reduceMod,Int.reduceDiv,Int.reduceTDiv,Int.reduceTMod,Int.reduceFDiv,Int.reduceSub,Int.reduceNeg,Int.reduceGT,Int.reduceGE,BitVec.reduceOfInt,BitVec.reduceAnd,BitVec.reduceOr,BitVec.reduceXOr,BitVec.reduceToNat,Int.reduceToNat,Int.reducePow,Int.reduceMul,hT.all,b1,b2,b3]
    refine hS.one hfr ?_
    simp only [gX,gT,gM,gL,gB,wantedA,evOp,opv,absC,absC0,isAggT,resA,resultA,eqA,eqGuardA,isConstA,isFlatScalar,shiftOp,strOp,ordB,readN,sliceCells,lenA,storeA,newA,buildA,fillA,buildSliceA,boundsA,bndA,sliceA,ptrOK,fieldAddrA,fieldA,indexA,extractA,convA,isIntT,biA,bytesOf,setAll,List.replicate,Nat.reduceAdd,Nat.reduceSub,Nat.reduceMul,Nat.reduceLT,Nat.reduceLeDiff,Nat.reduceEqDiff,Int.reduceEq,Int.reduceLT,Int.reduceLE,Int.reduceNe,Int.reduceAdd,Nat.reduceBEq,reduceCtorEq,lenB_nil,lenB_slice,lenB_oslice,lenB_str,lenB_agg,indexAddrA_slice,indexAddrA_oslice,indexAddrA_ptr,indexAddrA_optr,loadA_ptr,loadA_optr,lenK,indexK,loadK,Int.reduceBEq,Int.reduceBNe,Int.reduceMod,Int.reduceDiv,Int.reduceTDiv,Int.reduceTMod,Int.reduceFDiv,Int.reduceSub,Int.reduceNeg,Int.reduceGT,Int.reduceGE,BitVec.reduceOfInt,BitVec.reduceAnd,BitVec.reduceOr,BitVec.reduceXOr,BitVec.reduceToNat,Int.reduceToNat,Int.reducePow,Int.reduceMul,hT.all,hmb,hti,hir,w1,w2,binA_int]
    refine hS.one htr ?_
    simp only [gX,gT,gM,gL,gB,wantedA,evOp,opv,absC,absC0,isAggT,resA,resultA,binA,eqA,eqGuardA,isConstA,isFlatScalar,strOp,ordB,readN,sliceCells,lenA,storeA,newA,buildA,fillA,buildSliceA,boundsA,bndA,sliceA,ptrOK,fieldAddrA,fieldA,indexA,extractA,convA,isIntT,biA,bytesOf,setAll,List.replicate,Nat.reduceAdd,Nat.reduceSub,Nat.reduceMul,Nat.reduceLT,Nat.reduceLeDiff,Nat.reduceEqDiff,Int.reduceEq,Int.reduceLT,Int.reduceLE,Int.reduceNe,Int.reduceAdd,Nat.reduceBEq,reduceCtorEq,lenB_nil,lenB_slice,lenB_oslice,lenB_str,lenB_agg,indexAddrA_slice,indexAddrA_oslice,indexAddrA_ptr,indexAddrA_optr,loadA_ptr,loadA_optr,lenK,indexK,loadK,Int.reduceBEq,Int.reduceBNe,Int.reduceMod,Int.reduceDiv,Int.reduceTDiv,Int.reduceTMod,Int.reduceFDiv,Int.reduceSub,Int.reduceNeg,Int.reduceGT,Int.reduceGE,BitVec.reduceOfInt,BitVec.reduceAnd,BitVec.reduceOr,BitVec.reduceXOr,BitVec.reduceToNat,Int.reduceToNat,Int.reducePow,Int.reduceMul,hT.all,w3,w4]

/-- What is no finite float falls into nothing. -/
theorem sSplitN (M : Addr → Option AV) (H : Heap) {n : Nat} (h : n < 18446744073709551616) (hn : 9218868437227405312 ≤ n % 9223372036854775808) :
    SemF Tryz.prog M 33 [.float .f64 n] H fun v h => v = .tup [.int .i64 0, .int .i64 0, .int .i64 20] ∧ h = H := by
  have hcl := sClass M [] h
  cases hnn : isNaN .f64 n
  · have hl := num_lt hnn
    have hc : clsW n = 2 := by
      unfold clsW
      rw [hnn, if_neg (by decide), if_pos (by omega)]
    rw [hc] at hcl
    refine fpure rfl rfl (fw Tryz.func33 (by kernel_rfl) rfl (by kernel_rfl) fun C L T hT hS => ?_) H
    simp only [gX,gT,gM,gL,gB,wantedA,evOp,opv,absC,absC0,isAggT,resA,resultA,binA,eqA,eqGuardA,isConstA,isFlatScalar,shiftOp,strOp,ordB,readN,sliceCells,lenA,storeA,newA,buildA,fillA,buildSliceA,boundsA,bndA,sliceA,ptrOK,fieldAddrA,fieldA,indexA,extractA,convA,isIntT,biA,bytesOf,setAll,List.replicate,Nat.reduceAdd,Nat.reduceSub,Nat.reduceMul,Nat.reduceLT,Nat.reduceLeDiff,Nat.reduceEqDiff,Int.reduceEq,Int.reduceLT,Int.reduceLE,Int.reduceNe,Int.reduceAdd,Nat.reduceBEq,reduceCtorEq,lenB_nil,lenB_slice,lenB_oslice,lenB_str,lenB_agg,indexAddrA_slice,indexAddrA_oslice,indexAddrA_ptr,indexAddrA_optr,loadA_ptr,loadA_optr,lenK,indexK,loadK,Int.reduceBEq,Int.reduceBNe,Int.reduceMod,Int.reduceDiv,Int.reduceTDiv,Int.reduceTMod,Int.reduceFDiv,Int.reduceSub,Int.reduceNeg,Int.reduceGT,Int.reduceGE,BitVec.reduceOfInt,BitVec.reduceAnd,BitVec.reduceOr,BitVec.reduceXOr,BitVec.reduceToNat,Int.reduceToNat,Int.reducePow,Int.reduceMul,hT.all,Tryz.f33]
    refine hS.one hcl ?_
    simp only [gX,gT,gM,gL,gB,wantedA,evOp,opv,absC,absC0,isAggT,resA,resultA,binA,eqA,eqGuardA,isConstA,isFlatScalar,shiftOp,strOp,ordB,readN,sliceCells,lenA,storeA,newA,buildA,fillA,buildSliceA,boundsA,bndA,sliceA,ptrOK,fieldAddrA,fieldA,indexA,extractA,convA,isIntT,biA,bytesOf,setAll,List.replicate,Nat.reduceAdd,Nat.reduceSub,Nat.reduceMul,Nat.reduceLT,Nat.reduceLeDiff,Nat.reduceEqDiff,Int.reduceEq,Int.reduceLT,Int.reduceLE,Int.reduceNe,Int.reduceAdd,Nat.reduceBEq,reduceCtorEq,lenB_nil,lenB_slice,lenB_oslice,lenB_str,lenB_agg,indexAddrA_slice,indexAddrA_oslice,indexAddrA_ptr,indexAddrA_optr,loadA_ptr,loadA_optr,lenK,indexK,loadK,Int.reduceBEq,Int.reduceBNe,Int.reduceMod,Int.reduceDiv,Int.reduceTDiv,Int.reduceTMod,Int.reduceFDiv,Int.reduceSub,Int.reduceNeg,Int.reduceGT,Int.reduceGE,BitVec.reduceOfInt,BitVec.reduceAnd,BitVec.reduceOr,BitVec.reduceXOr,BitVec.reduceToNat,Int.reduceToNat,Int.reducePow,Int.reduceMul,hT.all]
  · have hc : clsW n = 1 := by
      unfold clsW
      rw [hnn, if_pos rfl]
    rw [hc] at hcl
    refine fpure rfl rfl (fw Tryz.func33 (by kernel_rfl) rfl (by kernel_rfl) fun C L T hT hS => ?_) H
    simp only [gX,gT,gM,gL,gB,wantedA,evOp,opv,absC,absC0,isAggT,resA,resultA,binA,eqA,eqGuardA,isConstA,isFlatScalar,shiftOp,strOp,ordB,readN,sliceCells,lenA,storeA,newA,buildA,fillA,buildSliceA,boundsA,bndA,sliceA,ptrOK,fieldAddrA,fieldA,indexA,extractA,convA,isIntT,biA,bytesOf,setAll,List.replicate,Nat.reduceAdd,Nat.reduceSub,Nat.reduceMul,Nat.reduceLT,Nat.reduceLeDiff,Nat.reduceEqDiff,Int.reduceEq,Int.reduceLT,Int.reduceLE,Int.reduceNe,Int.reduceAdd,Nat.reduceBEq,reduceCtorEq,lenB_nil,lenB_slice,lenB_oslice,lenB_str,lenB_agg,indexAddrA_slice,indexAddrA_oslice,indexAddrA_ptr,indexAddrA_optr,loadA_ptr,loadA_optr,lenK,indexK,loadK,Int.reduceBEq,Int.reduceBNe,Int.reduceMod,Int.reduceDiv,Int.reduceTDiv,Int.reduceTMod,Int.reduceFDiv,Int.reduceSub,Int.reduceNeg,Int.reduceGT,Int.reduceGE,BitVec.reduceOfInt,BitVec.reduceAnd,BitVec.reduceOr,BitVec.reduceXOr,BitVec.reduceToNat,Int.reduceToNat,Int.reducePow,Int.reduceMul,hT.all,Tryz.f33]
    refine hS.one hcl ?_
    simp only [gX,gT,gM,gL,gB,wantedA,evOp,opv,absC,absC0,isAggT,resA,resultA,binA,eqA,eqGuardA,isConstA,isFlatScalar,shiftOp,strOp,ordB,readN,sliceCells,lenA,storeA,newA,buildA,fillA,buildSliceA,boundsA,bndA,sliceA,ptrOK,fieldAddrA,fieldA,indexA,extractA,convA,isIntT,biA,bytesOf,setAll,List.replicate,Nat.reduceAdd,Nat.reduceSub,Nat.reduceMul,Nat.reduceLT,Nat.reduceLeDiff,Nat.reduceEqDiff,Int.reduceEq,Int.reduceLT,Int.reduceLE,Int.reduceNe,Int.reduceAdd,Nat.reduceBEq,reduceCtorEq,lenB_nil,lenB_slice,lenB_oslice,lenB_str,lenB_agg,indexAddrA_slice,indexAddrA_oslice,indexAddrA_ptr,indexAddrA_optr,loadA_ptr,loadA_optr,lenK,indexK,loadK,Int.reduceBEq,Int.reduceBNe,Int.reduceMod,Int.reduceDiv,Int.reduceTDiv,Int.reduceTMod,Int.reduceFDiv,Int.reduceSub,Int.reduceNeg,Int.reduceGT,Int.reduceGE,BitVec.reduceOfInt,BitVec.reduceAnd,BitVec.reduceOr,BitVec.reduceXOr,BitVec.reduceToNat,Int.reduceToNat,Int.reducePow,Int.reduceMul,hT.all]

end Go.Proofs.YtpddepehlinfnaaGreatDoor.B
