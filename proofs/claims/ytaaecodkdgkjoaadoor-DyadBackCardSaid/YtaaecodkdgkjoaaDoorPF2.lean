/- Part of a claim: floats of whole numbers, scaled by the library. -/
import Derived.Test.YtaaecodkdgkjoaaDoorPH8
import Derived.Test.YtaaecodkdgkjoaaDoorPF1
set_option linter.unusedSimpArgs false
set_option linter.unusedVariables false
set_option maxRecDepth 100000
set_option maxHeartbeats 10000000
namespace Go.Proofs.YtaaecodkdgkjoaaDoor.B
open Go Go.RowKit Go.Proofs.YtaaecodkdgkjoaaDoor.E Go.Proofs.YtaaecodkdgkjoaaDoor.FL

theorem word_false (r : Nat) : D.word false r = r := rfl

theorem isNaN_of (n : Nat) : isNaN .f64 n = decide (9218868437227405312 < n % 9223372036854775808) := by
  have e : D.read n = D.read (D.word (n / 9223372036854775808 % 2 == 1) (n % 9223372036854775808)) := by
    have h := word_neg (s := (n / 9223372036854775808 % 2 == 1)) (r := n % 9223372036854775808) (Nat.mod_lt _ (by omega))
    unfold Ieee.Format.read
    rw [h.1, h.2]
    rfl
  unfold isNaN
  show (D.read n).isNaN = _
  rw [e]
  have hr : n % 9223372036854775808 < 9223372036854775808 := Nat.mod_lt _ (by omega)
  revert hr
  generalize n % 9223372036854775808 = r
  intro hr
  rcases Nat.lt_trichotomy r 9218868437227405312 with h | h | h
  · rw [read_word h, decide_eq_false (by omega)]; rfl
  · subst h; rw [read_inf]; rfl
  · rw [read_nan h hr, decide_eq_true h]; rfl

theorem ofInt_nat (n : Nat) : BitVec.ofInt 64 (n : Int) = BitVec.ofNat 64 n := by simp

theorem sgn (n : Nat) (h : n < 18446744073709551616) : IntKind.u64.wrap (((BitVec.ofInt 64 (n : Int)) &&& 9223372036854775808#64).toNat : Int) = if 9223372036854775808 ≤ n then 9223372036854775808 else 0 := by
  have e2 : (BitVec.ofNat 64 n &&& 9223372036854775808#64).toNat = if 9223372036854775808 ≤ n then 9223372036854775808 else 0 := by
    rw [BitVec.toNat_and, BitVec.toNat_ofNat, BitVec.toNat_ofNat, Nat.mod_eq_of_lt (show n < 2 ^ 64 by omega), show 9223372036854775808 % 2 ^ 64 = 2 ^ 63 by decide]
    split
    · rw [show (9223372036854775808 : Nat) = 2 ^ 63 by decide]
      refine Nat.eq_of_testBit_eq fun i => ?_
      rw [Nat.testBit_and, Nat.testBit_two_pow]
      by_cases hi : 63 = i
      · subst hi
        rw [Nat.testBit_eq_decide_div_mod_eq, decide_eq_true (by omega)]; rfl
      · rw [decide_eq_false hi, Bool.and_false]
    · refine Nat.eq_of_testBit_eq fun i => ?_
      rw [Nat.testBit_and, Nat.testBit_two_pow, Nat.zero_testBit]
      by_cases hi : 63 = i
      · subst hi
        rw [Nat.testBit_eq_decide_div_mod_eq, decide_eq_false (by omega)]; rfl
      · rw [decide_eq_false hi, Bool.and_false]
  rw [ofInt_nat, e2]
  have w : ∀ x : Int, IntKind.u64.wrap x = x % 18446744073709551616 := fun _ => rfl
  rw [w]; split <;> rfl

theorem neq_nan {T : Tab} {t : TypeId} {x y : Operand} {b : Nat} (h : isNaN .f64 b = true) : binA T .neq t x y (.float .f64 b) (.float .f64 b) = some (.bool true) := by
  simp only [binA, fArith, order_nan_l h, ordB, if_true, Option.map_some]
  rfl

theorem order_self {b : Nat} (h : isNaN .f64 b = false) : FloatKind.f64.format.order b b = some .eq := by
  unfold isNaN at h
  unfold Ieee.Format.order
  cases hr : FloatKind.f64.format.read b with
  | number s m i => simp only [Ieee.Datum.order]; exact congrArg some Std.ReflCmp.compare_self
  | infinity s => simp only [Ieee.Datum.order]; exact congrArg some Std.ReflCmp.compare_self
  | nan s f => rw [hr] at h; simp [Ieee.Datum.isNaN] at h

theorem neq_num {T : Tab} {t : TypeId} {x y : Operand} {b : Nat} (h : isNaN .f64 b = false) : binA T .neq t x y (.float .f64 b) (.float .f64 b) = some (.bool false) := by
  simp only [binA, fArith, order_self h, ordB, if_true, Option.map_some]
  rfl

theorem neq_dec {T : Tab} {t : TypeId} {x y : Operand} {b : Nat} : binA T .neq t x y (.float .f64 b) (.float .f64 b) = some (.bool (isNaN .f64 b)) := by
  cases h : isNaN .f64 b
  · exact neq_num h
  · exact neq_nan h

theorem num_lt {n : Nat} (hn : isNaN .f64 n = false) : n % 9223372036854775808 ≤ 9218868437227405312 := by
  rw [isNaN_of, decide_eq_false_iff_not] at hn; omega

theorem gt_max {T : Tab} {t : TypeId} {x y : Operand} (s : Bool) {r : Nat} (hr : r ≤ 9218868437227405312) : binA T .gtr t x y (.float .f64 (D.word s r)) (.float .f64 9218868437227405311) = some (.bool (decide (s = false ∧ r = 9218868437227405312))) := by
  have e : (9218868437227405311 : Nat) = D.word false 9218868437227405311 := rfl
  have ho := order_word (s := s) (t := false) (r := r) (q := 9218868437227405311) hr (by omega)
  rw [← e] at ho
  simp only [binA, fArith, if_true]
  rw [show FloatKind.f64.format = D from rfl, ho]
  simp only [ordB, Option.map_some]
  congr 2
  have hv : 0 < V 9218868437227405311 := V_pos (by omega)
  rw [sval_false]
  cases s
  · rw [sval_false]
    by_cases h : r = 9218868437227405312
    · have hl := V_lt (r := 9218868437227405311) (s := r) (by omega)
      rw [compare_gt (by omega), decide_eq_true ⟨rfl, h⟩]; rfl
    · rw [decide_eq_false (fun hh => h hh.2)]
      rcases Nat.lt_or_ge r 9218868437227405311 with hl | hl
      · have hl := V_lt hl
        rw [compare_lt (by omega)]; rfl
      · rw [show r = 9218868437227405311 by omega, compare_eq]; rfl
  · rw [sval_true, compare_lt (by omega), decide_eq_false (fun hh => by cases hh.1)]; rfl

theorem wU (x : Int) : IntKind.u64.wrap x = x % 18446744073709551616 := rfl

theorem shlU {a n : Nat} (hn : n < 64) (h : a * 2 ^ n < 18446744073709551616) : shiftOp .shl .u64 (a : Int) (n : Int) = some (.int .u64 ((a * 2 ^ n : Nat) : Int)) := by
  unfold shiftOp
  rw [if_neg (by omega)]
  have e : min ((n : Int).toNat) (IntKind.bits .u64) = n := by
    show min ((n : Int).toNat) 64 = n
    omega
  simp only [e]
  congr 2
  have e2 : ((a : Int) * 2 ^ n) = ((a * 2 ^ n : Nat) : Int) := by rw [Int.natCast_mul, Int.natCast_pow]; rfl
  rw [e2, wU]
  omega

theorem and64 {a b : Nat} (ha : a < 18446744073709551616) (hb : b < 18446744073709551616) : IntKind.u64.wrap (((BitVec.ofInt 64 (a : Int)) &&& (BitVec.ofInt 64 (b : Int))).toNat : Int) = ((a &&& b : Nat) : Int) := by
  have e : (BitVec.ofNat 64 a &&& BitVec.ofNat 64 b).toNat = a &&& b := by
    rw [BitVec.toNat_and, BitVec.toNat_ofNat, BitVec.toNat_ofNat, Nat.mod_eq_of_lt (by omega), Nat.mod_eq_of_lt (by omega)]
  rw [ofInt_nat, ofInt_nat, e, wU]
  have : a &&& b ≤ a := Nat.and_le_left
  omega

theorem eql_dec {T : Tab} {t : TypeId} {x y : Operand} {b : Nat} : binA T .eql t x y (.float .f64 b) (.float .f64 b) = some (.bool (!isNaN .f64 b)) := by
  cases h : isNaN .f64 b
  · simp only [binA, fArith, order_self h, ordB, if_true, Option.map_some]
    rfl
  · simp only [binA, fArith, order_nan_l h, ordB, if_true, Option.map_some]
    rfl

theorem pIsInf0 (M : Addr → Option AV) (H : Heap) (s : Bool) {r : Nat} (hr : r < 9218868437227405312) : SemF Tryd.prog M 84 [.float .f64 (D.word s r), .int .i64 0] H fun v h => v = .bool false ∧ h = H := by
  have ha := pAbs M [] s hr
  rw [word_false] at ha
  have e1 : ∀ T t x y, binA T .gtr t x y (.float .f64 r) (.float .f64 9218868437227405311) = some (.bool false) := by
    intro T t x y
    have := gt_max (T := T) (t := t) (x := x) (y := y) false (r := r) (by omega)
    rw [word_false, decide_eq_false (fun h => by have := h.2; omega)] at this
    exact this
  obtain ⟨w, hw⟩ : ∃ w, w = D.word s r := ⟨_, rfl⟩
  rw [← hw] at ha ⊢
  refine fpure rfl rfl (fw Tryd.func84 (by kernel_rfl) rfl (by kernel_rfl) fun C L T hT hS => ?_) H
  simp only [gX,gT,gM,gL,gB,wantedA,evOp,opv,absC,absC0,isAggT,resA,resultA,eqA,eqGuardA,isConstA,isFlatScalar,shiftOp,strOp,ordB,readN,sliceCells,lenA,storeA,newA,buildA,fillA,buildSliceA,boundsA,bndA,sliceA,ptrOK,fieldAddrA,fieldA,indexA,extractA,convA,isIntT,biA,bytesOf,setAll,List.replicate,Nat.reduceAdd,Nat.reduceSub,Nat.reduceMul,Nat.reduceLT,Nat.reduceLeDiff,Nat.reduceEqDiff,Int.reduceEq,Int.reduceLT,Int.reduceLE,Int.reduceNe,Int.reduceAdd,Nat.reduceBEq,reduceCtorEq,lenB_nil,lenB_slice,lenB_oslice,lenB_str,lenB_agg,indexAddrA_slice,indexAddrA_oslice,indexAddrA_ptr,indexAddrA_optr,loadA_ptr,loadA_optr,lenK,indexK,loadK,Int.reduceBEq,Int.reduceBNe,Int.reduceMod,Int.reduceDiv,Int.reduceTDiv,Int.reduceTMod,Int.reduceFDiv,Int.reduceSub,Int.reduceNeg,Int.reduceGT,Int.reduceGE,BitVec.reduceOfInt,BitVec.reduceAnd,BitVec.reduceOr,BitVec.reduceXOr,BitVec.reduceToNat,Int.reduceToNat,Int.reducePow,Int.reduceMul,hT.all,Tryd.f84,binA_int]
  refine hS.one ha ?_
  simp only [gX,gT,gM,gL,gB,wantedA,evOp,opv,absC,absC0,isAggT,resA,resultA,eqA,eqGuardA,isConstA,isFlatScalar,shiftOp,strOp,ordB,readN,sliceCells,lenA,storeA,newA,buildA,fillA,buildSliceA,boundsA,bndA,sliceA,ptrOK,fieldAddrA,fieldA,indexA,extractA,convA,isIntT,biA,bytesOf,setAll,List.replicate,Nat.reduceAdd,Nat.reduceSub,Nat.reduceMul,Nat.reduceLT,Nat.reduceLeDiff,Nat.reduceEqDiff,Int.reduceEq,Int.reduceLT,Int.reduceLE,Int.reduceNe,Int.reduceAdd,Nat.reduceBEq,reduceCtorEq,lenB_nil,lenB_slice,lenB_oslice,lenB_str,lenB_agg,indexAddrA_slice,indexAddrA_oslice,indexAddrA_ptr,indexAddrA_optr,loadA_ptr,loadA_optr,lenK,indexK,loadK,Int.reduceBEq,Int.reduceBNe,Int.reduceMod,Int.reduceDiv,Int.reduceTDiv,Int.reduceTMod,Int.reduceFDiv,Int.reduceSub,Int.reduceNeg,Int.reduceGT,Int.reduceGE,BitVec.reduceOfInt,BitVec.reduceAnd,BitVec.reduceOr,BitVec.reduceXOr,BitVec.reduceToNat,Int.reduceToNat,Int.reducePow,Int.reduceMul,hT.all,e1]

theorem pIsNaN (M : Addr → Option AV) (H : Heap) (n : Nat) : SemF Tryd.prog M 85 [.float .f64 n] H fun v h => v = .bool (isNaN .f64 n) ∧ h = H := by
  refine fpure rfl rfl (fw Tryd.func85 (by kernel_rfl) rfl (by kernel_rfl) fun C L T hT hS => ?_) H
  simp only [gX,gT,gM,gL,gB,wantedA,evOp,opv,absC,absC0,isAggT,resA,resultA,eqA,eqGuardA,isConstA,isFlatScalar,shiftOp,strOp,ordB,readN,sliceCells,lenA,storeA,newA,buildA,fillA,buildSliceA,boundsA,bndA,sliceA,ptrOK,fieldAddrA,fieldA,indexA,extractA,convA,isIntT,biA,bytesOf,setAll,List.replicate,Nat.reduceAdd,Nat.reduceSub,Nat.reduceMul,Nat.reduceLT,Nat.reduceLeDiff,Nat.reduceEqDiff,Int.reduceEq,Int.reduceLT,Int.reduceLE,Int.reduceNe,Int.reduceAdd,Nat.reduceBEq,reduceCtorEq,lenB_nil,lenB_slice,lenB_oslice,lenB_str,lenB_agg,indexAddrA_slice,indexAddrA_oslice,indexAddrA_ptr,indexAddrA_optr,loadA_ptr,loadA_optr,lenK,indexK,loadK,Int.reduceBEq,Int.reduceBNe,Int.reduceMod,Int.reduceDiv,Int.reduceTDiv,Int.reduceTMod,Int.reduceFDiv,Int.reduceSub,Int.reduceNeg,Int.reduceGT,Int.reduceGE,BitVec.reduceOfInt,BitVec.reduceAnd,BitVec.reduceOr,BitVec.reduceXOr,BitVec.reduceToNat,Int.reduceToNat,Int.reducePow,Int.reduceMul,hT.all,Tryd.f85,neq_dec]

/-- The least normal number. -/
theorem lt_word {T : Tab} {t : TypeId} {x y : Operand} {r q : Nat} (hr : r ≤ 9218868437227405312) (hq : q ≤ 9218868437227405312) : binA T .lss t x y (.float .f64 r) (.float .f64 q) = some (.bool (decide (r < q))) := by
  have ho := order_word (s := false) (t := false) (r := r) (q := q) hr hq
  rw [show D.word false r = r by rfl, show D.word false q = q by rfl, sval_false, sval_false] at ho
  simp only [binA, fArith, if_true]
  rw [show FloatKind.f64.format = D from rfl, ho]
  simp only [ordB, Option.map_some]
  congr 2
  rcases Nat.lt_trichotomy r q with h | h | h
  · have hl := V_lt h
    rw [compare_lt (by omega), decide_eq_true h]; rfl
  · rw [h, compare_eq, decide_eq_false (by omega)]; rfl
  · have hl := V_lt h
    rw [compare_gt (by omega), decide_eq_false (by omega)]; rfl

theorem mul_bin {x y w : Nat} (h : D.mul x y = some w) (T : Tab) (t : TypeId) (o p : Operand) : binA T .mul t o p (.float .f64 x) (.float .f64 y) = some (.float .f64 w) := by
  simp only [binA, fArith, if_true]
  rw [show FloatKind.f64.format = D from rfl, h]
  rfl

/-- Without its exponent. -/
theorem clrE {n : Nat} (h : n < 18446744073709551616) : IntKind.u64.wrap (((BitVec.ofInt 64 (n : Int)) &&& ~~~ 9218868437227405312#64).toNat : Int) = (n / 9223372036854775808 * 9223372036854775808 + n % 4503599627370496 : Nat) := by
  have e2 : (BitVec.ofNat 64 n &&& ~~~ 9218868437227405312#64).toNat = n / 9223372036854775808 * 9223372036854775808 + n % 4503599627370496 := by
    rw [BitVec.toNat_and, BitVec.toNat_ofNat, Nat.mod_eq_of_lt (show n < 2 ^ 64 by omega), show (~~~ 9218868437227405312#64 : BitVec 64).toNat = 2 ^ 63 + (2 ^ 52 - 1) by decide]
    have e3 : 2 ^ 63 + (2 ^ 52 - 1) = 2 ^ 63 ||| (2 ^ 52 - 1) := by
      have := Nat.two_pow_add_eq_or_of_lt (i := 63) (b := 2 ^ 52 - 1) (by decide) 1
      rw [Nat.mul_one] at this
      exact this
    rw [e3, Nat.and_or_distrib_left, Nat.and_two_pow_sub_one_eq_mod]
    have h4 : n &&& 2 ^ 63 = n / 9223372036854775808 * 2 ^ 63 := by
      have h5 := sgn n h
      rw [ofInt_nat, show (9223372036854775808#64 : BitVec 64) = BitVec.ofNat 64 (2 ^ 63) by decide, BitVec.toNat_and, BitVec.toNat_ofNat, BitVec.toNat_ofNat, Nat.mod_eq_of_lt (show n < 2 ^ 64 by omega), Nat.mod_eq_of_lt (show 2 ^ 63 < 2 ^ 64 by decide), wU] at h5
      have h6 : n &&& 2 ^ 63 ≤ 2 ^ 63 := Nat.and_le_right
      rw [show (2 : Nat) ^ 63 = 9223372036854775808 by decide] at h5 h6 ⊢
      split at h5 <;> omega
    rw [h4]
    have h7 : n % 2 ^ 52 < 2 ^ 63 := Nat.lt_of_lt_of_le (Nat.mod_lt _ (by decide)) (by decide)
    have h8 := Nat.two_pow_add_eq_or_of_lt h7 (n / 9223372036854775808)
    rw [Nat.mul_comm (2 ^ 63)] at h8
    rw [← h8, show (2 : Nat) ^ 63 = 9223372036854775808 by decide, show (2 : Nat) ^ 52 = 4503599627370496 by decide]
  rw [ofInt_nat, e2, wU]
  omega

/-- An exponent laid over. -/
theorem orE {b f k : Nat} (hb : b ≤ 1) (hf : f < 4503599627370496) (hk : k < 2048) : IntKind.u64.wrap (((BitVec.ofInt 64 ((b * 9223372036854775808 + f : Nat) : Int)) ||| (BitVec.ofNat 64 (k * 4503599627370496))).toNat : Int) = ((b * 9223372036854775808 + k * 4503599627370496 + f : Nat) : Int) := by
  have e1 : b * 9223372036854775808 + f = b * 2 ^ 63 ||| f := by
    have h7 : f < 2 ^ 63 := Nat.lt_of_lt_of_le hf (by decide)
    have h8 := Nat.two_pow_add_eq_or_of_lt h7 b
    rw [Nat.mul_comm (2 ^ 63)] at h8
    rw [← h8, show (2 : Nat) ^ 63 = 9223372036854775808 by decide]
  have e2 : k * 4503599627370496 + f = k * 2 ^ 52 ||| f := by
    have h8 := Nat.two_pow_add_eq_or_of_lt (i := 52) (b := f) (by rw [show 2 ^ 52 = 4503599627370496 by decide]; exact hf) k
    rw [Nat.mul_comm (2 ^ 52)] at h8
    rw [← h8, show (2 : Nat) ^ 52 = 4503599627370496 by decide]
  have e3 : b * 9223372036854775808 + (k * 4503599627370496 + f) = b * 2 ^ 63 ||| (k * 4503599627370496 + f) := by
    have h7 : k * 4503599627370496 + f < 2 ^ 63 := by rw [show (2 : Nat) ^ 63 = 9223372036854775808 by decide]; omega
    have h8 := Nat.two_pow_add_eq_or_of_lt h7 b
    rw [Nat.mul_comm (2 ^ 63)] at h8
    rw [← h8, show (2 : Nat) ^ 63 = 9223372036854775808 by decide]
  have e : (BitVec.ofNat 64 (b * 9223372036854775808 + f) ||| BitVec.ofNat 64 (k * 4503599627370496)).toNat = b * 9223372036854775808 + k * 4503599627370496 + f := by
    rw [BitVec.toNat_or, BitVec.toNat_ofNat, BitVec.toNat_ofNat, Nat.mod_eq_of_lt (by omega), Nat.mod_eq_of_lt (by omega), Nat.add_assoc, e3, e2, e1, Nat.or_assoc]
    rw [Nat.or_comm f, show (4503599627370496 : Nat) = 2 ^ 52 by decide]
  rw [ofInt_nat, e, wU]
  omega

theorem eq_zero {T : Tab} {t : TypeId} {x y : Operand} {s : Bool} {r : Nat} (h0 : r ≠ 0) (hr : r ≤ 9218868437227405312) : binA T .eql t x y (.float .f64 (D.word s r)) (.float .f64 0) = some (.bool false) := by
  have ho := order_word (s := s) (t := false) (r := r) (q := 0) hr (by omega)
  rw [show D.word false 0 = 0 by rfl, sval_false, V_zero] at ho
  simp only [binA, fArith, if_true]
  rw [show FloatKind.f64.format = D from rfl, ho]
  simp only [ordB, Option.map_some]
  have hp := V_pos (show 0 < r by omega)
  cases s
  · rw [sval_false, compare_gt (by omega)]; rfl
  · rw [sval_true, compare_lt (by omega)]; rfl

theorem word_parts {s : Bool} {y : Nat} (hy : y < 9223372036854775808) : D.word s y / 4503599627370496 % 2048 = y / 4503599627370496 ∧ D.word s y / 9223372036854775808 = s.toNat ∧ D.word s y % 4503599627370496 = y % 4503599627370496 ∧ D.word s y < 18446744073709551616 := by
  unfold Ieee.Format.word
  rw [d_sw]
  cases s
  · rw [if_neg (by decide)]
    exact ⟨by omega, by rw [show (false : Bool).toNat = 0 by rfl]; omega, rfl, by omega⟩
  · simp only [if_true, Bool.toNat_true]
    refine ⟨by omega, by omega, by omega, by omega⟩

theorem shr52 {b : Nat} : shiftOp .shr .u64 (b : Int) 52 = some (.int .u64 (b / 4503599627370496 : Nat)) := by
  have e : shiftOp .shr .u64 (b : Int) 52 = some (.int .u64 ((b : Int).fdiv (2 ^ 52))) := rfl
  rw [e, Int.fdiv_eq_ediv_of_nonneg _ (by decide)]
  congr 2

theorem small_rung {K f : Nat} (hK : K ≤ 2046) (hf : f < 4503599627370496) : K * 2 ^ 52 + f < 9218868437227405312 := by
  rw [show 2 ^ 52 = 4503599627370496 by decide]; omega

theorem step_rung {K k f : Nat} (hK : 1 ≤ K) (hf : k = 4503599627370496 + f) : (K - 1) * 4503599627370496 + k = K * 2 ^ 52 + f := by
  obtain ⟨j, rfl⟩ : ∃ j, K = j + 1 := ⟨K - 1, by omega⟩
  rw [show 2 ^ 52 = 4503599627370496 by decide, Nat.add_sub_cancel, Nat.succ_mul, hf, Nat.add_assoc]

theorem andI11 {e : Nat} (h : e < 9223372036854775808) : IntKind.i64.wrap (((BitVec.ofInt 64 (e : Int)) &&& 2047#64).toNat : Int) = ((e % 2048 : Nat) : Int) := by
  have e2 : (BitVec.ofNat 64 e &&& 2047#64).toNat = e % 2048 := by
    rw [show (2047#64 : BitVec 64) = BitVec.ofNat 64 (2 ^ 11 - 1) by decide, BitVec.toNat_and, BitVec.toNat_ofNat, BitVec.toNat_ofNat]
    rw [Nat.mod_eq_of_lt (show 2 ^ 11 - 1 < 2 ^ 64 by decide), Nat.and_two_pow_sub_one_eq_mod, Nat.mod_eq_of_lt (show e < 2 ^ 64 by rw [show 2 ^ 64 = 18446744073709551616 by decide]; omega)]
  rw [ofInt_nat, e2]
  rw [wrap_i64 (by omega) (by omega)]

theorem pNormal (M : Addr → Option AV) (H : Heap) (s : Bool) {r : Nat} (h1 : 4503599627370496 ≤ r) (hr : r < 9218868437227405312) : SemF Tryd.prog M 86 [.float .f64 (D.word s r)] H fun v h => v = .tup [.float .f64 (D.word s r), .int .i64 0] ∧ h = H := by
  have ha := pAbs M [] s hr
  rw [word_false] at ha
  have e1 : ∀ T t x y, binA T .lss t x y (.float .f64 r) (.float .f64 4503599627370496) = some (.bool false) := by
    intro T t x y
    rw [lt_word (by omega) (by omega), decide_eq_false (by omega)]
  obtain ⟨w, hw⟩ : ∃ w, w = D.word s r := ⟨_, rfl⟩
  rw [← hw] at ha ⊢
  refine fpure rfl rfl (fw Tryd.func86 (by kernel_rfl) rfl (by kernel_rfl) fun C L T hT hS => ?_) H
  simp only [gX,gT,gM,gL,gB,wantedA,evOp,opv,absC,absC0,isAggT,resA,resultA,eqA,eqGuardA,isConstA,isFlatScalar,shiftOp,strOp,ordB,readN,sliceCells,lenA,storeA,newA,buildA,fillA,buildSliceA,boundsA,bndA,sliceA,ptrOK,fieldAddrA,fieldA,indexA,extractA,convA,isIntT,biA,bytesOf,setAll,List.replicate,Nat.reduceAdd,Nat.reduceSub,Nat.reduceMul,Nat.reduceLT,Nat.reduceLeDiff,Nat.reduceEqDiff,Int.reduceEq,Int.reduceLT,Int.reduceLE,Int.reduceNe,Int.reduceAdd,Nat.reduceBEq,reduceCtorEq,lenB_nil,lenB_slice,lenB_oslice,lenB_str,lenB_agg,indexAddrA_slice,indexAddrA_oslice,indexAddrA_ptr,indexAddrA_optr,loadA_ptr,loadA_optr,lenK,indexK,loadK,Int.reduceBEq,Int.reduceBNe,Int.reduceMod,Int.reduceDiv,Int.reduceTDiv,Int.reduceTMod,Int.reduceFDiv,Int.reduceSub,Int.reduceNeg,Int.reduceGT,Int.reduceGE,BitVec.reduceOfInt,BitVec.reduceAnd,BitVec.reduceOr,BitVec.reduceXOr,BitVec.reduceToNat,Int.reduceToNat,Int.reducePow,Int.reduceMul,hT.all,Tryd.f86,binA_int]
  refine hS.one ha ?_
  simp only [gX,gT,gM,gL,gB,wantedA,evOp,opv,absC,absC0,isAggT,resA,resultA,eqA,eqGuardA,isConstA,isFlatScalar,shiftOp,strOp,ordB,readN,sliceCells,lenA,storeA,newA,buildA,fillA,buildSliceA,boundsA,bndA,sliceA,ptrOK,fieldAddrA,fieldA,indexA,extractA,convA,isIntT,biA,bytesOf,setAll,List.replicate,Nat.reduceAdd,Nat.reduceSub,Nat.reduceMul,Nat.reduceLT,Nat.reduceLeDiff,Nat.reduceEqDiff,Int.reduceEq,Int.reduceLT,Int.reduceLE,Int.reduceNe,Int.reduceAdd,Nat.reduceBEq,reduceCtorEq,lenB_nil,lenB_slice,lenB_oslice,lenB_str,lenB_agg,indexAddrA_slice,indexAddrA_oslice,indexAddrA_ptr,indexAddrA_optr,loadA_ptr,loadA_optr,lenK,indexK,loadK,Int.reduceBEq,Int.reduceBNe,Int.reduceMod,Int.reduceDiv,Int.reduceTDiv,Int.reduceTMod,Int.reduceFDiv,Int.reduceSub,Int.reduceNeg,Int.reduceGT,Int.reduceGE,BitVec.reduceOfInt,BitVec.reduceAnd,BitVec.reduceOr,BitVec.reduceXOr,BitVec.reduceToNat,Int.reduceToNat,Int.reducePow,Int.reduceMul,hT.all,e1]

/-- A whole number's float, with a sign, scaled down. -/
theorem pLdexp (M : Addr → Option AV) (H : Heap) (s : Bool) {m e : Nat} (hm : m ≤ 9007199254740992) (he : e ≤ 60) (hs0 : m = 0 → s = false) :
    SemF Tryd.prog M 45 [.float .f64 (D.word s (rung m 0)), .int .i64 (-(e : Int))] H fun v h => v = .float .f64 (D.word s (rung m (-(e : Int)))) ∧ h = H := by
  have core : SemF Tryd.prog M 65 [.float .f64 (D.word s (rung m 0)), .int .i64 (-(e : Int))] [] fun v h => v = .float .f64 (D.word s (rung m (-(e : Int)))) ∧ h = [] := by
    by_cases h0 : m = 0
    · have hs1 := hs0 h0
      subst h0 hs1
      rw [show rung 0 0 = 0 by rfl, show rung 0 (-(e : Int)) = 0 by unfold rung; rw [if_pos rfl], word_false]
      have hz : ∀ T t x y, binA T .eql t x y (.float .f64 0) (.float .f64 0) = some (.bool true) := by
        intro T t x y
        have := eql_dec (T := T) (t := t) (x := x) (y := y) (b := 0)
        rw [this, isNaN_of]; rfl
      refine fpure rfl rfl (fw Tryd.func65 (by kernel_rfl) rfl (by kernel_rfl) fun C L T hT hS => ?_) []
      simp only [gX,gT,gM,gL,gB,wantedA,evOp,opv,absC,absC0,isAggT,resA,resultA,eqA,eqGuardA,isConstA,isFlatScalar,shiftOp,strOp,ordB,readN,sliceCells,lenA,storeA,newA,buildA,fillA,buildSliceA,boundsA,bndA,sliceA,ptrOK,fieldAddrA,fieldA,indexA,extractA,convA,isIntT,biA,bytesOf,setAll,List.replicate,Nat.reduceAdd,Nat.reduceSub,Nat.reduceMul,Nat.reduceLT,Nat.reduceLeDiff,Nat.reduceEqDiff,Int.reduceEq,Int.reduceLT,Int.reduceLE,Int.reduceNe,Int.reduceAdd,Nat.reduceBEq,reduceCtorEq,lenB_nil,lenB_slice,lenB_oslice,lenB_str,lenB_agg,indexAddrA_slice,indexAddrA_oslice,indexAddrA_ptr,indexAddrA_optr,loadA_ptr,loadA_optr,lenK,indexK,loadK,Int.reduceBEq,Int.reduceBNe,Int.reduceMod,Int.reduceDiv,Int.reduceTDiv,Int.reduceTMod,Int.reduceFDiv,Int.reduceSub,Int.reduceNeg,Int.reduceGT,Int.reduceGE,BitVec.reduceOfInt,BitVec.reduceAnd,BitVec.reduceOr,BitVec.reduceXOr,BitVec.reduceToNat,Int.reduceToNat,Int.reducePow,Int.reduceMul,hT.all,Tryd.f65,hz]
    · obtain ⟨q1, q2, q3⟩ := rung_int h0 hm
      have hke := kept_exact h0 hm
      have hkb := kept_bounds h0
      have hmv := rung_move h0 hm (-(e : Int))
      have hlog := log2_small (k := 54) h0 (by rw [show 2 ^ 54 = 18014398509481984 by decide]; omega)
      have hbig : 4503599627370496 ≤ rung m 0 := by
        refine Classical.byContradiction fun hc => ?_
        have := (mag_small (r := rung m 0) (by omega)).2
        omega
      have hmb := mag_big hbig
      rw [q2, q3] at hmb
      obtain ⟨x, hx⟩ : ∃ x, x = rung m 0 := ⟨_, rfl⟩
      obtain ⟨k, hk⟩ : ∃ k, k = kept m := ⟨_, rfl⟩
      obtain ⟨L0, hL0⟩ : ∃ L, L = m.log2 := ⟨_, rfl⟩
      rw [← hx] at q1 hbig hmb ⊢
      rw [← hk] at hke hkb hmv hmb
      rw [← hL0] at hmv hmb hlog
      have hxn := isNaN_word (s := s) q1
      have hi := pIsInf0 M [] s q1
      have hq := pIsNaN M [] (D.word s x)
      rw [hxn] at hq
      have hno := pNormal M [] s hbig q1
      have hz : ∀ T t o p, binA T .eql t o p (.float .f64 (D.word s x)) (.float .f64 0) = some (.bool false) := fun T t o p => eq_zero (s := s) (r := x) (by omega) (by omega)
      obtain ⟨p1, p2, p3, p4⟩ := word_parts (s := s) (y := x) (by omega)
      have w0 : IntKind.i64.wrap (-(e : Int) + 0) = -(e : Int) := by rw [wrap_i64 (by omega) (by omega)]; omega
      have w1 := shr52 (b := D.word s x)
      have he1 : x / 4503599627370496 = L0 + 1023 := by omega
      have hf : x % 4503599627370496 = k - 4503599627370496 := by omega
      have w6 := clrE (n := D.word s x) p4
      rw [p2, p3, hf] at w6
      rw [he1] at p1
      obtain ⟨W, hW⟩ : ∃ W, W = D.word s x := ⟨_, rfl⟩
      rw [← hW] at hxn hi hq hno hz p1 p4 w1 w6 ⊢
      obtain ⟨E, hE⟩ : ∃ E, E = W / 4503599627370496 := ⟨_, rfl⟩
      have hEb : E < 4096 := by omega
      rw [← hE] at w1 p1
      have w2 : IntKind.i64.wrap (E : Int) = E := wrap_i64 (by omega) (by omega)
      have w3 := andI11 (e := E) (by omega)
      rw [p1] at w3
      have w4 : IntKind.i64.wrap (((L0 + 1023 : Nat) : Int) - 1023) = L0 := by rw [wrap_i64 (by omega) (by omega)]; omega
      obtain ⟨q, hqq⟩ : ∃ q : Int, q = -(e : Int) + L0 := ⟨_, rfl⟩
      have w5 : IntKind.i64.wrap (-(e : Int) + (L0 : Int)) = q := by rw [wrap_i64 (by omega) (by omega)]; omega
      have c1 : ¬ q < -1075 := by omega
      have c2 : ¬ q > 1023 := by omega
      have c3 : ¬ q < -1022 := by omega
      obtain ⟨K, hK⟩ : ∃ K : Nat, K = (q + 1023).toNat := ⟨_, rfl⟩
      have w8 : IntKind.i64.wrap (q + 1023) = (K : Int) := by rw [wrap_i64 (by omega) (by omega)]; omega
      have w9 : IntKind.u64.wrap (K : Int) = K := by rw [wU]; omega
      have v1 := shlU (a := K) (n := 52) (by omega) (by omega)
      rw [show ((52 : Nat) : Int) = 52 by rfl] at v1
      obtain ⟨f, hff⟩ : ∃ f, f = k - 4503599627370496 := ⟨_, rfl⟩
      rw [← hff] at w6
      have hsb : s.toNat ≤ 1 := by cases s <;> decide
      have v2 := orE (b := s.toNat) (f := f) (k := K) hsb (by omega) (by omega)
      have e3 : K * 2 ^ 52 = K * 4503599627370496 := by rw [show 2 ^ 52 = 4503599627370496 by decide]
      rw [e3] at v1
      rw [← ofInt_nat] at v2
      have e1 := mag_up (e := K - 1) (k := k) (by omega) (by omega)
      have e2 : (K - 1) * 4503599627370496 + k = K * 2 ^ 52 + f := step_rung (by omega) (by omega)
      rw [e2] at e1
      have hpm := pow_mul (s := s) (r := K * 2 ^ 52 + f) (k := 0) (small_rung (by omega) (by omega)) (by omega) (by omega)
      rw [e1.1, e1.2, show -1074 + ((K - 1 : Nat) : Int) + 0 = -(e : Int) + L0 - 52 by omega, hmv, show (1023 + 0 : Int).toNat * 4503599627370496 = 4607182418800017408 by decide] at hpm
      have e4 : D.word s (K * 2 ^ 52 + f) = s.toNat * 9223372036854775808 + K * 4503599627370496 + f := by
        unfold Ieee.Format.word
        rw [d_sw, e3]
        cases s
        · rw [if_neg (by decide)]; simp
        · rw [if_pos rfl]; simp; omega
      rw [e4] at hpm
      have hbm := mul_bin hpm
      obtain ⟨a, ha⟩ : ∃ a, a = K * 4503599627370496 := ⟨_, rfl⟩
      rw [← ha] at v1 v2 hbm
      obtain ⟨sb, hsb'⟩ : ∃ b, b = s.toNat * 9223372036854775808 := ⟨_, rfl⟩
      rw [← hsb'] at w6 v2 hbm
      obtain ⟨y, hy⟩ : ∃ y, y = D.word s (rung m (-(e : Int))) := ⟨_, rfl⟩
      rw [← hy] at hbm ⊢
      obtain ⟨ne, hne⟩ : ∃ ne : Int, ne = -(e : Int) := ⟨_, rfl⟩
      rw [← hne] at w0 w5 ⊢
      refine fpure rfl rfl (fw Tryd.func65 (by kernel_rfl) rfl (by kernel_rfl) fun C L T hT hS => ?_) []
      simp only [gX,gT,gM,gL,gB,wantedA,evOp,opv,absC,absC0,isAggT,resA,resultA,eqA,eqGuardA,isConstA,isFlatScalar,shiftOp,strOp,ordB,readN,sliceCells,lenA,storeA,newA,buildA,fillA,buildSliceA,boundsA,bndA,sliceA,ptrOK,fieldAddrA,fieldA,indexA,extractA,convA,isIntT,biA,bytesOf,setAll,List.replicate,Nat.reduceAdd,Nat.reduceSub,Nat.reduceMul,Nat.reduceLT,Nat.reduceLeDiff,Nat.reduceEqDiff,Int.reduceEq,Int.reduceLT,Int.reduceLE,Int.reduceNe,Int.reduceAdd,Nat.reduceBEq,reduceCtorEq,lenB_nil,lenB_slice,lenB_oslice,lenB_str,lenB_agg,indexAddrA_slice,indexAddrA_oslice,indexAddrA_ptr,indexAddrA_optr,loadA_ptr,loadA_optr,lenK,indexK,loadK,Int.reduceBEq,Int.reduceBNe,Int.reduceMod,Int.reduceDiv,Int.reduceTDiv,Int.reduceTMod,Int.reduceFDiv,Int.reduceSub,Int.reduceNeg,Int.reduceGT,Int.reduceGE,BitVec.reduceOfInt,BitVec.reduceAnd,BitVec.reduceOr,BitVec.reduceXOr,BitVec.reduceToNat,Int.reduceToNat,Int.reducePow,Int.reduceMul,hT.all,Tryd.f65,hz]
      refine hS.one hi ?_
      simp only [gX,gT,gM,gL,gB,wantedA,evOp,opv,absC,absC0,isAggT,resA,resultA,binA,eqA,eqGuardA,isConstA,isFlatScalar,shiftOp,strOp,ordB,readN,sliceCells,lenA,storeA,newA,buildA,fillA,buildSliceA,boundsA,bndA,sliceA,ptrOK,fieldAddrA,fieldA,indexA,extractA,convA,isIntT,biA,bytesOf,setAll,List.replicate,Nat.reduceAdd,Nat.reduceSub,Nat.reduceMul,Nat.reduceLT,Nat.reduceLeDiff,Nat.reduceEqDiff,Int.reduceEq,Int.reduceLT,Int.reduceLE,Int.reduceNe,Int.reduceAdd,Nat.reduceBEq,reduceCtorEq,lenB_nil,lenB_slice,lenB_oslice,lenB_str,lenB_agg,indexAddrA_slice,indexAddrA_oslice,indexAddrA_ptr,indexAddrA_optr,loadA_ptr,loadA_optr,lenK,indexK,loadK,Int.reduceBEq,Int.reduceBNe,Int.reduceMod,Int.reduceDiv,Int.reduceTDiv,Int.reduceTMod,Int.reduceFDiv,Int.reduceSub,Int.reduceNeg,Int.reduceGT,Int.reduceGE,BitVec.reduceOfInt,BitVec.reduceAnd,BitVec.reduceOr,BitVec.reduceXOr,BitVec.reduceToNat,Int.reduceToNat,Int.reducePow,Int.reduceMul,hT.all]
      refine hS.one hq ?_
      simp only [gX,gT,gM,gL,gB,wantedA,evOp,opv,absC,absC0,isAggT,resA,resultA,binA,eqA,eqGuardA,isConstA,isFlatScalar,shiftOp,strOp,ordB,readN,sliceCells,lenA,storeA,newA,buildA,fillA,buildSliceA,boundsA,bndA,sliceA,ptrOK,fieldAddrA,fieldA,indexA,extractA,convA,isIntT,biA,bytesOf,setAll,List.replicate,Nat.reduceAdd,Nat.reduceSub,Nat.reduceMul,Nat.reduceLT,Nat.reduceLeDiff,Nat.reduceEqDiff,Int.reduceEq,Int.reduceLT,Int.reduceLE,Int.reduceNe,Int.reduceAdd,Nat.reduceBEq,reduceCtorEq,lenB_nil,lenB_slice,lenB_oslice,lenB_str,lenB_agg,indexAddrA_slice,indexAddrA_oslice,indexAddrA_ptr,indexAddrA_optr,loadA_ptr,loadA_optr,lenK,indexK,loadK,Int.reduceBEq,Int.reduceBNe,Int.reduceMod,Int.reduceDiv,Int.reduceTDiv,Int.reduceTMod,Int.reduceFDiv,Int.reduceSub,Int.reduceNeg,Int.reduceGT,Int.reduceGE,BitVec.reduceOfInt,BitVec.reduceAnd,BitVec.reduceOr,BitVec.reduceXOr,BitVec.reduceToNat,Int.reduceToNat,Int.reducePow,Int.reduceMul,hT.all]
      refine hS.one hno ?_
      simp only [gX,gT,gM,gL,gB,wantedA,evOp,opv,absC,absC0,isAggT,resA,resultA,binA,eqA,eqGuardA,isConstA,isFlatScalar,shiftOp,strOp,ordB,readN,sliceCells,lenA,storeA,newA,buildA,fillA,buildSliceA,boundsA,bndA,sliceA,ptrOK,fieldAddrA,fieldA,indexA,extractA,convA,isIntT,biA,bytesOf,setAll,List.replicate,Nat.reduceAdd,Nat.reduceSub,Nat.reduceMul,Nat.reduceLT,Nat.reduceLeDiff,Nat.reduceEqDiff,Int.reduceEq,Int.reduceLT,Int.reduceLE,Int.reduceNe,Int.reduceAdd,Nat.reduceBEq,reduceCtorEq,lenB_nil,lenB_slice,lenB_oslice,lenB_str,lenB_agg,indexAddrA_slice,indexAddrA_oslice,indexAddrA_ptr,indexAddrA_optr,loadA_ptr,loadA_optr,lenK,indexK,loadK,Int.reduceBEq,Int.reduceBNe,Int.reduceMod,Int.reduceDiv,Int.reduceTDiv,Int.reduceTMod,Int.reduceFDiv,Int.reduceSub,Int.reduceNeg,Int.reduceGT,Int.reduceGE,BitVec.reduceOfInt,BitVec.reduceAnd,BitVec.reduceOr,BitVec.reduceXOr,BitVec.reduceToNat,Int.reduceToNat,Int.reducePow,Int.reduceMul,hT.all,w0]
      refine hS.one (pBits M _ hxn) ?_
      simp only [gX,gT,gM,gL,gB,wantedA,evOp,opv,absC,absC0,isAggT,resA,resultA,binA,eqA,eqGuardA,isConstA,isFlatScalar,strOp,ordB,readN,sliceCells,lenA,storeA,newA,buildA,fillA,buildSliceA,boundsA,bndA,sliceA,ptrOK,fieldAddrA,fieldA,indexA,extractA,convA,isIntT,biA,bytesOf,setAll,List.replicate,Nat.reduceAdd,Nat.reduceSub,Nat.reduceMul,Nat.reduceLT,Nat.reduceLeDiff,Nat.reduceEqDiff,Int.reduceEq,Int.reduceLT,Int.reduceLE,Int.reduceNe,Int.reduceAdd,Nat.reduceBEq,reduceCtorEq,lenB_nil,lenB_slice,lenB_oslice,lenB_str,lenB_agg,indexAddrA_slice,indexAddrA_oslice,indexAddrA_ptr,indexAddrA_optr,loadA_ptr,loadA_optr,lenK,indexK,loadK,Int.reduceBEq,Int.reduceBNe,Int.reduceMod,Int.reduceDiv,Int.reduceTDiv,Int.reduceTMod,Int.reduceFDiv,Int.reduceSub,Int.reduceNeg,Int.reduceGT,Int.reduceGE,BitVec.reduceOfInt,BitVec.reduceAnd,BitVec.reduceOr,BitVec.reduceXOr,BitVec.reduceToNat,Int.reduceToNat,Int.reducePow,Int.reduceMul,hT.all,w0,w1,w2,w3,w4,w5,c1,c2,c3,w6,w8,w9,v1,v2]
      refine hS.one (pFrom M _ _) ?_
      simp only [gX,gT,gM,gL,gB,wantedA,evOp,opv,absC,absC0,isAggT,resA,resultA,eqA,eqGuardA,isConstA,isFlatScalar,shiftOp,strOp,ordB,readN,sliceCells,lenA,storeA,newA,buildA,fillA,buildSliceA,boundsA,bndA,sliceA,ptrOK,fieldAddrA,fieldA,indexA,extractA,convA,isIntT,biA,bytesOf,setAll,List.replicate,Nat.reduceAdd,Nat.reduceSub,Nat.reduceMul,Nat.reduceLT,Nat.reduceLeDiff,Nat.reduceEqDiff,Int.reduceEq,Int.reduceLT,Int.reduceLE,Int.reduceNe,Int.reduceAdd,Nat.reduceBEq,reduceCtorEq,lenB_nil,lenB_slice,lenB_oslice,lenB_str,lenB_agg,indexAddrA_slice,indexAddrA_oslice,indexAddrA_ptr,indexAddrA_optr,loadA_ptr,loadA_optr,lenK,indexK,loadK,Int.reduceBEq,Int.reduceBNe,Int.reduceMod,Int.reduceDiv,Int.reduceTDiv,Int.reduceTMod,Int.reduceFDiv,Int.reduceSub,Int.reduceNeg,Int.reduceGT,Int.reduceGE,BitVec.reduceOfInt,BitVec.reduceAnd,BitVec.reduceOr,BitVec.reduceXOr,BitVec.reduceToNat,Int.reduceToNat,Int.reducePow,Int.reduceMul,hT.all,hbm,Int.toNat_natCast]
  refine fpure rfl rfl (fw Tryd.func45 (by kernel_rfl) rfl (by kernel_rfl) fun C L T hT hS => ?_) H
  simp only [gX,gT,gM,gL,gB,wantedA,evOp,opv,absC,absC0,isAggT,resA,resultA,binA,eqA,eqGuardA,isConstA,isFlatScalar,shiftOp,strOp,ordB,readN,sliceCells,lenA,storeA,newA,buildA,fillA,buildSliceA,boundsA,bndA,sliceA,ptrOK,fieldAddrA,fieldA,indexA,extractA,convA,isIntT,biA,bytesOf,setAll,List.replicate,Nat.reduceAdd,Nat.reduceSub,Nat.reduceMul,Nat.reduceLT,Nat.reduceLeDiff,Nat.reduceEqDiff,Int.reduceEq,Int.reduceLT,Int.reduceLE,Int.reduceNe,Int.reduceAdd,Nat.reduceBEq,reduceCtorEq,lenB_nil,lenB_slice,lenB_oslice,lenB_str,lenB_agg,indexAddrA_slice,indexAddrA_oslice,indexAddrA_ptr,indexAddrA_optr,loadA_ptr,loadA_optr,lenK,indexK,loadK,Int.reduceBEq,Int.reduceBNe,Int.reduceMod,Int.reduceDiv,Int.reduceTDiv,Int.reduceTMod,Int.reduceFDiv,Int.reduceSub,Int.reduceNeg,Int.reduceGT,Int.reduceGE,BitVec.reduceOfInt,BitVec.reduceAnd,BitVec.reduceOr,BitVec.reduceXOr,BitVec.reduceToNat,Int.reduceToNat,Int.reducePow,Int.reduceMul,hT.all,Tryd.f45]
  refine hS.one core ?_
  simp only [gX,gT,gM,gL,gB,wantedA,evOp,opv,absC,absC0,isAggT,resA,resultA,binA,eqA,eqGuardA,isConstA,isFlatScalar,shiftOp,strOp,ordB,readN,sliceCells,lenA,storeA,newA,buildA,fillA,buildSliceA,boundsA,bndA,sliceA,ptrOK,fieldAddrA,fieldA,indexA,extractA,convA,isIntT,biA,bytesOf,setAll,List.replicate,Nat.reduceAdd,Nat.reduceSub,Nat.reduceMul,Nat.reduceLT,Nat.reduceLeDiff,Nat.reduceEqDiff,Int.reduceEq,Int.reduceLT,Int.reduceLE,Int.reduceNe,Int.reduceAdd,Nat.reduceBEq,reduceCtorEq,lenB_nil,lenB_slice,lenB_oslice,lenB_str,lenB_agg,indexAddrA_slice,indexAddrA_oslice,indexAddrA_ptr,indexAddrA_optr,loadA_ptr,loadA_optr,lenK,indexK,loadK,Int.reduceBEq,Int.reduceBNe,Int.reduceMod,Int.reduceDiv,Int.reduceTDiv,Int.reduceTMod,Int.reduceFDiv,Int.reduceSub,Int.reduceNeg,Int.reduceGT,Int.reduceGE,BitVec.reduceOfInt,BitVec.reduceAnd,BitVec.reduceOr,BitVec.reduceXOr,BitVec.reduceToNat,Int.reduceToNat,Int.reducePow,Int.reduceMul,hT.all]

end Go.Proofs.YtaaecodkdgkjoaaDoor.B
