/- Part of a claim: floats of 64 bits: words, rungs, their order; whole numbers as floats. Nothing of a program stands here. -/
import Derived.Laws.FloatArith
set_option linter.unusedSimpArgs false
set_option linter.unusedVariables false
namespace Go.Proofs.YtaaecodkdgkjoaaDoor.FL
open Go Ieee

abbrev D : Format := double

theorem d_binade : D.binade = 4503599627370496 := by decide
theorem d_inf : D.infRung = 9218868437227405312 := by decide
theorem d_sw : D.signWeight = 9223372036854775808 := by decide
theorem d_least : D.leastPlace = -1074 := by decide

/-- What a rung stands for, in units of 2^-1074. -/
def V (r : Nat) : Nat := if r < 4503599627370496 then r else (4503599627370496 + r % 4503599627370496) * 2 ^ (r / 4503599627370496 - 1)

theorem V_succ (r : Nat) : V r < V (r + 1) := by
  unfold V
  by_cases h1 : r + 1 < 4503599627370496
  · rw [if_pos (by omega), if_pos h1]; omega
  · by_cases h2 : r < 4503599627370496
    · have e : r + 1 = 4503599627370496 := by omega
      rw [if_pos h2, if_neg h1, e]
      have : 4503599627370496 % 4503599627370496 = 0 := by decide
      have h3 : 4503599627370496 / 4503599627370496 - 1 = 0 := by decide
      rw [this, h3]; omega
    · rw [if_neg h2, if_neg h1]
      by_cases h3 : (r + 1) % 4503599627370496 = 0
      · have e1 : r % 4503599627370496 = 4503599627370496 - 1 := by omega
        have e2 : (r + 1) / 4503599627370496 = r / 4503599627370496 + 1 := by omega
        have h4 : 1 ≤ r / 4503599627370496 := by omega
        rw [h3, e1, e2]
        obtain ⟨q, hq⟩ : ∃ q, r / 4503599627370496 = q + 1 := ⟨r / 4503599627370496 - 1, by omega⟩
        rw [hq, show q + 1 - 1 = q by omega, show q + 1 + 1 - 1 = q + 1 by omega, Nat.pow_succ, Nat.add_zero, show 4503599627370496 * (2 ^ q * 2) = (4503599627370496 * 2) * 2 ^ q by rw [Nat.mul_comm (2 ^ q) 2, ← Nat.mul_assoc]]
        exact Nat.mul_lt_mul_of_pos_right (by omega) (Nat.two_pow_pos _)
      · have e1 : (r + 1) % 4503599627370496 = r % 4503599627370496 + 1 := by omega
        have e2 : (r + 1) / 4503599627370496 = r / 4503599627370496 := by omega
        rw [e1, e2]
        exact Nat.mul_lt_mul_of_pos_right (by omega) (Nat.two_pow_pos _)

theorem V_lt {r s : Nat} (h : r < s) : V r < V s := by
  obtain ⟨k, rfl⟩ : ∃ k, s = r + 1 + k := ⟨s - (r + 1), by omega⟩
  clear h
  induction k with
  | zero => exact V_succ r
  | succ k ih => exact Nat.lt_trans ih (V_succ _)

theorem V_zero : V 0 = 0 := rfl
theorem V_pos {r : Nat} (h : 0 < r) : 0 < V r := by have := V_lt h; rw [V_zero] at this; exact this

/-- A rung's number. -/
def magOf (r : Nat) : Nat := if r < 4503599627370496 then r else 4503599627370496 + r % 4503599627370496
def upOf (r : Nat) : Nat := if r < 4503599627370496 then 0 else r / 4503599627370496 - 1
theorem V_mag (r : Nat) : V r = magOf r * 2 ^ upOf r := by
  unfold V magOf upOf
  split
  · simp
  · rfl

theorem word_neg {s : Bool} {r : Nat} (h : r < 9223372036854775808) : (D.word s r / D.signWeight % 2 == 1) = s ∧ D.word s r % D.signWeight = r := by
  rw [d_sw]
  unfold Format.word
  rw [d_sw]
  cases s
  · simp only [Bool.false_eq_true, if_false]
    rw [show r / 9223372036854775808 = 0 by omega]
    exact ⟨rfl, by omega⟩
  · simp only [if_true]
    rw [show (9223372036854775808 + r) / 9223372036854775808 = 1 by omega]
    exact ⟨rfl, by omega⟩

theorem read_word {s : Bool} {r : Nat} (h : r < 9218868437227405312) : D.read (D.word s r) = .number s (magOf r) (-1074 + upOf r) := by
  obtain ⟨h1, h2⟩ := word_neg (s := s) (r := r) (by omega)
  unfold Format.read
  simp only [h1, h2, d_binade, d_inf, d_least]
  unfold magOf upOf
  by_cases c : r < 4503599627370496
  · simp only [if_pos c]; simp
  · simp only [if_neg c, if_pos h]

theorem read_inf {s : Bool} : D.read (D.word s 9218868437227405312) = .infinity s := by
  obtain ⟨h1, h2⟩ := word_neg (s := s) (r := 9218868437227405312) (by decide)
  unfold Format.read
  simp only [h1, h2, d_binade, d_inf, d_least]
  rfl

theorem read_nan {s : Bool} {r : Nat} (h : 9218868437227405312 < r) (h2 : r < 9223372036854775808) : D.read (D.word s r) = .nan s (r - 9218868437227405312) := by
  obtain ⟨h1, h2⟩ := word_neg (s := s) (r := r) h2
  unfold Format.read
  simp only [h1, h2, d_binade, d_inf, d_least]
  rw [if_neg (by omega), if_neg (by omega), if_neg (by omega)]

/-- A number with its sign. -/
def sval (s : Bool) (r : Nat) : Int := if s then -(V r : Int) else V r

theorem sval_abs (s : Bool) (r : Nat) : -(V r : Int) ≤ sval s r ∧ sval s r ≤ V r := by
  unfold sval
  cases s
  · simp only [Bool.false_eq_true, if_false]; omega
  · simp only [if_true]; omega
theorem sval_false (r : Nat) : sval false r = V r := rfl
theorem sval_true (r : Nat) : sval true r = -(V r : Int) := rfl

theorem signed_shift (s : Bool) (m a b : Nat) : signed s m (a + b) = signed s m a * 2 ^ b := by
  unfold signed
  cases s
  · simp only [Bool.false_eq_true, if_false, Nat.shiftLeft_eq, Nat.pow_add, ← Nat.mul_assoc, Int.natCast_mul, Int.natCast_pow]; rfl
  · simp only [if_true, Nat.shiftLeft_eq, Nat.pow_add, ← Nat.mul_assoc, Int.natCast_mul, Int.natCast_pow, Int.neg_mul]; rfl

theorem compare_mul (x y : Int) (k : Nat) : compare (x * 2 ^ k) (y * 2 ^ k) = compare x y := by
  have hp : (0 : Int) < 2 ^ k := Int.pow_pos (by omega)
  have h1 : x * 2 ^ k < y * 2 ^ k ↔ x < y := Int.mul_lt_mul_right hp
  have h2 : x * 2 ^ k = y * 2 ^ k ↔ x = y := ⟨fun h => Int.eq_of_mul_eq_mul_right (by omega) h, fun h => by rw [h]⟩
  simp only [compare, compareOfLessAndEq, h1, h2]

theorem signed_sval (s : Bool) (r : Nat) : signed s (magOf r) (upOf r) = sval s r := by
  unfold signed sval
  rw [V_mag, Nat.shiftLeft_eq]

theorem compare_signed (s t : Bool) (m n a b : Nat) : compare (signed s m ((-1074 + (a : Int)) - min (-1074 + (a : Int)) (-1074 + b)).toNat) (signed t n ((-1074 + (b : Int)) - min (-1074 + (a : Int)) (-1074 + b)).toNat) = compare (signed s m a) (signed t n b) := by
  rcases Nat.le_total a b with h | h
  · rw [show ((-1074 + (a : Int)) - min (-1074 + (a : Int)) (-1074 + b)).toNat = 0 by omega, show ((-1074 + (b : Int)) - min (-1074 + (a : Int)) (-1074 + b)).toNat = b - a by omega]
    rw [← compare_mul _ _ a, ← signed_shift, ← signed_shift, Nat.zero_add, show b - a + a = b by omega]
  · rw [show ((-1074 + (a : Int)) - min (-1074 + (a : Int)) (-1074 + b)).toNat = a - b by omega, show ((-1074 + (b : Int)) - min (-1074 + (a : Int)) (-1074 + b)).toNat = 0 by omega]
    rw [← compare_mul _ _ b, ← signed_shift, ← signed_shift, Nat.zero_add, show a - b + b = a by omega]

theorem compare_lt {x y : Int} (h : x < y) : compare x y = .lt := by simp [compare, compareOfLessAndEq, h]
theorem compare_gt {x y : Int} (h : y < x) : compare x y = .gt := by
  simp [compare, compareOfLessAndEq, show ¬ x < y by omega, show ¬ x = y by omega]
theorem compare_eq {x : Int} : compare x x = .eq := by simp [compare, compareOfLessAndEq]

/-- The order of what is no NaN. -/
theorem order_word {s t : Bool} {r q : Nat} (hr : r ≤ 9218868437227405312) (hq : q ≤ 9218868437227405312) : D.order (D.word s r) (D.word t q) = some (compare (sval s r) (sval t q)) := by
  unfold Format.order
  rcases Nat.lt_or_eq_of_le hr with hr | rfl
  · rcases Nat.lt_or_eq_of_le hq with hq | rfl
    · rw [read_word hr, read_word hq]
      unfold Datum.order
      simp only [compare_signed, signed_sval]
    · rw [read_word hr, read_inf]
      unfold Datum.order
      have h1 := V_lt hr
      have h2 := sval_abs s r
      cases t
      · simp only [Bool.false_eq_true, if_false]
        rw [compare_lt]
        rw [sval_false]; omega
      · simp only [if_true]
        rw [compare_gt]
        rw [sval_true]; omega
  · rcases Nat.lt_or_eq_of_le hq with hq | rfl
    · rw [read_word hq, read_inf]
      unfold Datum.order
      have h1 := V_lt hq
      have h2 := sval_abs t q
      cases s
      · simp only [Bool.false_eq_true, if_false]
        rw [compare_gt]
        rw [sval_false]; omega
      · simp only [if_true]
        rw [compare_lt]
        rw [sval_true]; omega
    · rw [read_inf, read_inf]
      unfold Datum.order
      have h1 : 0 < V 9218868437227405312 := V_pos (by decide)
      cases s <;> cases t
      · rw [compare_eq]; rfl
      · rw [sval_false, sval_true, compare_gt (by omega)]; rfl
      · rw [sval_false, sval_true, compare_lt (by omega)]; rfl
      · rw [compare_eq]; rfl

/-! ### Rounding -/

def cutE (n d : Nat) : Nat := Toward.even.cut false n d

/-- The rung nearest to m * 2^i. -/
def rung (m : Nat) (i : Int) : Nat :=
  if m = 0 then 0 else
  min ((max (i + m.log2 - 52) (-1074) + 1074).toNat * 4503599627370496 + cutE (m <<< (i - max (i + m.log2 - 52) (-1074)).toNat) (max (i + m.log2 - 52) (-1074) - i).toNat) 9218868437227405312

theorem nearest_rung (s : Bool) (m : Nat) (i : Int) : D.nearest s m i = D.word s (rung m i) := by
  unfold Format.nearest rung
  split
  · rfl
  · simp only [d_least, d_binade, d_inf]
    have e : (D.fractionBits : Int) = 52 := rfl
    have e2 : ∀ x y, Toward.even.cut s x y = cutE x y := fun _ _ => rfl
    rw [e, e2]
    simp only [Int.sub_neg]

theorem cutE_zero (n : Nat) : cutE n 0 = n := by
  unfold cutE Toward.cut
  simp [Nat.mod_one]

theorem cutE_eq {n d : Nat} (h : d ≤ n.log2 + 2) : cutE n d = n / 2 ^ d + (if 2 ^ d < 2 * (n % 2 ^ d) ∨ (2 ^ d = 2 * (n % 2 ^ d) ∧ n / 2 ^ d % 2 = 1) then 1 else 0) := by
  unfold cutE Toward.cut
  simp only [Nat.min_eq_left h, Nat.shiftLeft_eq, Nat.one_mul]
  congr 1
  by_cases c1 : 2 ^ d < 2 * (n % 2 ^ d)
  · simp [c1]
  · by_cases c2 : 2 ^ d = 2 * (n % 2 ^ d)
    · by_cases c3 : n / 2 ^ d % 2 = 1
      · simp [c3, ← c2]
      · have : (n / 2 ^ d % 2 == 1) = false := by simp [c3]
        simp [c1, c3, ← c2]
    · simp [c1, c2]

theorem log2_le {m : Nat} (h : m ≠ 0) : 2 ^ m.log2 ≤ m := Nat.log2_self_le h
theorem log2_lt {m : Nat} : m < 2 ^ (m.log2 + 1) := Nat.lt_log2_self

def kept (m : Nat) : Nat := cutE (m <<< (52 - m.log2)) (m.log2 - 52)

theorem rung_norm {m : Nat} {i : Int} (hm : m ≠ 0) (h : -1022 ≤ i + m.log2) : rung m i = min ((i + m.log2 + 1022).toNat * 4503599627370496 + kept m) 9218868437227405312 := by
  unfold rung kept
  rw [if_neg hm, show max (i + (m.log2 : Int) - 52) (-1074) = i + m.log2 - 52 by omega]
  rw [show (i + (m.log2 : Int) - 52 + 1074).toNat = (i + (m.log2 : Int) + 1022).toNat by omega, show (i - (i + (m.log2 : Int) - 52)).toNat = 52 - m.log2 by omega, show (i + (m.log2 : Int) - 52 - i).toNat = m.log2 - 52 by omega]

theorem shift_bounds {m : Nat} (hm : m ≠ 0) (h : m.log2 ≤ 52) : 4503599627370496 ≤ m <<< (52 - m.log2) ∧ m <<< (52 - m.log2) < 2 * 4503599627370496 := by
  have h1 := log2_le hm
  have h2 := log2_lt (m := m)
  rw [Nat.shiftLeft_eq]
  have e : 4503599627370496 = 2 ^ m.log2 * 2 ^ (52 - m.log2) := by rw [← Nat.pow_add, show m.log2 + (52 - m.log2) = 52 by omega]
  have e2 : 2 * 4503599627370496 = 2 ^ (m.log2 + 1) * 2 ^ (52 - m.log2) := by rw [← Nat.pow_add, show m.log2 + 1 + (52 - m.log2) = 53 by omega]
  rw [e2]
  refine ⟨?_, Nat.mul_lt_mul_of_pos_right h2 (Nat.two_pow_pos _)⟩
  rw [e]
  exact Nat.mul_le_mul_right _ h1

theorem div_bounds {m : Nat} (hm : m ≠ 0) (h : 52 ≤ m.log2) : 4503599627370496 ≤ m / 2 ^ (m.log2 - 52) ∧ m / 2 ^ (m.log2 - 52) < 2 * 4503599627370496 := by
  have h1 := log2_le hm
  have h2 := log2_lt (m := m)
  have hp : 0 < 2 ^ (m.log2 - 52) := Nat.two_pow_pos _
  constructor
  · rw [Nat.le_div_iff_mul_le hp, show 4503599627370496 = 2 ^ 52 by decide, ← Nat.pow_add, show 52 + (m.log2 - 52) = m.log2 by omega]; exact h1
  · rw [Nat.div_lt_iff_lt_mul hp, show 2 * 4503599627370496 = 2 ^ 53 by decide, ← Nat.pow_add, show 53 + (m.log2 - 52) = m.log2 + 1 by omega]; exact h2

theorem kept_bounds {m : Nat} (hm : m ≠ 0) : 4503599627370496 ≤ kept m ∧ kept m ≤ 2 * 4503599627370496 := by
  unfold kept
  by_cases h : m.log2 ≤ 52
  · rw [show m.log2 - 52 = 0 by omega, cutE_zero]
    have := shift_bounds hm h
    omega
  · rw [show 52 - m.log2 = 0 by omega, Nat.shiftLeft_zero, cutE_eq (by omega)]
    have := div_bounds hm (by omega)
    split <;> omega

/-- A rung by its binade. -/
theorem mag_up {e k : Nat} (h1 : 4503599627370496 ≤ k) (h2 : k < 2 * 4503599627370496) : magOf (e * 4503599627370496 + k) = k ∧ upOf (e * 4503599627370496 + k) = e := by
  unfold magOf upOf
  have h3 : ¬ e * 4503599627370496 + k < 4503599627370496 := by omega
  rw [if_neg h3, if_neg h3]
  constructor
  · rw [show e * 4503599627370496 + k = k - 4503599627370496 + (e + 1) * 4503599627370496 by rw [Nat.succ_mul]; omega, Nat.add_mul_mod_self_right, Nat.mod_eq_of_lt (by omega)]; omega
  · rw [show e * 4503599627370496 + k = k - 4503599627370496 + (e + 1) * 4503599627370496 by rw [Nat.succ_mul]; omega, Nat.add_mul_div_right _ _ (by decide), Nat.div_eq_of_lt (by omega)]; omega

/-- A whole number, exact. -/
theorem kept_exact {m : Nat} (hm : m ≠ 0) (h : m ≤ 9007199254740992) : kept m < 2 * 4503599627370496 ∧ kept m * 2 ^ m.log2 = m * 4503599627370496 := by
  have hl : m.log2 ≤ 53 := by
    have := log2_le hm
    refine Classical.byContradiction fun h2 => ?_
    have : 2 ^ 54 ≤ 2 ^ m.log2 := Nat.pow_le_pow_right (by omega) (by omega)
    omega
  unfold kept
  by_cases h2 : m.log2 ≤ 52
  · rw [show m.log2 - 52 = 0 by omega, cutE_zero]
    refine ⟨(shift_bounds hm h2).2, ?_⟩
    rw [Nat.shiftLeft_eq, Nat.mul_assoc, ← Nat.pow_add, show 52 - m.log2 + m.log2 = 52 by omega]
  · have h3 : m.log2 = 53 := by omega
    have h4 := log2_le hm
    rw [h3] at h4
    have : m = 9007199254740992 := by omega
    subst this
    decide +kernel

theorem rung_int {m : Nat} (hm : m ≠ 0) (h : m ≤ 9007199254740992) : rung m 0 < 9218868437227405312 ∧ magOf (rung m 0) = kept m ∧ upOf (rung m 0) = m.log2 + 1022 := by
  have hl : m.log2 ≤ 53 := by
    have := log2_le hm
    refine Classical.byContradiction fun h2 => ?_
    have : 2 ^ 54 ≤ 2 ^ m.log2 := Nat.pow_le_pow_right (by omega) (by omega)
    omega
  have h1 := kept_bounds hm
  have h2 := (kept_exact hm h).1
  have e : (0 + (m.log2 : Int) + 1022).toNat = m.log2 + 1022 := by omega
  have h3 : (m.log2 + 1022) * 4503599627370496 + kept m < 9218868437227405312 := by
    have := Nat.mul_le_mul_right 4503599627370496 (show m.log2 + 1022 ≤ 1075 by omega)
    omega
  rw [rung_norm hm (by omega), e, Nat.min_eq_left (by omega)]
  exact ⟨h3, mag_up h1.1 h2⟩

theorem nearest_int (n : Int) : FloatKind.nearest .f64 n = D.word (decide (n < 0)) (rung n.natAbs 0) := nearest_rung _ _ _

theorem log2_of {m k : Nat} (h1 : 2 ^ k ≤ m) (h2 : m < 2 ^ (k + 1)) : m.log2 = k := by
  have hm : m ≠ 0 := by have := Nat.two_pow_pos k; omega
  have h3 := log2_le hm
  have h4 := log2_lt (m := m)
  have a1 : m.log2 < k + 1 := (Nat.pow_lt_pow_iff_right (a := 2) (by omega)).1 (by omega)
  have a2 : k < m.log2 + 1 := (Nat.pow_lt_pow_iff_right (a := 2) (by omega)).1 (by omega)
  omega

theorem log2_mul_pow {m : Nat} (hm : m ≠ 0) (k : Nat) : (m * 2 ^ k).log2 = m.log2 + k := by
  refine log2_of ?_ ?_
  · rw [Nat.pow_add]; exact Nat.mul_le_mul_right _ (log2_le hm)
  · rw [show m.log2 + k + 1 = m.log2 + 1 + k by omega, Nat.pow_add]; exact Nat.mul_lt_mul_of_pos_right log2_lt (Nat.two_pow_pos _)

end Go.Proofs.YtaaecodkdgkjoaaDoor.FL
