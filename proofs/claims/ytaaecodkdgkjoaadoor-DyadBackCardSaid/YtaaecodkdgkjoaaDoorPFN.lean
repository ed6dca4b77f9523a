/- Part of a claim: floats of 64 bits: products with powers of two; the lowest bit of a number; numbers without their twos. Nothing of a program stands here. -/
import Derived.Test.YtaaecodkdgkjoaaDoorPFM
set_option linter.unusedSimpArgs false
set_option linter.unusedVariables false
namespace Go.Proofs.YtaaecodkdgkjoaaDoor.FL
open Go Ieee

/-! ### Powers of two -/

theorem read_pow {k : Int} (h1 : -1022 ≤ k) (h2 : k ≤ 1023) : D.read ((1023 + k).toNat * 4503599627370496) = .number false 4503599627370496 (k - 52) := by
  obtain ⟨u, hu⟩ : ∃ u : Nat, (1023 + k).toNat = u + 1 := ⟨(1022 + k).toNat, by omega⟩
  have e := mag_up (e := u) (k := 4503599627370496) (by omega) (by omega)
  have hr : (1023 + k).toNat * 4503599627370496 = u * 4503599627370496 + 4503599627370496 := by rw [hu, Nat.succ_mul]
  have := read_word (s := false) (r := u * 4503599627370496 + 4503599627370496) (by omega)
  rw [e.1, e.2] at this
  rw [hr]
  rw [show D.word false (u * 4503599627370496 + 4503599627370496) = u * 4503599627370496 + 4503599627370496 by rfl] at this
  rw [this, show -1074 + (u : Int) = k - 52 by omega]

/-- The product with a power of two. -/
theorem mul_pow {s : Bool} {r : Nat} {k : Int} (h : r < 9218868437227405312) (h1 : -1022 ≤ k) (h2 : k ≤ 1023) : D.mul (D.word s r) ((1023 + k).toNat * 4503599627370496) = some (D.word s (rung (magOf r) (-1074 + upOf r + k))) := by
  unfold Format.mul
  rw [read_word h, read_pow h1 h2]
  simp only [Datum.product, Option.map_some, Format.write, Bool.xor_false]
  rw [nearest_rung]
  have := rung_scale (magOf r) 52 (-1074 + (upOf r : Int) + (k - 52))
  rw [show 2 ^ 52 = 4503599627370496 by decide] at this
  rw [this]
  congr 3
  omega
theorem pow_mul {s : Bool} {r : Nat} {k : Int} (h : r < 9218868437227405312) (h1 : -1022 ≤ k) (h2 : k ≤ 1023) : D.mul ((1023 + k).toNat * 4503599627370496) (D.word s r) = some (D.word s (rung (magOf r) (-1074 + upOf r + k))) := by
  unfold Format.mul
  rw [read_word h, read_pow h1 h2]
  simp only [Datum.product, Option.map_some, Format.write, Bool.false_xor]
  rw [nearest_rung]
  have := rung_scale (magOf r) 52 (k - 52 + (-1074 + (upOf r : Int)))
  rw [show 2 ^ 52 = 4503599627370496 by decide] at this
  rw [Nat.mul_comm, this]
  congr 3
  omega

/-- A subnormal number, made normal. -/
theorem rung_sub {r : Nat} (h0 : r ≠ 0) (h : r < 4503599627370496) : rung r (-1022) = r.log2 * 4503599627370496 + r * 2 ^ (52 - r.log2) ∧ 4503599627370496 ≤ r * 2 ^ (52 - r.log2) ∧ r * 2 ^ (52 - r.log2) < 9007199254740992 ∧ r.log2 ≤ 51 := by
  have hl := log2_small (k := 52) h0 (by rw [show 2 ^ 52 = 4503599627370496 by decide]; exact h)
  have hs := shift_bounds h0 (by omega)
  rw [Nat.shiftLeft_eq] at hs
  have e := rung_norm (m := r) (i := -1022) h0 (by omega)
  unfold kept at e
  rw [show r.log2 - 52 = 0 by omega, cutE_zero, Nat.shiftLeft_eq, show (-1022 + (r.log2 : Int) + 1022).toNat = r.log2 by omega] at e
  refine ⟨?_, hs.1, by omega, by omega⟩
  rw [e]
  have : r.log2 * 4503599627370496 ≤ 51 * 4503599627370496 := Nat.mul_le_mul_right _ (by omega)
  omega

/-- A whole number as a float, and its product with a power of two. -/
theorem rung_move {m : Nat} (hm : m ≠ 0) (h : m ≤ 9007199254740992) (i : Int) : rung (kept m) (i + m.log2 - 52) = rung m i := by
  have e := (kept_exact hm h).2
  have h1 := rung_scale (kept m) m.log2 (i - 52)
  have h2 := rung_scale m 52 (i - 52)
  rw [e, show 4503599627370496 = 2 ^ 52 by decide, h2] at h1
  rw [show i - 52 + ((52 : Nat) : Int) = i by omega, show i - 52 + (m.log2 : Int) = i + m.log2 - 52 by omega] at h1
  exact h1.symm

/-! ### Twos -/

/-- How many twos a number bears. -/
def tzF : Nat → Nat → Nat
  | 0, _ => 0
  | n + 1, m => if m % 2 = 0 then tzF n (m / 2) + 1 else 0
/-- Of a number below 2^64. -/
def tz (m : Nat) : Nat := tzF 64 m

theorem tzF_spec : ∀ (n m : Nat), m ≠ 0 → m < 2 ^ n → m = m / 2 ^ tzF n m * 2 ^ tzF n m ∧ m / 2 ^ tzF n m % 2 = 1 ∧ tzF n m < n
  | 0, m, h0, h => by omega
  | n + 1, m, h0, h => by
    unfold tzF
    by_cases c : m % 2 = 0
    · rw [if_pos c]
      rw [Nat.pow_succ] at h
      obtain ⟨h1, h2, h3⟩ := tzF_spec n (m / 2) (by omega) (by omega)
      rw [Nat.pow_succ, Nat.mul_comm (2 ^ tzF n (m / 2)) 2, ← Nat.div_div_eq_div_mul]
      refine ⟨?_, h2, by omega⟩
      obtain ⟨a, ha⟩ : ∃ a, a = m / 2 / 2 ^ tzF n (m / 2) := ⟨_, rfl⟩
      rw [← ha] at h1 ⊢
      rw [Nat.mul_comm 2, ← Nat.mul_assoc, ← h1]
      omega
    · rw [if_neg c, Nat.pow_zero, Nat.div_one, Nat.mul_one]
      exact ⟨rfl, by omega, by omega⟩

theorem odd_pow_unique {a b i j : Nat} (ha : a % 2 = 1) (hb : b % 2 = 1) (h : a * 2 ^ i = b * 2 ^ j) : i = j ∧ a = b := by
  induction i generalizing j with
  | zero =>
    cases j with
    | zero => exact ⟨rfl, by simpa using h⟩
    | succ j =>
      rw [Nat.pow_zero, Nat.mul_one, Nat.pow_succ, ← Nat.mul_assoc] at h
      omega
  | succ i ih =>
    cases j with
    | zero =>
      rw [Nat.pow_zero, Nat.mul_one, Nat.pow_succ, ← Nat.mul_assoc] at h
      omega
    | succ j =>
      rw [Nat.pow_succ, Nat.pow_succ, ← Nat.mul_assoc, ← Nat.mul_assoc] at h
      have := ih (j := j) (by omega)
      exact ⟨by omega, this.2⟩

theorem tz_spec {m : Nat} (h0 : m ≠ 0) (h : m < 18446744073709551616) : m = m / 2 ^ tz m * 2 ^ tz m ∧ m / 2 ^ tz m % 2 = 1 ∧ tz m < 64 := tzF_spec 64 m h0 h
theorem tz_odd {m : Nat} (h : m % 2 = 1) : tz m = 0 := by unfold tz tzF; rw [if_neg (by omega)]
theorem tz_mul {m k : Nat} (h0 : m ≠ 0) (h : m * 2 ^ k < 18446744073709551616) : tz (m * 2 ^ k) = tz m + k ∧ m * 2 ^ k / 2 ^ tz (m * 2 ^ k) = m / 2 ^ tz m := by
  have hp := Nat.two_pow_pos k
  have hm : m < 18446744073709551616 := Nat.lt_of_le_of_lt (Nat.le_mul_of_pos_right m hp) h
  obtain ⟨a1, a2, _⟩ := tz_spec h0 hm
  obtain ⟨b1, b2, _⟩ := tz_spec (m := m * 2 ^ k) (Nat.mul_ne_zero h0 (by omega)) h
  have e : m / 2 ^ tz m * 2 ^ (tz m + k) = m * 2 ^ k / 2 ^ tz (m * 2 ^ k) * 2 ^ tz (m * 2 ^ k) := by
    rw [← b1, Nat.pow_add, ← Nat.mul_assoc, ← a1]
  obtain ⟨c1, c2⟩ := odd_pow_unique a2 b2 e
  exact ⟨c1.symm, c2.symm⟩

theorem and_step (a b : Nat) : a &&& b = 2 * (a / 2 &&& b / 2) + (if a % 2 = 1 ∧ b % 2 = 1 then 1 else 0) := by
  have h1 : (a &&& b) / 2 = a / 2 &&& b / 2 := Nat.and_div_two
  have h2 : (a &&& b) % 2 = (if a % 2 = 1 ∧ b % 2 = 1 then 1 else 0) := by
    have h3 := Nat.testBit_and a b 0
    simp only [Nat.testBit_zero] at h3
    by_cases c : a % 2 = 1 ∧ b % 2 = 1
    · rw [if_pos c]
      rw [decide_eq_true c.1, decide_eq_true c.2] at h3
      exact of_decide_eq_true h3
    · rw [if_neg c]
      have h4 : (decide (a % 2 = 1) && decide (b % 2 = 1)) = false := by
        rw [← Bool.decide_and]; exact decide_eq_false c
      rw [h4] at h3
      have := of_decide_eq_false h3
      omega
  rw [← h1, ← h2]
  omega

theorem and_compl {n y : Nat} (h : y < 2 ^ n) : y &&& (2 ^ n - (y + 1)) = 0 := by
  refine Nat.eq_of_testBit_eq fun i => ?_
  rw [Nat.testBit_and, Nat.testBit_two_pow_sub_succ h, Nat.zero_testBit]
  cases y.testBit i <;> simp

/-- The lowest bit. -/
theorem low_bit : ∀ (n x : Nat), x ≠ 0 → x < 2 ^ n → x &&& (2 ^ n - x) = 2 ^ tzF n x
  | 0, x, h0, h => by omega
  | n + 1, x, h0, h => by
    rw [and_step]
    unfold tzF
    rw [Nat.pow_succ] at h ⊢
    by_cases c : x % 2 = 0
    · rw [if_pos c, if_neg (by omega), show (2 ^ n * 2 - x) / 2 = 2 ^ n - x / 2 by omega, low_bit n (x / 2) (by omega) (by omega), Nat.pow_succ]
      omega
    · rw [if_neg c, if_pos (by omega), show (2 ^ n * 2 - x) / 2 = 2 ^ n - (x / 2 + 1) by omega, and_compl (by omega)]

theorem low_bit64 {x : Nat} (h0 : x ≠ 0) (h : x < 18446744073709551616) : x &&& (18446744073709551616 - x) = 2 ^ tz x := low_bit 64 x h0 h

end Go.Proofs.YtaaecodkdgkjoaaDoor.FL
