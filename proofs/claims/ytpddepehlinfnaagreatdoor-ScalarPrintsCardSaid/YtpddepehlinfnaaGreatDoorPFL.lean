/- Part of a claim: floats of 64 bits: words, rungs, their order; whole numbers as floats. Nothing of a program stands here. -/
import Derived.Laws.FloatArith
set_option linter.unusedSimpArgs false
set_option linter.unusedVariables false
namespace Go.Proofs.YtpddepehlinfnaaGreatDoor.FL
open Go Ieee

abbrev D : Format := double

theorem d_binade : D.binade = 4503599627370496 := by decide
theorem d_inf : D.infRung = 9218868437227405312 := by decide
theorem d_sw : D.signWeight = 9223372036854775808 := by decide
theorem d_least : D.leastPlace = -1074 := by decide

/-- What a rung stands for, in units of 2^-1074. -/
def V (r : Nat) : Nat := if r < 4503599627370496 then r else (4503599627370496 + r % 4503599627370496) * 2 ^ (r / 4503599627370496 - 1)

theorem V_succ (r : Nat) : V r < V (r + 1) := by
  unfold V
  by_cases h1 : r + 1 < 4503599627370496
  · rw [if_pos (by omega), if_pos h1]; omega
  · by_cases h2 : r < 4503599627370496
    · have e : r + 1 = 4503599627370496 := by omega
      rw [if_pos h2, if_neg h1, e]
      have : 4503599627370496 % 4503599627370496 = 0 := by decide
      have h3 : 4503599627370496 / 4503599627370496 - 1 = 0 := by decide
      rw [this, h3]; omega
    · rw [if_neg h2, if_neg h1]
      by_cases h3 : (r + 1) % 4503599627370496 = 0
      · have e1 : r % 4503599627370496 = 4503599627370496 - 1 := by omega
        have e2 : (r + 1) / 4503599627370496 = r / 4503599627370496 + 1 := by omega
        have h4 : 1 ≤ r / 4503599627370496 := by omega
        rw [h3, e1, e2]
        obtain ⟨q, hq⟩ : ∃ q, r / 4503599627370496 = q + 1 := ⟨r / 4503599627370496 - 1, by omega⟩
        rw [hq, show q + 1 - 1 = q by omega, show q + 1 + 1 - 1 = q + 1 by omega, Nat.pow_succ, Nat.add_zero, show 4503599627370496 * (2 ^ q * 2) = (4503599627370496 * 2) * 2 ^ q by rw [Nat.mul_comm (2 ^ q) 2, ← Nat.mul_assoc]]
        exact Nat.mul_lt_mul_of_pos_right (by omega) (Nat.two_pow_pos _)
      · have e1 : (r + 1) % 4503599627370496 = r % 4503599627370496 + 1 := by omega
        have e2 : (r + 1) / 4503599627370496 = r / 4503599627370496 := by omega
        rw [e1, e2]
        exact Nat.mul_lt_mul_of_pos_right (by omega) (Nat.two_pow_pos _)

theorem V_lt {r s : Nat} (h : r < s) : V r < V s := by
  obtain ⟨k, rfl⟩ : ∃ k, s = r + 1 + k := ⟨s - (r + 1), by omega⟩
  clear h
  induction k with
  | zero => exact V_succ r
  | succ k ih => exact Nat.lt_trans ih (V_succ _)

theorem V_zero : V 0 = 0 := rfl
theorem V_pos {r : Nat} (h : 0 < r) : 0 < V r := by have := V_lt h; rw [V_zero] at this; exact this

/-- A rung's number. -/
def magOf (r : Nat) : Nat := if r < 4503599627370496 then r else 4503599627370496 + r % 4503599627370496
def upOf (r : Nat) : Nat := if r < 4503599627370496 then 0 else r / 4503599627370496 - 1
theorem V_mag (r : Nat) : V r = magOf r * 2 ^ upOf r := by
  unfold V magOf upOf
  split
  · simp
  · rfl

theorem word_neg {s : Bool} {r : Nat} (h : r < 9223372036854775808) : (D.word s r / D.signWeight % 2 == 1) = s ∧ D.word s r % D.signWeight = r := by
  rw [d_sw]
  unfold Format.word
  rw [d_sw]
  cases s
  · simp only [Bool.false_eq_true, if_false]
    rw [show r / 9223372036854775808 = 0 by omega]
    exact ⟨rfl, by omega⟩
  · simp only [if_true]
    rw [show (9223372036854775808 + r) / 9223372036854775808 = 1 by omega]
    exact ⟨rfl, by omega⟩

theorem read_word {s : Bool} {r : Nat} (h : r < 9218868437227405312) : D.read (D.word s r) = .number s (magOf r) (-1074 + upOf r) := by
  obtain ⟨h1, h2⟩ := word_neg (s := s) (r := r) (by omega)
  unfold Format.read
  simp only [h1, h2, d_binade, d_inf, d_least]
  unfold magOf upOf
  by_cases c : r < 4503599627370496
  · simp only [if_pos c]; simp
  · simp only [if_neg c, if_pos h]

theorem read_inf {s : Bool} : D.read (D.word s 9218868437227405312) = .infinity s := by
  obtain ⟨h1, h2⟩ := word_neg (s := s) (r := 9218868437227405312) (by decide)
  unfold Format.read
  simp only [h1, h2, d_binade, d_inf, d_least]
  rfl

theorem read_nan {s : Bool} {r : Nat} (h : 9218868437227405312 < r) (h2 : r < 9223372036854775808) : D.read (D.word s r) = .nan s (r - 9218868437227405312) := by
  obtain ⟨h1, h2⟩ := word_neg (s := s) (r := r) h2
  unfold Format.read
  simp only [h1, h2, d_binade, d_inf, d_least]
  rw [if_neg (by omega), if_neg (by omega), if_neg (by omega)]

/-- A number with its sign. -/
def sval (s : Bool) (r : Nat) : Int := if s then -(V r : Int) else V r

theorem signed_sval (s : Bool) (r : Nat) : signed s (magOf r) (upOf r) = sval s r := by
  unfold signed sval
  rw [V_mag, Nat.shiftLeft_eq]

/-! ### Rounding -/

def cutE (n d : Nat) : Nat := Toward.even.cut false n d

/-- The rung nearest to m * 2^i. -/
def rung (m : Nat) (i : Int) : Nat :=
  if m = 0 then 0 else
  min ((max (i + m.log2 - 52) (-1074) + 1074).toNat * 4503599627370496 + cutE (m <<< (i - max (i + m.log2 - 52) (-1074)).toNat) (max (i + m.log2 - 52) (-1074) - i).toNat) 9218868437227405312

theorem nearest_rung (s : Bool) (m : Nat) (i : Int) : D.nearest s m i = D.word s (rung m i) := by
  unfold Format.nearest rung
  split
  · rfl
  · simp only [d_least, d_binade, d_inf]
    have e : (D.fractionBits : Int) = 52 := rfl
    have e2 : ∀ x y, Toward.even.cut s x y = cutE x y := fun _ _ => rfl
    rw [e, e2]
    simp only [Int.sub_neg]

theorem cutE_zero (n : Nat) : cutE n 0 = n := by
  unfold cutE Toward.cut
  simp [Nat.mod_one]

theorem cutE_eq {n d : Nat} (h : d ≤ n.log2 + 2) : cutE n d = n / 2 ^ d + (if 2 ^ d < 2 * (n % 2 ^ d) ∨ (2 ^ d = 2 * (n % 2 ^ d) ∧ n / 2 ^ d % 2 = 1) then 1 else 0) := by
  unfold cutE Toward.cut
  simp only [Nat.min_eq_left h, Nat.shiftLeft_eq, Nat.one_mul]
  congr 1
  by_cases c1 : 2 ^ d < 2 * (n % 2 ^ d)
  · simp [c1]
  · by_cases c2 : 2 ^ d = 2 * (n % 2 ^ d)
    · by_cases c3 : n / 2 ^ d % 2 = 1
      · simp [c3, ← c2]
      · have : (n / 2 ^ d % 2 == 1) = false := by simp [c3]
        simp [c1, c3, ← c2]
    · simp [c1, c2]

theorem log2_le {m : Nat} (h : m ≠ 0) : 2 ^ m.log2 ≤ m := Nat.log2_self_le h
theorem log2_lt {m : Nat} : m < 2 ^ (m.log2 + 1) := Nat.lt_log2_self

def kept (m : Nat) : Nat := cutE (m <<< (52 - m.log2)) (m.log2 - 52)

/-- A rung by its binade. -/
theorem mag_up {e k : Nat} (h1 : 4503599627370496 ≤ k) (h2 : k < 2 * 4503599627370496) : magOf (e * 4503599627370496 + k) = k ∧ upOf (e * 4503599627370496 + k) = e := by
  unfold magOf upOf
  have h3 : ¬ e * 4503599627370496 + k < 4503599627370496 := by omega
  rw [if_neg h3, if_neg h3]
  constructor
  · rw [show e * 4503599627370496 + k = k - 4503599627370496 + (e + 1) * 4503599627370496 by rw [Nat.succ_mul]; omega, Nat.add_mul_mod_self_right, Nat.mod_eq_of_lt (by omega)]; omega
  · rw [show e * 4503599627370496 + k = k - 4503599627370496 + (e + 1) * 4503599627370496 by rw [Nat.succ_mul]; omega, Nat.add_mul_div_right _ _ (by decide), Nat.div_eq_of_lt (by omega)]; omega

theorem log2_of {m k : Nat} (h1 : 2 ^ k ≤ m) (h2 : m < 2 ^ (k + 1)) : m.log2 = k := by
  have hm : m ≠ 0 := by have := Nat.two_pow_pos k; omega
  have h3 := log2_le hm
  have h4 := log2_lt (m := m)
  have a1 : m.log2 < k + 1 := (Nat.pow_lt_pow_iff_right (a := 2) (by omega)).1 (by omega)
  have a2 : k < m.log2 + 1 := (Nat.pow_lt_pow_iff_right (a := 2) (by omega)).1 (by omega)
  omega

theorem log2_mul_pow {m : Nat} (hm : m ≠ 0) (k : Nat) : (m * 2 ^ k).log2 = m.log2 + k := by
  refine log2_of ?_ ?_
  · rw [Nat.pow_add]; exact Nat.mul_le_mul_right _ (log2_le hm)
  · rw [show m.log2 + k + 1 = m.log2 + 1 + k by omega, Nat.pow_add]; exact Nat.mul_lt_mul_of_pos_right log2_lt (Nat.two_pow_pos _)

end Go.Proofs.YtpddepehlinfnaaGreatDoor.FL
