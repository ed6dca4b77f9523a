/- Part of a claim: floats of 64 bits: scaled numbers, exact numbers, halves and doubles. Nothing of a program stands here. -/
import Derived.Test.YtaaecodkdgkjoaaDoorPFL
set_option linter.unusedSimpArgs false
set_option linter.unusedVariables false
namespace Go.Proofs.YtaaecodkdgkjoaaDoor.FL
open Go Ieee

theorem cutE_0 (d : Nat) : cutE 0 d = 0 := by
  unfold cutE Toward.cut
  have h : 1 <<< min d (Nat.log2 0 + 2) ≠ 0 := by
    rw [Nat.shiftLeft_eq]
    have := Nat.two_pow_pos (min d (Nat.log2 0 + 2))
    omega
  simp only [Nat.zero_div, Nat.zero_mod, Nat.mul_zero, Nat.zero_add]
  have h2 : (1 <<< min d (Nat.log2 0 + 2) == 0) = false := by rw [beq_eq_false_iff_ne]; exact h
  rw [h2]
  rfl

theorem cutE_mul (n d : Nat) : cutE (n * 2 ^ d) d = n := by
  by_cases hn : n = 0
  · subst hn; rw [Nat.zero_mul]; exact cutE_0 d
  rw [cutE_eq (by rw [log2_mul_pow hn]; omega), Nat.mul_div_cancel _ (Nat.two_pow_pos d), Nat.mul_mod_left]
  have := Nat.two_pow_pos d
  rw [if_neg (by omega), Nat.add_zero]

theorem cutE_scale (n d k : Nat) : cutE (n * 2 ^ k) (d + k) = cutE n d := by
  by_cases hn : n = 0
  · subst hn; rw [Nat.zero_mul, cutE_0, cutE_0]
  unfold cutE Toward.cut
  have hk := Nat.two_pow_pos k
  have hg : 1 <<< min (d + k) ((n * 2 ^ k).log2 + 2) = (1 <<< min d (n.log2 + 2)) * 2 ^ k := by
    rw [log2_mul_pow hn, show min (d + k) (n.log2 + k + 2) = min d (n.log2 + 2) + k by omega, Nat.shiftLeft_eq, Nat.shiftLeft_eq, Nat.pow_add, Nat.one_mul, Nat.one_mul]
  simp only [hg]
  generalize 1 <<< min d (n.log2 + 2) = g
  rw [Nat.mul_div_mul_right _ _ hk, Nat.mul_mod_mul_right]
  have e1 : (g * 2 ^ k < 2 * (n % g * 2 ^ k)) ↔ g < 2 * (n % g) := by
    rw [← Nat.mul_assoc]; exact Nat.mul_lt_mul_right hk
  have e2 : (g * 2 ^ k = 2 * (n % g * 2 ^ k)) ↔ g = 2 * (n % g) := by
    rw [← Nat.mul_assoc]; exact Nat.mul_left_inj (by omega)
  have e3 : (g * 2 ^ k == 2 * (n % g * 2 ^ k)) = (g == 2 * (n % g)) := by
    rw [Bool.eq_iff_iff, beq_iff_eq, beq_iff_eq]; exact e2
  rw [decide_eq_decide.2 e1, e3]

/-- A number and the same number with more noughts behind it. -/
theorem rung_scale (m k : Nat) (i : Int) : rung (m * 2 ^ k) i = rung m (i + k) := by
  by_cases hm : m = 0
  · subst hm; rw [Nat.zero_mul]; unfold rung; rw [if_pos rfl, if_pos rfl]
  have hk := Nat.two_pow_pos k
  unfold rung
  rw [if_neg (Nat.mul_ne_zero hm (by omega)), if_neg hm, log2_mul_pow hm]
  rw [show i + ((m.log2 + k : Nat) : Int) - 52 = i + (k : Int) + (m.log2 : Int) - 52 by omega]
  obtain ⟨L, hL⟩ : ∃ L, L = max (i + (k : Int) + (m.log2 : Int) - 52) (-1074) := ⟨_, rfl⟩
  rw [← hL]
  congr 2
  by_cases c1 : L ≤ i
  · rw [show (L - i).toNat = 0 by omega, show (L - (i + (k : Int))).toNat = 0 by omega, cutE_zero, cutE_zero, Nat.shiftLeft_eq, Nat.shiftLeft_eq]
    rw [show (i + (k : Int) - L).toNat = k + (i - L).toNat by omega, Nat.pow_add, Nat.mul_assoc]
  · by_cases c2 : L ≤ i + k
    · obtain ⟨d, hd⟩ : ∃ d, d = (L - i).toNat := ⟨_, rfl⟩
      rw [show (i - L).toNat = 0 by omega, show (L - (i + (k : Int))).toNat = 0 by omega, cutE_zero, Nat.shiftLeft_zero, ← hd]
      rw [show m * 2 ^ k = m * 2 ^ (k - d) * 2 ^ d by rw [Nat.mul_assoc, ← Nat.pow_add, show k - d + d = k by omega], cutE_mul, Nat.shiftLeft_eq, show (i + (k : Int) - L).toNat = k - d by omega]
    · rw [show (i - L).toNat = 0 by omega, show (i + (k : Int) - L).toNat = 0 by omega, Nat.shiftLeft_zero, Nat.shiftLeft_zero, show (L - i).toNat = (L - (i + (k : Int))).toNat + k by omega, cutE_scale]

theorem magOf_log {r : Nat} (h : 4503599627370496 ≤ r) : (magOf r).log2 = 52 ∧ magOf r ≠ 0 := by
  unfold magOf
  rw [if_neg (by omega)]
  have : r % 4503599627370496 < 4503599627370496 := Nat.mod_lt _ (by omega)
  refine ⟨log2_of ?_ ?_, by omega⟩
  · rw [show 2 ^ 52 = 4503599627370496 by decide]; omega
  · rw [show 2 ^ (52 + 1) = 2 * 4503599627370496 by decide]; omega

theorem mag_big {r : Nat} (h : 4503599627370496 ≤ r) : upOf r * 4503599627370496 + magOf r = r := by
  unfold magOf upOf
  rw [if_neg (by omega), if_neg (by omega)]
  have := Nat.div_add_mod r 4503599627370496
  have h2 : 1 ≤ r / 4503599627370496 := by omega
  obtain ⟨q, hq⟩ : ∃ q, r / 4503599627370496 = q + 1 := ⟨r / 4503599627370496 - 1, by omega⟩
  rw [hq] at this ⊢
  rw [Nat.add_sub_cancel]
  omega
theorem mag_small {r : Nat} (h : r < 2 * 4503599627370496) : magOf r = r ∧ upOf r = 0 := by
  unfold magOf upOf
  split
  · exact ⟨rfl, rfl⟩
  · omega

theorem log2_small {r k : Nat} (h : r ≠ 0) (h2 : r < 2 ^ k) : r.log2 < k := by
  have := log2_le h
  exact (Nat.pow_lt_pow_iff_right (a := 2) (by omega)).1 (Nat.lt_of_le_of_lt this h2)

/-- A rung's number is rounded to it, one binade more or less too. -/
theorem rung_at {r : Nat} (d : Int) (h : 4503599627370496 ≤ r) (hd : 0 ≤ d + upOf r) : rung (magOf r) (-1074 + upOf r + d) = min ((d + upOf r).toNat * 4503599627370496 + magOf r) 9218868437227405312 := by
  obtain ⟨h1, h2⟩ := magOf_log h
  unfold rung
  rw [if_neg h2, h1, show max (-1074 + (upOf r : Int) + d + ((52 : Nat) : Int) - 52) (-1074) = -1074 + (upOf r : Int) + d by omega]
  rw [show (-1074 + (upOf r : Int) + d + 1074).toNat = (d + (upOf r : Int)).toNat by omega, show (-1074 + (upOf r : Int) + d - (-1074 + (upOf r : Int) + d)).toNat = 0 by omega, cutE_zero, Nat.shiftLeft_zero]

theorem rung_low {r : Nat} (h : r < 2 * 4503599627370496) : rung r (-1074) = r := by
  by_cases hr : r = 0
  · subst hr; rfl
  have h2 := log2_small (k := 53) hr (by rw [show 2 ^ 53 = 2 * 4503599627370496 by decide]; exact h)
  unfold rung
  rw [if_neg hr, show max (-1074 + (r.log2 : Int) - 52) (-1074) = -1074 by omega, show (-1074 + 1074 : Int).toNat = 0 by decide, show (-1074 - -1074 : Int).toNat = 0 by decide, cutE_zero, Nat.shiftLeft_zero, Nat.zero_mul, Nat.zero_add]
  omega

theorem rung_exact {r : Nat} (h : r < 9218868437227405312) : rung (magOf r) (-1074 + upOf r) = r := by
  by_cases c : r < 4503599627370496
  · obtain ⟨h1, h2⟩ := mag_small (r := r) (by omega)
    rw [h1, h2]
    exact rung_low (by omega)
  · have := rung_at (r := r) 0 (by omega) (by omega)
    rw [Int.add_zero] at this
    rw [this, show (0 + (upOf r : Int)).toNat = upOf r by omega, mag_big (by omega)]
    omega

/-- The sum with nought. -/
theorem add_zero {s : Bool} {r : Nat} (h : r < 9218868437227405312) : D.add (D.word s r) 0 = some (D.word (if r = 0 then false else s) r) := by
  unfold Format.add
  rw [read_word h, show D.read 0 = .number false 0 (-1074) by decide +kernel]
  simp only [Datum.sum, Option.map_some, Format.write]
  rw [nearest_rung, show min (-1074 + (upOf r : Int)) (-1074) = -1074 by omega, show (-1074 + (upOf r : Int) - -1074).toNat = upOf r by omega, show signed false 0 (-1074 - -1074 : Int).toNat = 0 by rfl, Int.add_zero, signed_sval]
  have hv : sval s r = 0 ↔ r = 0 := by
    constructor
    · intro hh
      rcases Nat.eq_zero_or_pos r with h0 | h0
      · exact h0
      · have := V_pos h0
        unfold sval at hh
        split at hh <;> omega
    · rintro rfl
      unfold sval
      rw [V_zero]
      split <;> rfl
  have ha : (sval s r).natAbs = V r := by unfold sval; split <;> omega
  rw [ha, V_mag, rung_scale, rung_exact h]
  by_cases h0 : r = 0
  · rw [if_pos (hv.2 h0), if_pos h0, Bool.and_false]
  · rw [if_neg (fun hh => h0 (hv.1 hh)), if_neg h0]
    have hp := V_pos (show 0 < r by omega)
    congr 2
    unfold sval
    cases s
    · simp only [Bool.false_eq_true, if_false]; exact decide_eq_false (by omega)
    · simp only [if_true]; exact decide_eq_true (by omega)
/-- Bits of a number. -/
def nb (m : Nat) : Nat := if m = 0 then 0 else m.log2 + 1
end Go.Proofs.YtaaecodkdgkjoaaDoor.FL
