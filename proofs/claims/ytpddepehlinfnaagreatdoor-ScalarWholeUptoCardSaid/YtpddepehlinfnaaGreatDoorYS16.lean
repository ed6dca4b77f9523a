/- Part of a claim: a sum that is rounded once: what lies behind the first bits is told by one bit. Nothing of a program stands here. -/
import Derived.Test.YtpddepehlinfnaaGreatDoorYFL
set_option linter.unusedSimpArgs false
set_option linter.unusedVariables false
namespace Go.Proofs.YtpddepehlinfnaaGreatDoor.FL
open Go Ieee

/-- The number with its lowest bit set where something lies behind. -/
def sticky (hi : Nat) (s : Bool) : Nat := if s && hi % 2 == 0 then hi + 1 else hi

theorem sticky_div {hi : Nat} {s : Bool} {d : Nat} (hd : 1 ≤ d) : sticky hi s / 2 ^ d = hi / 2 ^ d := by
  obtain ⟨e, rfl⟩ : ∃ e, d = e + 1 := ⟨d - 1, by omega⟩
  rw [show 2 ^ (e + 1) = 2 * 2 ^ e by rw [Nat.pow_succ, Nat.mul_comm], ← Nat.div_div_eq_div_mul, ← Nat.div_div_eq_div_mul]
  congr 1
  unfold sticky
  cases s <;> simp <;> split <;> omega

theorem sticky_mod {hi : Nat} {s : Bool} {d : Nat} (hd : 1 ≤ d) : sticky hi s % 2 ^ d = sticky (hi % 2 ^ d) s := by
  have h1 := sticky_div (hi := hi) (s := s) hd
  have h2 := Nat.div_add_mod (sticky hi s) (2 ^ d)
  have h3 := Nat.div_add_mod hi (2 ^ d)
  have h5 : hi % 2 ^ d % 2 = hi % 2 := by
    rw [Nat.mod_mod_of_dvd]
    exact ⟨2 ^ (d - 1), by rw [← Nat.pow_succ']; congr 1; omega⟩
  rw [h1] at h2
  have h4 : sticky hi s = hi + (if s && hi % 2 == 0 then 1 else 0) := by unfold sticky; split <;> rfl
  have h6 : sticky (hi % 2 ^ d) s = hi % 2 ^ d + (if s && hi % 2 == 0 then 1 else 0) := by unfold sticky; rw [h5]; split <;> rfl
  rw [h6]
  omega

theorem cutE_sticky {hi lo d k : Nat} (h0 : hi ≠ 0) (hd : 2 ≤ d) (hl : lo < 2 ^ k) (h1 : d ≤ hi.log2 + 2) : cutE (hi * 2 ^ k + lo) (d + k) = cutE (sticky hi (decide (lo ≠ 0))) d := by
  obtain ⟨e, rfl⟩ : ∃ e, d = e + 2 := ⟨d - 2, by omega⟩
  have hK : 0 < 2 ^ k := Nat.pow_pos (by omega)
  have hE : 0 < 2 ^ e := Nat.pow_pos (by omega)
  have p1 : 2 ^ (e + 2) = 4 * 2 ^ e := by rw [Nat.pow_add, Nat.mul_comm]
  have p2 : 2 ^ (e + 2 + k) = 2 ^ (e + 2) * 2 ^ k := Nat.pow_add _ _ _
  have q1 : (hi * 2 ^ k + lo) / 2 ^ (e + 2 + k) = hi / 2 ^ (e + 2) := by
    rw [p2, Nat.mul_comm (2 ^ (e + 2)), ← Nat.div_div_eq_div_mul]
    congr 1
    rw [Nat.mul_comm, Nat.mul_add_div hK, Nat.div_eq_of_lt hl, Nat.add_zero]
  have q2 : (hi * 2 ^ k + lo) % 2 ^ (e + 2 + k) = (hi % 2 ^ (e + 2)) * 2 ^ k + lo := by
    have a := Nat.div_add_mod (hi * 2 ^ k + lo) (2 ^ (e + 2 + k))
    have b := Nat.div_add_mod hi (2 ^ (e + 2))
    rw [q1, p2] at a
    have c : hi * 2 ^ k = 2 ^ (e + 2) * 2 ^ k * (hi / 2 ^ (e + 2)) + (hi % 2 ^ (e + 2)) * 2 ^ k := by
      calc hi * 2 ^ k = (2 ^ (e + 2) * (hi / 2 ^ (e + 2)) + hi % 2 ^ (e + 2)) * 2 ^ k := by rw [b]
        _ = _ := by rw [Nat.add_mul]; congr 1; rw [Nat.mul_assoc, Nat.mul_comm (hi / _), ← Nat.mul_assoc]
    rw [p2]
    omega
  have l1 : e + 2 + k ≤ (hi * 2 ^ k + lo).log2 + 2 := by
    have : hi.log2 + k ≤ (hi * 2 ^ k + lo).log2 := by
      have hp : 0 < hi * 2 ^ k := Nat.mul_pos (by omega) hK
      rw [Nat.le_log2 (by omega), Nat.pow_add]
      have := Nat.mul_le_mul_right (2 ^ k) (Nat.log2_self_le h0)
      omega
    omega
  have l2 : e + 2 ≤ (sticky hi (decide (lo ≠ 0))).log2 + 2 := by
    have hs : hi ≤ sticky hi (decide (lo ≠ 0)) := by unfold sticky; split <;> omega
    have : hi.log2 ≤ (sticky hi (decide (lo ≠ 0))).log2 := by
      rw [Nat.le_log2 (by omega)]
      have := Nat.log2_self_le h0
      omega
    omega
  rw [cutE_eq l1, cutE_eq l2, q1, q2, sticky_div (by omega), sticky_mod (by omega), p2]
  generalize hr : hi % 2 ^ (e + 2) = r
  generalize hi / 2 ^ (e + 2) = u
  have hrl : r < 2 ^ (e + 2) := by rw [← hr]; exact Nat.mod_lt _ (by omega)
  rw [p1] at hrl ⊢
  congr 1
  generalize 2 ^ e = E at *
  generalize 2 ^ k = K at *
  have key : (2 * E < r → 2 * E * K + K ≤ r * K) ∧ (r < 2 * E → r * K + K ≤ 2 * E * K) ∧ (r = 2 * E → r * K = 2 * E * K) := by
    refine ⟨fun h => ?_, fun h => ?_, fun h => by rw [h]⟩
    · calc 2 * E * K + K = (2 * E + 1) * K := by rw [Nat.add_mul, Nat.one_mul]
        _ ≤ r * K := Nat.mul_le_mul_right _ (by omega)
    · calc r * K + K = (r + 1) * K := by rw [Nat.add_mul, Nat.one_mul]
        _ ≤ 2 * E * K := Nat.mul_le_mul_right _ (by omega)
  have e4 : 4 * E * K = 2 * (2 * E * K) := by rw [← Nat.mul_assoc, ← Nat.mul_assoc]
  rw [e4]
  generalize 2 * E * K = A at *
  generalize r * K = R at *
  unfold sticky
  by_cases hz : lo = 0
  · subst hz
    simp only [ne_eq, not_true_eq_false, decide_false, Bool.false_and, Bool.false_eq_true, if_false, Nat.add_zero]
    split <;> split <;> first | rfl | omega
  · simp only [ne_eq, hz, not_false_eq_true, decide_true, Bool.true_and, beq_iff_eq]
    split <;> split <;> split <;> first | rfl | omega

theorem log2_parts {hi lo k : Nat} (h0 : hi ≠ 0) (hl : lo < 2 ^ k) : (hi * 2 ^ k + lo).log2 = hi.log2 + k := by
  have hK : 0 < 2 ^ k := Nat.pow_pos (by omega)
  have hp : 0 < hi * 2 ^ k := Nat.mul_pos (by omega) hK
  have a : hi.log2 + k ≤ (hi * 2 ^ k + lo).log2 := by
    rw [Nat.le_log2 (by omega), Nat.pow_add]
    have := Nat.mul_le_mul_right (2 ^ k) (Nat.log2_self_le h0)
    omega
  have b : (hi * 2 ^ k + lo).log2 < hi.log2 + k + 1 := by
    rw [Nat.log2_lt (by omega), show hi.log2 + k + 1 = (hi.log2 + 1) + k by omega, Nat.pow_add]
    have h1 : hi + 1 ≤ 2 ^ (hi.log2 + 1) := Nat.lt_log2_self
    have := Nat.mul_le_mul_right (2 ^ k) h1
    rw [Nat.add_mul, Nat.one_mul] at this
    omega
  omega

theorem log2_sticky {hi : Nat} {s : Bool} (h0 : hi ≠ 0) : (sticky hi s).log2 = hi.log2 := by
  unfold sticky
  split
  · rename_i h
    simp only [Bool.and_eq_true, beq_iff_eq] at h
    have e : hi = hi / 2 * 2 ^ 1 + 0 := by omega
    have e2 : hi + 1 = hi / 2 * 2 ^ 1 + 1 := by omega
    rw [e2, log2_parts (by omega) (by omega)]
    conv => rhs; rw [e]
    rw [log2_parts (by omega) (by omega)]
  · rfl

/-- A NUMBER ROUNDED ONCE: its first bits (55 at least), and one bit that tells whether something lies behind, serve as well. -/
theorem rung_sticky {hi lo k : Nat} (hh : 2 ^ 54 ≤ hi) (hl : lo < 2 ^ k) : rung (hi * 2 ^ k + lo) (-1074) = rung (sticky hi (decide (lo ≠ 0))) (-1074 + (k : Int)) := by
  have h0 : hi ≠ 0 := by omega
  have hK : 0 < 2 ^ k := Nat.pow_pos (by omega)
  have hp : 0 < hi * 2 ^ k := Nat.mul_pos (by omega) hK
  have hs : hi ≤ sticky hi (decide (lo ≠ 0)) := by unfold sticky; split <;> omega
  have hL : 54 ≤ hi.log2 := by rw [Nat.le_log2 h0]; exact hh
  unfold rung
  rw [if_neg (by omega), if_neg (by omega), log2_parts h0 hl, log2_sticky h0]
  have e1 : max (-1074 + ((hi.log2 + k : Nat) : Int) - 52) (-1074) = -1074 + ((hi.log2 - 52 + k : Nat) : Int) := by omega
  have e2 : max (-1074 + (k : Int) + (hi.log2 : Int) - 52) (-1074) = -1074 + ((hi.log2 - 52 + k : Nat) : Int) := by omega
  rw [e1, e2]
  rw [show (-1074 - (-1074 + ((hi.log2 - 52 + k : Nat) : Int))).toNat = 0 by omega, show (-1074 + ((hi.log2 - 52 + k : Nat) : Int) - -1074).toNat = hi.log2 - 52 + k by omega,
    show (-1074 + (k : Int) - (-1074 + ((hi.log2 - 52 + k : Nat) : Int))).toNat = 0 by omega, show (-1074 + ((hi.log2 - 52 + k : Nat) : Int) - (-1074 + (k : Int))).toNat = hi.log2 - 52 by omega,
    Nat.shiftLeft_zero, Nat.shiftLeft_zero, cutE_sticky h0 (by omega) hl (by omega)]

end Go.Proofs.YtpddepehlinfnaaGreatDoor.FL
