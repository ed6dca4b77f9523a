/- Part of a claim: texts of dyads, plain: digits, the one text of a dyad. -/
import Derived.Test.YtaaecodkdgkjoaaDoorPH3
import Derived.Test.YtaaecodkdgkjoaaDoorPES
import Derived.Test.YtaaecodkdgkjoaaDoorPIT
set_option linter.unusedSimpArgs false
set_option linter.unusedVariables false
namespace Go.Proofs.YtaaecodkdgkjoaaDoor.B
open Go Go.RowKit Go.Proofs.YtaaecodkdgkjoaaDoor.E

def isD (b : UInt8) : Bool := decide (48 ≤ b.toNat) && decide (b.toNat ≤ 57)
theorem isD_iff {b : UInt8} : isD b = true ↔ 48 ≤ b.toNat ∧ b.toNat ≤ 57 := by unfold isD; simp
def valF (l : List UInt8) : Nat := l.foldl (fun a b => a * 10 + (b.toNat - 48)) 0
theorem valF_snoc (l : List UInt8) (b : UInt8) : valF (l ++ [b]) = valF l * 10 + (b.toNat - 48) := by unfold valF; rw [List.foldl_append]; rfl
theorem dig_nat {n : Nat} (h : n < 10) : (UInt8.ofNat (48 + n)).toNat = 48 + n := by rw [UInt8.toNat_ofNat']; omega
theorem dec_small {n : Nat} (h : n < 10) : Lib.decDigits n = [UInt8.ofNat (48 + n)] := by rw [Lib.decDigits, dif_pos h]
theorem dec_big {n : Nat} (h : ¬ n < 10) : Lib.decDigits n = Lib.decDigits (n / 10) ++ [UInt8.ofNat (48 + n % 10)] := by rw [Lib.decDigits, dif_neg h]
theorem dec_ok (n : Nat) : (∀ c ∈ Lib.decDigits n, isD c = true) ∧ 1 ≤ (Lib.decDigits n).length ∧ valF (Lib.decDigits n) = n := by
  induction n using Nat.strongRecOn with
  | _ n ih =>
    by_cases c : n < 10
    · rw [dec_small c]
      refine ⟨fun x hx => ?_, by simp, ?_⟩
      · rw [List.mem_singleton] at hx
        subst hx
        rw [isD_iff, dig_nat c]; omega
      · show 0 * 10 + ((UInt8.ofNat (48 + n)).toNat - 48) = n
        rw [dig_nat c]; omega
    · obtain ⟨h1, h2, h3⟩ := ih (n / 10) (by omega)
      rw [dec_big c]
      refine ⟨fun x hx => ?_, by simp, ?_⟩
      · rcases List.mem_append.1 hx with hx | hx
        · exact h1 x hx
        · rw [List.mem_singleton] at hx
          subst hx
          rw [isD_iff, dig_nat (by omega)]; omega
      · rw [valF_snoc, h3, dig_nat (by omega)]; omega
theorem dec_len : ∀ (k n : Nat), n < 10 ^ (k + 1) → (Lib.decDigits n).length ≤ k + 1
  | 0, n, h => by rw [dec_small (by simpa using h)]; simp
  | k + 1, n, h => by
    by_cases c : n < 10
    · rw [dec_small c]; simp
    · rw [dec_big c, List.length_append]
      have := dec_len k (n / 10) (by rw [Nat.pow_succ] at h; omega)
      simp; omega

/-! ### What the library reads of digits -/

theorem pu_app : ∀ (l r : List UInt8) (a v : Nat), Lib.parseUint10 a l = .ok v → Lib.parseUint10 a (l ++ r) = Lib.parseUint10 v r
  | [], r, a, v, h => by
    simp only [Lib.parseUint10] at h
    injection h with h
    rw [h]; rfl
  | c :: l, r, a, v, h => by
    rw [List.cons_append]
    simp only [Lib.parseUint10] at h ⊢
    split at h
    · rename_i h1
      rw [if_pos h1]
      split at h
      · cases h
      · rename_i h2
        rw [if_neg h2]
        split at h
        · cases h
        · rename_i h3
          rw [if_neg h3]
          exact pu_app l r _ _ h
    · cases h

theorem pu_dec (n : Nat) : n < 9223372036854775808 → Lib.parseUint10 0 (Lib.decDigits n) = .ok n := by
  induction n using Nat.strongRecOn with
  | _ n ih =>
    intro hn
    by_cases c : n < 10
    · rw [dec_small c]
      simp only [Lib.parseUint10, dig_nat c]
      rw [if_pos (by omega), if_neg (by omega), if_neg (by omega)]
      congr 1; omega
    · rw [dec_big c, pu_app _ _ _ _ (ih (n / 10) (by omega) (by omega))]
      simp only [Lib.parseUint10, dig_nat (show n % 10 < 10 by omega)]
      rw [if_pos (by omega), if_neg (by omega), if_neg (by omega)]
      congr 1; omega

theorem pm_dec {n : Nat} (hn : n < 9223372036854775808) : Lib.parseMag (Lib.decDigits n) = .ok n := by
  have h := (dec_ok n).2.1
  unfold Lib.parseMag
  rw [if_neg (by intro e; rw [e] at h; simp at h), pu_dec n hn]

theorem dec_cons (n : Nat) : ∃ c r, Lib.decDigits n = c :: r ∧ isD c = true := by
  have h := dec_ok n
  cases hd : Lib.decDigits n with
  | nil => rw [hd] at h; simp at h
  | cons c r => exact ⟨c, r, rfl, h.1 c (by rw [hd]; simp)⟩

theorem pi_sign {c : UInt8} (hc : c.toNat = 43 ∨ c.toNat = 45) {n : Nat} (hn : n < 9223372036854775808) : Lib.parseIntB 64 (c :: Lib.decDigits n) = .ok (if c.toNat = 45 then -(n : Int) else (n : Int)) := by
  rw [Lib.parseIntB_64]
  simp only [Lib.atoiAll]
  rw [if_pos hc, pm_dec hn]
  simp only
  rw [if_neg (by omega), if_neg (by omega)]

theorem pi_itoa {n : Int} (h : n.natAbs < 9223372036854775808) : Lib.parseIntB 64 (Lib.itoa n) = .ok n := by
  unfold Lib.itoa
  by_cases c : n < 0
  · rw [if_pos c, pi_sign (c := 45) (.inr rfl) h]
    rw [if_pos (by rfl)]
    congr 1; omega
  · rw [if_neg c]
    obtain ⟨d, r, e, hd⟩ := dec_cons n.toNat
    have h2 := isD_iff.1 hd
    have hp := pm_dec (n := n.toNat) (by omega)
    rw [Lib.parseIntB_64, e]
    simp only [Lib.atoiAll]
    rw [if_neg (by omega), ← e, hp]
    simp only
    rw [if_neg (by omega), if_neg (by omega), if_neg (by omega)]
    congr 1; omega

/-! ### The text of a dyad -/

def sgB (b : Int) : UInt8 := if b < 0 then 45 else 43
/-- The text. -/
def wr (a b : Int) (e : Nat) : List UInt8 := Lib.itoa a ++ sgB b :: Lib.decDigits b.natAbs ++ [105] ++ (if e = 0 then [] else 47 :: Lib.decDigits (2 ^ e))

theorem itoa_nonneg {n : Int} (h : 0 ≤ n) : Lib.itoa n = Lib.decDigits n.natAbs := by
  unfold Lib.itoa; rw [if_neg (by omega)]; congr 1; omega
theorem itoa_neg {n : Int} (h : n < 0) : Lib.itoa n = 45 :: Lib.decDigits n.natAbs := by
  unfold Lib.itoa; rw [if_pos h]

theorem itoa_len {n : Int} (h : n.natAbs ≤ 9223372036854775808) : (Lib.itoa n).length ≤ 20 ∧ 1 ≤ (Lib.itoa n).length := by
  have h1 := dec_len 18 n.natAbs (by have : (10 : Nat) ^ 19 = 10000000000000000000 := by decide
                                     omega)
  have h2 := (dec_ok n.natAbs).2.1
  by_cases c : n < 0
  · rw [itoa_neg c]; simp; omega
  · rw [itoa_nonneg (by omega)]; omega
theorem wr_len {a b : Int} {e : Nat} (ha : a.natAbs ≤ 9223372036854775808) (hb : b.natAbs ≤ 9223372036854775808) (he : e ≤ 62) : (wr a b e).length ≤ 100 := by
  have h1 := itoa_len ha
  have h2 := dec_len 18 b.natAbs (by have : (10 : Nat) ^ 19 = 10000000000000000000 := by decide
                                     omega)
  have h3 := dec_len 18 (2 ^ e) (by have h4 : (2 : Nat) ^ e ≤ 2 ^ 62 := Nat.pow_le_pow_right (by omega) he
                                    have h5 : (2 : Nat) ^ 62 = 4611686018427387904 := by decide
                                    have h6 : (10 : Nat) ^ 19 = 10000000000000000000 := by decide
                                    omega)
  unfold wr
  simp only [List.length_append, List.length_cons, List.length_nil]
  split
  · simp; omega
  · simp; omega

end Go.Proofs.YtaaecodkdgkjoaaDoor.B
