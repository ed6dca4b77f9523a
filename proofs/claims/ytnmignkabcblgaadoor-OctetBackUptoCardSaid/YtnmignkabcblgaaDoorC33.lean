/- Part of a claim: what is written is read: in plain Lean. -/
import Derived.Test.YtnmignkabcblgaaDoorD5
import Derived.Test.YtnmignkabcblgaaDoorC10
set_option linter.unusedSimpArgs false
set_option linter.unusedVariables false
namespace Go.Proofs.YtnmignkabcblgaaDoor.C
open Go Go.RowKit Go.Proofs.YtnmignkabcblgaaDoor.E Go.Proofs.YtnmignkabcblgaaDoor.B

theorem numB_lt' (bs : List UInt8) : ∀ n, n ≤ 8 → (numB bs n).toNat < 2 ^ (8 * n)
  | 0, _ => by simp [numB]
  | n + 1, h => by
    have ih := numB_lt' bs n (by omega)
    rw [numB, BitVec.toNat_or]
    refine Nat.or_lt_two_pow (Nat.lt_of_lt_of_le ih (Nat.pow_le_pow_right (by omega) (by omega))) ?_
    split
    · rename_i b _
      have hb := b.toNat_lt
      rw [BitVec.toNat_shiftLeft, Nat.shiftLeft_eq]
      refine Nat.lt_of_le_of_lt (Nat.mod_le _ _) ?_
      have h1 : (BitVec.setWidth 64 b.toBitVec).toNat = b.toNat := by simp
      rw [h1, show 8 * (n + 1) = 8 + 8 * n by omega, Nat.pow_add]
      exact Nat.mul_lt_mul_of_pos_right hb (Nat.pow_pos (by omega))
    · simp; exact Nat.pow_pos (by omega)

theorem leI_get (v : Int) (n i : Nat) (h : i < n) : (leI v n)[i]? = some (byteI (v / 256 ^ i)) := by
  rw [← numI_eq]
  unfold numI
  rw [List.getElem?_map, List.getElem?_range h, Option.map_some]
  congr 2
  rw [Int.fdiv_eq_ediv_of_nonneg _ (Int.pow_nonneg (by omega))]
  congr 1
  rw [Int.pow_mul]; rfl

theorem or_add (a b k : Nat) (h : b < 2 ^ k) : b ||| a * 2 ^ k = b + a * 2 ^ k := by
  rw [Nat.or_comm, Nat.mul_comm, ← Nat.two_pow_add_eq_or_of_lt h, Nat.add_comm]

theorem numB_leI (v : Int) (N : Nat) (r : List UInt8) : ∀ n, n ≤ N → n ≤ 8 → ((numB (leI v N ++ r) n).toNat : Int) = v % 256 ^ n
  | 0, _, _ => by simp [numB]
  | n + 1, h, h8 => by
    have ih := numB_leI v N r n (by omega) (by omega)
    have hlt := numB_lt' (leI v N ++ r) n (by omega)
    have hget : (leI v N ++ r)[n]? = some (byteI (v / 256 ^ n)) := by
      rw [List.getElem?_append_left (by rw [leI_length]; omega)]
      exact leI_get v N n (by omega)
    rw [numB, hget, BitVec.toNat_or]
    simp only
    rw [BitVec.toNat_shiftLeft, Nat.shiftLeft_eq]
    have hb := (byteI (v / 256 ^ n)).toNat_lt
    have e1 : (BitVec.setWidth 64 (byteI (v / 256 ^ n)).toBitVec).toNat = (byteI (v / 256 ^ n)).toNat := by simp
    have e2 : (byteI (v / 256 ^ n)).toNat * 2 ^ (8 * n) < 2 ^ 64 := by
      have : (byteI (v / 256 ^ n)).toNat * 2 ^ (8 * n) < 256 * 2 ^ (8 * n) := Nat.mul_lt_mul_of_pos_right hb (Nat.pow_pos (by omega))
      refine Nat.lt_of_lt_of_le this ?_
      rw [show 256 = 2 ^ 8 from rfl, ← Nat.pow_add]
      exact Nat.pow_le_pow_right (by omega) (by omega)
    rw [e1, Nat.mod_eq_of_lt e2, or_add _ _ _ hlt]
    have e3 : ((byteI (v / 256 ^ n)).toNat : Int) = v / 256 ^ n % 256 := by
      unfold byteI
      simp only [UInt8.toNat_ofNat']
      omega
    have e4 : ((2 ^ (8 * n) : Nat) : Int) = 256 ^ n := by
      rw [Nat.pow_mul]; simp
    rw [Int.natCast_add, Int.natCast_mul, ih, e3, e4]
    have e5 : (256 : Int) ^ (n + 1) = 256 ^ n * 256 := Int.pow_succ ..
    have e6 := Int.emod_def v (256 ^ n)
    have e7 := Int.emod_def (v / 256 ^ n) 256
    have e8 := Int.emod_def v (256 ^ n * 256)
    have e9 : v / 256 ^ n / 256 = v / (256 ^ n * 256) := by
      rw [Int.ediv_ediv, if_neg (by have : (0 : Int) < 256 ^ n := Int.pow_pos (by omega); omega), Int.sub_zero]
    rw [e5, e8, e7, e6, e9]
    obtain ⟨P, hP⟩ : ∃ P : Int, P = 256 ^ n := ⟨_, rfl⟩
    obtain ⟨q, hq⟩ : ∃ q : Int, q = v / P := ⟨_, rfl⟩
    obtain ⟨q2, hq2⟩ : ∃ q2 : Int, q2 = v / (P * 256) := ⟨_, rfl⟩
    rw [← hP, ← hq, ← hq2, Int.sub_mul, Int.mul_comm q P]
    have : P * 256 * q2 = 256 * q2 * P := by rw [Int.mul_assoc, Int.mul_comm]
    rw [this]
    omega

end Go.Proofs.YtnmignkabcblgaaDoor.C
