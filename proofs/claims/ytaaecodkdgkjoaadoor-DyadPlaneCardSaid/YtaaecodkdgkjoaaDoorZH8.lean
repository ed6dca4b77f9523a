/- Part of a claim: dyads make a ring, as far as nothing is refused: in plain Lean. -/
import Derived.Test.YtaaecodkdgkjoaaDoorZH7
set_option linter.unusedSimpArgs false
set_option linter.unusedVariables false
namespace Go.Proofs.YtaaecodkdgkjoaaDoor.B
open Go Go.RowKit Go.Proofs.YtaaecodkdgkjoaaDoor.E Go.Proofs.YtaaecodkdgkjoaaDoor.FL

/-! ### Values: everything over 2^250 -/

/-- A dyad's parts, with the exponent 250. -/
def vA (p : Dy) : Int := p.a * 2 ^ (250 - p.e.toNat)
def vB (p : Dy) : Int := p.b * 2 ^ (250 - p.e.toNat)

theorem tmod_half {a : Int} (h : a.tmod 2 = 0) : a = a.tdiv 2 * 2 := by
  have := Int.mul_tdiv_add_tmod a 2
  omega

theorem halve_val : ∀ (n : Nat) (a b : Int), n ≤ 250 → (halve n a b).1 * 2 ^ (250 - (halve n a b).2.2) = a * 2 ^ (250 - n) ∧ (halve n a b).2.1 * 2 ^ (250 - (halve n a b).2.2) = b * 2 ^ (250 - n)
  | 0, _, _, _ => ⟨rfl, rfl⟩
  | n + 1, a, b, h => by
    rw [halve]
    split
    · rename_i hh
      obtain ⟨h1, h2⟩ := halve_val n (a.tdiv 2) (b.tdiv 2) (by omega)
      rw [h1, h2]
      have e : 250 - n = (250 - (n + 1)) + 1 := by omega
      have ea := tmod_half hh.1
      have eb := tmod_half hh.2
      constructor
      · rw [e, Int.pow_succ, Int.mul_comm (2 ^ _) 2, ← Int.mul_assoc, ← ea]
      · rw [e, Int.pow_succ, Int.mul_comm (2 ^ _) 2, ← Int.mul_assoc, ← eb]
    · exact ⟨rfl, rfl⟩

theorem toldF_val {n : Nat} {a b : Int} {p : Dy} (hn : n ≤ 250) (h : toldF n a b = (p, 0)) : p.rt ∧ vA p = a * 2 ^ (250 - n) ∧ vB p = b * 2 ^ (250 - n) := by
  unfold toldF at h
  split at h
  · rename_i ho
    cases h
    have := halve_val n a b hn
    refine ⟨okD_Rt.1 ho, ?_, ?_⟩
    · unfold vA; simp only [Int.toNat_natCast]; exact this.1
    · unfold vB; simp only [Int.toNat_natCast]; exact this.2
  · cases h

theorem lift_val : ∀ {n : Nat} {x y : Int}, lift n x = some y → y = x * 2 ^ n
  | 0, x, y, h => by simp only [lift, Option.some.injEq] at h; subst h; simp
  | n + 1, x, y, h => by
    simp only [lift] at h
    split at h
    · rw [lift_val h, Int.pow_succ, Int.mul_assoc, Int.mul_comm 2 (2 ^ n)]
    · cases h

theorem scale {x : Int} {n m : Nat} (h : n + m ≤ 250) : x * 2 ^ n * 2 ^ (250 - (n + m)) = x * 2 ^ (250 - m) := by
  rw [Int.mul_assoc, ← Int.pow_add, show n + (250 - (n + m)) = 250 - m by omega]

theorem addF_val {p q r : Dy} {s : Int} (h : addF p q s = (r, 0)) : p.rt ∧ q.rt ∧ r.rt ∧ vA r = vA p + s * vA q ∧ vB r = vB p + s * vB q := by
  unfold addF at h
  split at h
  · rename_i hr
    obtain ⟨_, _, p0, p60⟩ := rt_in hr.1
    obtain ⟨_, _, q0, q60⟩ := rt_in hr.2
    split at h
    · rename_i x y z w h1 h2 h3 h4
      obtain ⟨a1, a2, a3⟩ := toldF_val (by omega) h
      refine ⟨hr.1, hr.2, a1, ?_, ?_⟩
      · rw [a2, lift_val h1, lift_val h3, Int.add_mul, ← Int.mul_assoc]
        unfold vA
        rw [show (max p.e q.e).toNat = (max p.e q.e - p.e).toNat + p.e.toNat by omega, scale (by omega)]
        rw [show (max p.e q.e - p.e).toNat + p.e.toNat = (max p.e q.e - q.e).toNat + q.e.toNat by omega, scale (by omega), Int.mul_assoc]
      · rw [a3, lift_val h2, lift_val h4, Int.add_mul, ← Int.mul_assoc]
        unfold vB
        rw [show (max p.e q.e).toNat = (max p.e q.e - p.e).toNat + p.e.toNat by omega, scale (by omega)]
        rw [show (max p.e q.e - p.e).toNat + p.e.toNat = (max p.e q.e - q.e).toNat + q.e.toNat by omega, scale (by omega), Int.mul_assoc]
    · cases h
  · cases h

abbrev U : Int := 2 ^ 250

theorem scale2 {x y : Int} {n m : Nat} (h : n + m ≤ 250) : x * y * 2 ^ (250 - (n + m)) * U = x * 2 ^ (250 - n) * (y * 2 ^ (250 - m)) := by
  rw [show x * 2 ^ (250 - n) * (y * 2 ^ (250 - m)) = x * y * (2 ^ (250 - n) * 2 ^ (250 - m)) by rw [Int.mul_assoc, Int.mul_assoc, Int.mul_left_comm (2 ^ (250 - n)) y]]
  rw [Int.mul_assoc, ← Int.pow_add, ← Int.pow_add]
  congr 2; omega

theorem mulF_val {p q r : Dy} (h : mulF p q = (r, 0)) : p.rt ∧ q.rt ∧ r.rt ∧ vA r * U = vA p * vA q - vB p * vB q ∧ vB r * U = vA p * vB q + vB p * vA q := by
  unfold mulF at h
  split at h
  · rename_i hr
    obtain ⟨_, _, p0, p60⟩ := rt_in hr.1
    obtain ⟨_, _, q0, q60⟩ := rt_in hr.2
    split at h
    · obtain ⟨a1, a2, a3⟩ := toldF_val (by omega) h
      have e : (p.e + q.e).toNat = p.e.toNat + q.e.toNat := by omega
      refine ⟨hr.1, hr.2, a1, ?_, ?_⟩
      · rw [a2, e, Int.sub_mul, Int.sub_mul, scale2 (by omega), scale2 (by omega)]; rfl
      · rw [a3, e, Int.add_mul, Int.add_mul, scale2 (by omega), scale2 (by omega)]; rfl
    · cases h
  · cases h

theorem U_cancel {x y : Int} (h : x * U = y * U) : x = y := Int.eq_of_mul_eq_mul_right (by decide) h

/-! ### The ring -/

end Go.Proofs.YtaaecodkdgkjoaaDoor.B
