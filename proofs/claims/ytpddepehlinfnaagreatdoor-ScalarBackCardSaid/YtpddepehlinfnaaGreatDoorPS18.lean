/- Part of a claim: the first bits of a row of words, by the program and by the document. Nothing of a program stands here. -/
import Derived.Test.YtpddepehlinfnaaGreatDoorPFN
import Derived.Test.YtpddepehlinfnaaGreatDoorPS17
set_option linter.unusedSimpArgs false
set_option linter.unusedVariables false
namespace Go.Proofs.YtpddepehlinfnaaGreatDoor.FL

/-- All words lie in 32 bits. -/
def Dig (w : List Int) : Prop := ∀ x ∈ w, 0 ≤ x ∧ x < 4294967296

theorem Dig.at_ {w : List Int} (h : Dig w) (i : Nat) : 0 ≤ w.getD i 0 ∧ w.getD i 0 < 4294967296 := by
  by_cases hi : i < w.length
  · exact h _ (List.mem_of_getElem? (getD_some hi))
  · rw [List.getD_eq_getElem?_getD, List.getElem?_eq_none (by omega)]; simp

theorem pow32 (k : Nat) : (4294967296 : Nat) ^ k = 2 ^ (32 * k) := by rw [Nat.pow_mul]

/-- What digits stand for, as a natural number. -/
def nl (w : List Int) : Nat := (lim w).toNat

theorem Dig.val {w : List Int} (h : Dig w) : ((nl w : Nat) : Int) = lim w ∧ nl w < 2 ^ (32 * w.length) := by
  have := lim_lt w h
  have e : ((2 ^ (32 * w.length) : Nat) : Int) = 4294967296 ^ w.length := by rw [← pow32, Int.natCast_pow]; rfl
  unfold nl
  omega

theorem Dig.split {w : List Int} (h : Dig w) {k : Nat} (hk : k < w.length) :
    ∃ lo hi : Nat, nl w = lo + 2 ^ (32 * k) * ((w.getD k 0).toNat + 4294967296 * hi) ∧ lo < 2 ^ (32 * k) := by
  have e : w = w.take k ++ (w.getD k 0 :: w.drop (k + 1)) := by
    conv => lhs; rw [← List.take_append_drop k w]
    congr 1
    rw [List.drop_eq_getElem_cons hk]
    congr 1
    rw [List.getD_eq_getElem?_getD, List.getElem?_eq_getElem hk]; rfl
  have h1 : Dig (w.take k) := fun x hx => h x (List.mem_of_mem_take hx)
  have h2 : Dig (w.drop (k + 1)) := fun x hx => h x (List.mem_of_mem_drop hx)
  have n1 := h1.val
  have n2 := h2.val
  have n0 := h.val
  have hd := h.at_ k
  rw [List.length_take, show min k w.length = k by omega] at n1
  refine ⟨nl (w.take k), nl (w.drop (k + 1)), ?_, n1.2⟩
  have el : lim w = lim (w.take k) + 4294967296 ^ k * (w.getD k 0 + 4294967296 * lim (w.drop (k + 1))) := by
    conv => lhs; rw [e]
    rw [lim_append, List.length_take, show min k w.length = k by omega, lim]
  apply Int.ofNat_inj.1
  rw [n0.1, el, ← n1.1, ← n2.1]
  rw [Int.natCast_add, Int.natCast_mul, Int.natCast_add, Int.natCast_mul, ← pow32, Int.natCast_pow, Int.toNat_of_nonneg hd.1]
  rfl

end Go.Proofs.YtpddepehlinfnaaGreatDoor.FL
