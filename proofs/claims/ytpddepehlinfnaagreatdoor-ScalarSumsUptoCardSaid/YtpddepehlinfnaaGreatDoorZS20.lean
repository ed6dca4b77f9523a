/- Part of a claim: the sum that is rounded once: in any order, with all signs turned, with two that make nought put in. Nothing of a program stands here. -/
import Derived.Test.YtpddepehlinfnaaGreatDoorZS19
set_option linter.unusedSimpArgs false
set_option linter.unusedVariables false
namespace Go.Proofs.YtpddepehlinfnaaGreatDoor.FL
open Go Ieee

theorem word_true {r : Nat} : D.word true r = 9223372036854775808 + r := by
  unfold Ieee.Format.word; rw [d_sw, if_pos rfl]
theorem word_false' {r : Nat} : D.word false r = r := by
  unfold Ieee.Format.word; rw [if_neg (by decide)]

theorem rung_0 (i : Int) : rung 0 i = 0 := by unfold rung; rw [if_pos rfl]
theorem all_zero {l : List Nat} (h : l.all (· == 9223372036854775808) = true) : tot l = 0 := by
  induction l with
  | nil => rfl
  | cons x l ih =>
    rw [List.all_cons, Bool.and_eq_true, beq_iff_eq] at h
    rw [tot, ih h.2, h.1]; rfl

end Go.Proofs.YtpddepehlinfnaaGreatDoor.FL
