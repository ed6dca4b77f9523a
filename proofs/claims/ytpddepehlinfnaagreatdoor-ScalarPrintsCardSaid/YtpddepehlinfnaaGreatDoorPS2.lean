/- Part of a claim: floats in their order: place, Same, Compare, IsInf. -/
import Derived.Test.YtpddepehlinfnaaGreatDoorPS1
set_option linter.unusedSimpArgs false
set_option linter.unusedVariables false
set_option maxRecDepth 100000
set_option maxHeartbeats 10000000
namespace Go.Proofs.YtpddepehlinfnaaGreatDoor.B
open Go Go.RowKit Go.Proofs.YtpddepehlinfnaaGreatDoor.E Go.Proofs.YtpddepehlinfnaaGreatDoor.FL

theorem wI (y : Int) : IntKind.i64.wrap y = (y + 9223372036854775808) % 18446744073709551616 - 9223372036854775808 := by
  have h : IntKind.i64.wrap y = if true && decide (y % 18446744073709551616 ≥ 9223372036854775808) then y % 18446744073709551616 - 18446744073709551616 else y % 18446744073709551616 := rfl
  rw [h]
  split
  · rename_i h3
    simp only [Bool.true_and, decide_eq_true_eq] at h3
    omega
  · rename_i h3
    simp only [Bool.true_and, decide_eq_true_eq] at h3
    omega

theorem num_lt {n : Nat} (hn : isNaN .f64 n = false) : n % 9223372036854775808 ≤ 9218868437227405312 := by
  rw [isNaN_of, decide_eq_false_iff_not] at hn; omega

end Go.Proofs.YtpddepehlinfnaaGreatDoor.B
