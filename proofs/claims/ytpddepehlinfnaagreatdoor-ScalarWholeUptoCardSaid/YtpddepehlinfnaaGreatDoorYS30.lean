/- Part of a claim: the law ScalarSums. -/
import Derived.Test.YtpddepehlinfnaaGreatDoorYS29
import Derived.Test.YtpddepehlinfnaaGreatDoorYA0
set_option linter.unusedSimpArgs false
set_option linter.unusedVariables false
set_option maxRecDepth 100000
set_option maxHeartbeats 10000000
namespace Go.Proofs.YtpddepehlinfnaaGreatDoor.B
open Go Go.RowKit Go.Proofs.YtpddepehlinfnaaGreatDoor.E Go.Proofs.YtpddepehlinfnaaGreatDoor.FL

theorem sameW_of {a b : Nat} (h : Bw a = Bw b) : sameW a b = true := by unfold sameW; rw [h]; exact beq_self_eq_true _

theorem Own.sees {H0 h h' : Heap} {v : AV} {o : Option Nat} {l : List Nat} (k : Own H0 h v o l) (hf : Fr [] h h') {M : Addr → Option AV} : Sees M h' 1 v (fCs l) :=
  (k.rep.mono hf (by simp)).sees

end Go.Proofs.YtpddepehlinfnaaGreatDoor.B
