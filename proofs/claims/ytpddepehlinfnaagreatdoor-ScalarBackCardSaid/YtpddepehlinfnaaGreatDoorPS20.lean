/- Part of a claim: the sum that is rounded once: in any order, with all signs turned, with two that make nought put in. Nothing of a program stands here. -/
import Derived.Test.YtpddepehlinfnaaGreatDoorPS19
set_option linter.unusedSimpArgs false
set_option linter.unusedVariables false
namespace Go.Proofs.YtpddepehlinfnaaGreatDoor.FL
open Go Ieee

end Go.Proofs.YtpddepehlinfnaaGreatDoor.FL
