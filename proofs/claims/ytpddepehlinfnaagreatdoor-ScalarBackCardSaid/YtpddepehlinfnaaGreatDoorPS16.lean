/- Part of a claim: a sum that is rounded once: what lies behind the first bits is told by one bit. Nothing of a program stands here. -/
import Derived.Test.YtpddepehlinfnaaGreatDoorPFL
set_option linter.unusedSimpArgs false
set_option linter.unusedVariables false
namespace Go.Proofs.YtpddepehlinfnaaGreatDoor.FL
open Go Ieee

end Go.Proofs.YtpddepehlinfnaaGreatDoor.FL
