/- Part of a claim: a long function in pieces. Nothing of a program stands here. -/
import Derived.Test.YtpddepehlinfnaaGreatDoorPED
set_option linter.unusedSimpArgs false
set_option linter.unusedVariables false
namespace Go.Proofs.YtpddepehlinfnaaGreatDoor.E
open Go Go.RowKit
variable {qt : FuncId → Bool}

end Go.Proofs.YtpddepehlinfnaaGreatDoor.E
