/- Part of a claim: this program's long functions in pieces. -/
import Derived.Test.YtpddepehlinfnaaGreatDoorPG2
import Derived.Test.YtpddepehlinfnaaGreatDoorPEE
set_option linter.unusedSimpArgs false
set_option linter.unusedVariables false
namespace Go.Proofs.YtpddepehlinfnaaGreatDoor.B
open Go Go.RowKit Go.Proofs.YtpddepehlinfnaaGreatDoor.E

end Go.Proofs.YtpddepehlinfnaaGreatDoor.B
