/- Part of a claim: listed variables read one behind the other. -/
import Derived.Test.YtpddepehlinfnaaGreatDoorPW1
import Derived.LaidLaws
set_option linter.unusedSimpArgs false
set_option linter.unusedVariables false
namespace Go.Proofs.YtpddepehlinfnaaGreatDoor.B
open Go Go.RowKit Go.Proofs.YtpddepehlinfnaaGreatDoor.E

end Go.Proofs.YtpddepehlinfnaaGreatDoor.B
