/- Part of a claim: the document's Print. -/
import Derived.Test.YtpddepehlinfnaaGreatDoorPS39
set_option linter.unusedSimpArgs false
set_option linter.unusedVariables false
set_option maxRecDepth 100000
set_option maxHeartbeats 10000000
namespace Go.Proofs.YtpddepehlinfnaaGreatDoor.B
open Go Go.RowKit Go.Proofs.YtpddepehlinfnaaGreatDoor.E Go.Proofs.YtpddepehlinfnaaGreatDoor.FL

end Go.Proofs.YtpddepehlinfnaaGreatDoor.B
