/- Part of a claim: floats' neighbours by the document; the law ScalarOrder. -/
import Derived.Test.YtpddepehlinfnaaGreatDoorPS3
import Derived.Test.YtpddepehlinfnaaGreatDoorPA0
set_option linter.unusedSimpArgs false
set_option linter.unusedVariables false
set_option maxRecDepth 100000
set_option maxHeartbeats 10000000
namespace Go.Proofs.YtpddepehlinfnaaGreatDoor.B
open Go Go.RowKit Go.Proofs.YtpddepehlinfnaaGreatDoor.E Go.Proofs.YtpddepehlinfnaaGreatDoor.FL

end Go.Proofs.YtpddepehlinfnaaGreatDoor.B
