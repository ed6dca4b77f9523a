/- Part of a claim: what must come at any rate comes. -/
import Derived.Test.YtmecikblalignaaDoorG2
set_option linter.unusedSimpArgs false
set_option linter.unusedVariables false
namespace Go.Proofs.YtmecikblalignaaDoor.B
open Go Go.RowKit Go.Proofs.YtmecikblalignaaDoor.E

set_option maxRecDepth 1000000 in
theorem heads_run : okTrue (evF (GX X0) tabM 3000 14 [] []) = true := by kernel_rfl

end Go.Proofs.YtmecikblalignaaDoor.B
