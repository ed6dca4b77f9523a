/- Part of a claim: a long function in pieces. Nothing of a program stands here. -/
import Derived.Test.YtaaecodkdgkjoaaDoorPED
set_option linter.unusedSimpArgs false
set_option linter.unusedVariables false
namespace Go.Proofs.YtaaecodkdgkjoaaDoor.E
open Go Go.RowKit
variable {qt : FuncId → Bool}

end Go.Proofs.YtaaecodkdgkjoaaDoor.E
