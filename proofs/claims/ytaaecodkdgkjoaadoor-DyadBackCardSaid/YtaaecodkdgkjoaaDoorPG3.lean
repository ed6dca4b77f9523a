/- Part of a claim: this program's long functions in pieces. -/
import Derived.Test.YtaaecodkdgkjoaaDoorPG2
import Derived.Test.YtaaecodkdgkjoaaDoorPEE
set_option linter.unusedSimpArgs false
set_option linter.unusedVariables false
namespace Go.Proofs.YtaaecodkdgkjoaaDoor.B
open Go Go.RowKit Go.Proofs.YtaaecodkdgkjoaaDoor.E

end Go.Proofs.YtaaecodkdgkjoaaDoor.B
