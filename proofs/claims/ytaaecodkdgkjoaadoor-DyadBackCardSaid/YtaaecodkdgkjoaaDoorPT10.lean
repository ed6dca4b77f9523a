/- Part of a claim: the document writes a dyad; reads digits. -/
import Derived.Test.YtaaecodkdgkjoaaDoorPT8
set_option linter.unusedSimpArgs false
set_option linter.unusedVariables false
set_option maxRecDepth 100000
set_option maxHeartbeats 10000000
namespace Go.Proofs.YtaaecodkdgkjoaaDoor.B
open Go Go.RowKit Go.Proofs.YtaaecodkdgkjoaaDoor.E

end Go.Proofs.YtaaecodkdgkjoaaDoor.B
