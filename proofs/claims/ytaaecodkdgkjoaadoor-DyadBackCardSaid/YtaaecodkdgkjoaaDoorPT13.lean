/- Part of a claim: the document reads a dyad: the walk. -/
import Derived.Test.YtaaecodkdgkjoaaDoorPT12
set_option linter.unusedSimpArgs false
set_option linter.unusedVariables false
set_option maxRecDepth 100000
set_option maxHeartbeats 10000000
namespace Go.Proofs.YtaaecodkdgkjoaaDoor.B
open Go Go.RowKit Go.Proofs.YtaaecodkdgkjoaaDoor.E

end Go.Proofs.YtaaecodkdgkjoaaDoor.B
