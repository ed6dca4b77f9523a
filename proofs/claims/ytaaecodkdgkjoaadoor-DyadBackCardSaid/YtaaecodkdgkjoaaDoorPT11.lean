/- Part of a claim: the document reads digits. -/
import Derived.Test.YtaaecodkdgkjoaaDoorPT10
set_option linter.unusedSimpArgs false
set_option linter.unusedVariables false
set_option maxRecDepth 100000
set_option maxHeartbeats 10000000
namespace Go.Proofs.YtaaecodkdgkjoaaDoor.B
open Go Go.RowKit Go.Proofs.YtaaecodkdgkjoaaDoor.E

def okN (ds : List UInt8) : Prop := 1 ≤ ds.length ∧ ds.length ≤ 19 ∧ valF ds < 9223372036854775808
instance (ds : List UInt8) : Decidable (okN ds) := by unfold okN; infer_instance
end Go.Proofs.YtaaecodkdgkjoaaDoor.B
