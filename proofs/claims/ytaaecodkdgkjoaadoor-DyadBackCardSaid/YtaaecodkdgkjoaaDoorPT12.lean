/- Part of a claim: the document reads a dyad. -/
import Derived.Test.YtaaecodkdgkjoaaDoorPT11
import Derived.Test.YtaaecodkdgkjoaaDoorPT9
set_option linter.unusedSimpArgs false
set_option linter.unusedVariables false
namespace Go.Proofs.YtaaecodkdgkjoaaDoor.B
open Go Go.RowKit Go.Proofs.YtaaecodkdgkjoaaDoor.E

/-! ### A written text, place by place (plain) -/
end Go.Proofs.YtaaecodkdgkjoaaDoor.B
