/- Part of a claim: dyads make a ring, as far as nothing is refused: in plain Lean. -/
import Derived.Test.YtaaecodkdgkjoaaDoorPH7
set_option linter.unusedSimpArgs false
set_option linter.unusedVariables false
namespace Go.Proofs.YtaaecodkdgkjoaaDoor.B
open Go Go.RowKit Go.Proofs.YtaaecodkdgkjoaaDoor.E Go.Proofs.YtaaecodkdgkjoaaDoor.FL

/-! ### Values: everything over 2^250 -/

abbrev U : Int := 2 ^ 250

/-! ### The ring -/

end Go.Proofs.YtaaecodkdgkjoaaDoor.B
