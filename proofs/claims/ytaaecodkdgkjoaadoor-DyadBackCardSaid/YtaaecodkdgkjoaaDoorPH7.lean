/- Part of a claim: dyads: multiplied, turned over, squared; sums and products without errors ahead. -/
import Derived.Test.YtaaecodkdgkjoaaDoorPH6
set_option linter.unusedSimpArgs false
set_option linter.unusedVariables false
set_option maxRecDepth 100000
set_option maxHeartbeats 10000000
namespace Go.Proofs.YtaaecodkdgkjoaaDoor.B
open Go Go.RowKit Go.Proofs.YtaaecodkdgkjoaaDoor.E Go.Proofs.YtaaecodkdgkjoaaDoor.FL

theorem rt_in {p : Dy} (h : p.rt) : In53 p.a ∧ In53 p.b ∧ 0 ≤ p.e ∧ p.e ≤ 60 := ⟨h.1, h.2.1, h.2.2.1, h.2.2.2.1⟩

end Go.Proofs.YtaaecodkdgkjoaaDoor.B
