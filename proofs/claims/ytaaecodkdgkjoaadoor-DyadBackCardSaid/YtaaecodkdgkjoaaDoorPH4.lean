/- Part of a claim: the heads of the laws on dyads; the law DyadMakes. -/
import Derived.Test.YtaaecodkdgkjoaaDoorPH3
set_option linter.unusedSimpArgs false
set_option linter.unusedVariables false
set_option maxRecDepth 100000
set_option maxHeartbeats 10000000
namespace Go.Proofs.YtaaecodkdgkjoaaDoor.B
open Go Go.RowKit Go.Proofs.YtaaecodkdgkjoaaDoor.E

set_option maxRecDepth 1000000 in
theorem heads_run : okTrue (evF (GX X0) tabM 3000 12 [] []) = true := by kernel_rfl

theorem heads (M : Addr → Option AV) (hM : ∀ a v, tabM a = some v → M a = some v) (H : Heap) : SemF Tryd.prog M 12 [] H fun v h => v = .bool true ∧ h = H := by
  obtain ⟨H', h⟩ := okTrue_eq heads_run
  exact SemF.pure rfl (SemF.weaken hM (((ev_ok (GX_ok (X0_ok tabM)) 3000).2 12 [] [] _ _ h).mono fun v' h ⟨h1, _⟩ => ⟨by rw [h1]; rfl, h1⟩)) H

end Go.Proofs.YtaaecodkdgkjoaaDoor.B
