/- Part of a claim: the heads of the laws on dyads; the law DyadMakes. -/
import Derived.Test.YtaaecodkdgkjoaaGreatDoorH3
set_option linter.unusedSimpArgs false
set_option linter.unusedVariables false
namespace Go.Proofs.YtaaecodkdgkjoaaGreatDoor.B
open Go Go.RowKit Go.Proofs.YtaaecodkdgkjoaaGreatDoor.E

set_option maxRecDepth 1000000 in
theorem heads_run : okTrue (evF (GX X0) tabM 3000 16 [] []) = true := by kernel_rfl

theorem heads (M : Addr → Option AV) (hM : ∀ a v, tabM a = some v → M a = some v) (H : Heap) : SemF Tryz.prog M 16 [] H fun v h => v = .bool true ∧ h = H := by
  obtain ⟨H', h⟩ := okTrue_eq heads_run
  exact SemF.pure rfl (SemF.weaken hM (((ev_ok (GX_ok (X0_ok tabM)) 3000).2 16 [] [] _ _ h).mono fun v' h ⟨h1, _⟩ => ⟨by rw [h1]; rfl, h1⟩)) H

theorem binA_bool {T : Tab} {t : TypeId} {x y : Operand} {a b : Bool} (h : ∃ i, T t = some i ∧ i.und = .bool) : binA T .eql t x y (.bool a) (.bool b) = some (.bool (a == b)) := by
  obtain ⟨i, h1, h2⟩ := h
  unfold binA
  simp only [eqGuardA, if_true, eqA, h1, h2, Option.map_some]


end Go.Proofs.YtaaecodkdgkjoaaGreatDoor.B
