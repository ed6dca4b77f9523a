/- Part of a claim: the writer that is none; what no call made. -/
import Derived.Test.YtnmignkabcblgaaDoorB2
set_option linter.unusedSimpArgs false
set_option linter.unusedVariables false
namespace Go.Proofs.YtnmignkabcblgaaDoor.B
open Go Go.RowKit Go.Proofs.YtnmignkabcblgaaDoor.E

theorem order_self {k : FloatKind} {b : Nat} (h : isNaN k b = false) : k.format.order b b = some .eq := by
  unfold isNaN at h
  unfold Ieee.Format.order
  cases hr : k.format.read b with
  | number s m i => simp only [Ieee.Datum.order]; exact congrArg some Std.ReflCmp.compare_self
  | infinity s => simp only [Ieee.Datum.order]; exact congrArg some Std.ReflCmp.compare_self
  | nan s f => rw [hr] at h; simp [Ieee.Datum.isNaN] at h

theorem neq_nan {T : Tab} {t : TypeId} {x y : Operand} {k : FloatKind} {b : Nat} (h : isNaN k b = true) : binA T .neq t x y (.float k b) (.float k b) = some (.bool true) := by
  simp only [binA, fArith, order_nan_l h, ordB, if_true, Option.map_some]
  rfl
theorem neq_num {T : Tab} {t : TypeId} {x y : Operand} {k : FloatKind} {b : Nat} (h : isNaN k b = false) : binA T .neq t x y (.float k b) (.float k b) = some (.bool false) := by
  simp only [binA, fArith, order_self h, ordB, if_true, Option.map_some]
  rfl

theorem bits64 (M : Addr → Option AV) {b : Nat} (hb : isNaN .f64 b = false) (H : Heap) : SemF Tryd.prog M 43 [.float .f64 b] H fun v' h => v' = .int .u64 b ∧ h = H :=
  X0_ok M 43 _ rfl _ _ _ _ (by simp only [bits, hb, and_self, if_true])

theorem bits32 (M : Addr → Option AV) {b : Nat} (hb : isNaN .f32 b = false) (H : Heap) : SemF Tryd.prog M 44 [.float .f32 b] H fun v' h => v' = .int .u32 b ∧ h = H :=
  X0_ok M 44 _ rfl _ _ _ _ (by simp only [bits, hb, and_self, if_true])

end Go.Proofs.YtnmignkabcblgaaDoor.B
