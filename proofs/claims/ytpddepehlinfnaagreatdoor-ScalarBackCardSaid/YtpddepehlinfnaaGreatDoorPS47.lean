/- Part of a claim: nan, the infinities and the noughts read again: closed calls. -/
import Derived.Test.YtpddepehlinfnaaGreatDoorPS5
import Derived.Test.YtpddepehlinfnaaGreatDoorPA0
set_option linter.unusedSimpArgs false
set_option linter.unusedVariables false
namespace Go.Proofs.YtpddepehlinfnaaGreatDoor.B
open Go Go.RowKit Go.Proofs.YtpddepehlinfnaaGreatDoor.E

set_option maxRecDepth 1000000 in
theorem run_nan : isIt (evF (GX X0) tabM 4000 42 [.str [110, 97, 110]] []) (isTF 9221120237041090561 0) = true := by kernel_rfl
set_option maxRecDepth 1000000 in
theorem run_inf : isIt (evF (GX X0) tabM 4000 42 [.str [105, 110, 102]] []) (isTF 9218868437227405312 0) = true := by kernel_rfl
set_option maxRecDepth 1000000 in
theorem run_minf : isIt (evF (GX X0) tabM 4000 42 [.str [45, 105, 110, 102]] []) (isTF 18442240474082181120 0) = true := by kernel_rfl
set_option maxRecDepth 1000000 in
theorem run_zero : isIt (evF (GX X0) tabM 4000 42 [.str [48]] []) (isTF 0 0) = true := by kernel_rfl
set_option maxRecDepth 1000000 in
theorem run_mzero : isIt (evF (GX X0) tabM 4000 42 [.str [45, 48]] []) (isTF 9223372036854775808 0) = true := by kernel_rfl

theorem closedP {M : Addr → Option AV} (hM : ∀ a v, tabM a = some v → M a = some v) {s : List UInt8} {n : Nat} (h : isIt (evF (GX X0) tabM 4000 42 [.str s] []) (isTF n 0) = true) (H : Heap) :
    SemF Tryz.prog M 42 [.str s] H fun v _ => v = .tup [.float .f64 n, .int .i64 0] :=
  SemF.weaken hM ((closed h (fun v h => isTF_eq h) rfl rfl H).mono fun v h q => q.1)

end Go.Proofs.YtpddepehlinfnaaGreatDoor.B
