/- Part of a claim: a float taken apart, by the library and by the document. -/
import Derived.Test.YtpddepehlinfnaaGreatDoorPS9
import Derived.Test.YtpddepehlinfnaaGreatDoorPFN
set_option linter.unusedSimpArgs false
set_option linter.unusedVariables false
set_option maxRecDepth 100000
set_option maxHeartbeats 10000000
namespace Go.Proofs.YtpddepehlinfnaaGreatDoor.B
open Go Go.RowKit Go.Proofs.YtpddepehlinfnaaGreatDoor.E Go.Proofs.YtpddepehlinfnaaGreatDoor.FL

theorem addr_add (b i : Nat) : (⟨b, 0, none⟩ : Addr).add ((i : Int)).toNat = ⟨b, i, none⟩ := by
  unfold Addr.add
  rw [Int.toNat_natCast]
  split
  · rename_i h; rw [h]
  · rw [Nat.zero_add]
end Go.Proofs.YtpddepehlinfnaaGreatDoor.B
