/-
  DERIVED. GIVEN WITH THE SEED: THE CARDS: each row of YtaaecodkdgkjoaaGreatDoorRows.lean that lists a variable, with what it lists TIED to the program's text (the seventh form; the later family's looks); each row that meets fmt, with fmt's text TOLD by the authors' own Lean function (tested against real Go, not proved from fmt's source: count such statements apart). THE CARD IS WHAT COUNTS. Prove the row's statement (the work); the ties are given (YtaaecodkdgkjoaaGreatDoorTie.lean); close each card by the builder's one call (the guide's Derived/Test/ToyasCard.lean, 'card_holds'). Laid BY PROGRAM, IN A SANDBOX (cutbox-door.mjs). By AI agents, Wed Nov 11 2026. No macro, syntax, notation, axiom, sorry.
-/
import Derived.Test.YtaaecodkdgkjoaaGreatDoorRows
import GoSem.ClaimSeven
namespace Go.Proofs.YtaaecodkdgkjoaaGreatDoor
namespace Rows

/-- THE TIED CARD OF 'phasorlaw05.DyadReckons'. -/
def dyadReckonsCard : Claim7 := { stood := { row := dyadReckonsRow, standIns := [], harness := (true, "3ca75257e92e57928f318a131dd11692b08a3ef020839f2da9fa9b460fe8c097"), looks := true }, kinds := [], alts := [], laidByText := true, laidKinds := [.data, .data, .data, .data, .sentinel, .sentinel, .pinned], laidTests := true, laidLooks := .later }
def DyadReckonsCardSaid : Prop := Claim7.holds Tryz.pinned (.plain (OpenSpec.ofChange dyadReckonsSpec)) dyadReckonsCard

/-- THE SECOND FORM's CARD OF 'phasorlaw05.DyadReckons'. -/
def dyadReckonsUptoCard : Claim7 := { stood := { row := dyadReckonsUptoRow, standIns := [], harness := (true, "3ca75257e92e57928f318a131dd11692b08a3ef020839f2da9fa9b460fe8c097"), looks := true }, kinds := [], alts := [], laidByText := true, laidKinds := [.data, .data, .data, .data, .sentinel, .sentinel, .pinned], laidTests := true, laidLooks := .later }
def DyadReckonsUptoCardSaid : Prop := Claim7.holds Tryz.pinned (.plain (OpenSpec.upto dyadReckonsSpec)) dyadReckonsUptoCard
end Rows
end Go.Proofs.YtaaecodkdgkjoaaGreatDoor
