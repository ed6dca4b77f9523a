/-
  DERIVED. GIVEN WITH THE SEED: THE CARDS: each row of YtaaecodkdgkjoaaDoorRows.lean that lists a variable, with what it lists TIED to the program's text (the seventh form; the later family's looks); each row that meets fmt, with fmt's text TOLD by the authors' own Lean function (tested against real Go, not proved from fmt's source: count such statements apart). THE CARD IS WHAT COUNTS. Prove the row's statement (the work); the ties are given (YtaaecodkdgkjoaaDoorTie.lean); close each card by the builder's one call (the guide's Derived/Test/ToyasCard.lean, 'card_holds'). Laid BY PROGRAM, IN A SANDBOX (cutbox-door.mjs). By AI agents, Wed Nov 11 2026. No macro, syntax, notation, axiom, sorry.
-/
import Derived.Test.YtaaecodkdgkjoaaDoorRows
import GoSem.ClaimSeven
namespace Go.Proofs.YtaaecodkdgkjoaaDoor
namespace Rows

/-- THE TIED CARD OF 'phasorlaw05.DyadMakes'. -/
def dyadMakesCard : Claim7 := { stood := { row := dyadMakesRow, standIns := [], harness := (true, "cd72aa051f59faa6f9e5606b253592392b79aa20b53113bfa44195f2dbaf9d84"), looks := true }, kinds := [], alts := [], laidByText := true, laidKinds := [.data, .data, .data, .data, .sentinel, .sentinel, .pinned], laidTests := true, laidLooks := .later }
def DyadMakesCardSaid : Prop := Claim7.holds Tryd.pinned (.plain (OpenSpec.ofChange dyadMakesSpec)) dyadMakesCard

/-- THE TIED CARD OF 'phasorlaw05.DyadTexts'. -/
def dyadTextsCard : Claim7 := { stood := { row := dyadTextsRow, standIns := [], harness := (true, "cd72aa051f59faa6f9e5606b253592392b79aa20b53113bfa44195f2dbaf9d84"), looks := true }, kinds := [], alts := [], laidByText := true, laidKinds := [.data, .data, .data, .data, .sentinel, .sentinel, .pinned], laidTests := true, laidLooks := .later }
def DyadTextsCardSaid : Prop := Claim7.holds Tryd.pinned (.plain (OpenSpec.ofChange dyadTextsSpec)) dyadTextsCard

/-- THE TIED CARD OF 'phasorlaw05.DyadBack'. -/
def dyadBackCard : Claim7 := { stood := { row := dyadBackRow, standIns := [], harness := (true, "cd72aa051f59faa6f9e5606b253592392b79aa20b53113bfa44195f2dbaf9d84"), looks := true }, kinds := [], alts := [], laidByText := true, laidKinds := [.data, .data, .data, .data, .sentinel, .sentinel, .pinned], laidTests := true, laidLooks := .later }
def DyadBackCardSaid : Prop := Claim7.holds Tryd.pinned (.plain (OpenSpec.ofChange dyadBackSpec)) dyadBackCard

/-- THE TIED CARD OF 'phasorlaw05.DyadRing'. -/
def dyadRingCard : Claim7 := { stood := { row := dyadRingRow, standIns := [], harness := (true, "cd72aa051f59faa6f9e5606b253592392b79aa20b53113bfa44195f2dbaf9d84"), looks := true }, kinds := [], alts := [], laidByText := true, laidKinds := [.data, .data, .data, .data, .sentinel, .sentinel, .pinned], laidTests := true, laidLooks := .later }
def DyadRingCardSaid : Prop := Claim7.holds Tryd.pinned (.plain (OpenSpec.ofChange dyadRingSpec)) dyadRingCard

/-- THE TIED CARD OF 'phasorlaw05.DyadPlane'. -/
def dyadPlaneCard : Claim7 := { stood := { row := dyadPlaneRow, standIns := [], harness := (true, "cd72aa051f59faa6f9e5606b253592392b79aa20b53113bfa44195f2dbaf9d84"), looks := true }, kinds := [], alts := [], laidByText := true, laidKinds := [.data, .data, .data, .data, .sentinel, .sentinel, .pinned], laidTests := true, laidLooks := .later }
def DyadPlaneCardSaid : Prop := Claim7.holds Tryd.pinned (.plain (OpenSpec.ofChange dyadPlaneSpec)) dyadPlaneCard

/-- THE SECOND FORM's CARD OF 'phasorlaw05.DyadMakes'. -/
def dyadMakesUptoCard : Claim7 := { stood := { row := dyadMakesUptoRow, standIns := [], harness := (true, "cd72aa051f59faa6f9e5606b253592392b79aa20b53113bfa44195f2dbaf9d84"), looks := true }, kinds := [], alts := [], laidByText := true, laidKinds := [.data, .data, .data, .data, .sentinel, .sentinel, .pinned], laidTests := true, laidLooks := .later }
def DyadMakesUptoCardSaid : Prop := Claim7.holds Tryd.pinned (.plain (OpenSpec.upto dyadMakesSpec)) dyadMakesUptoCard

/-- THE SECOND FORM's CARD OF 'phasorlaw05.DyadTexts'. -/
def dyadTextsUptoCard : Claim7 := { stood := { row := dyadTextsUptoRow, standIns := [], harness := (true, "cd72aa051f59faa6f9e5606b253592392b79aa20b53113bfa44195f2dbaf9d84"), looks := true }, kinds := [], alts := [], laidByText := true, laidKinds := [.data, .data, .data, .data, .sentinel, .sentinel, .pinned], laidTests := true, laidLooks := .later }
def DyadTextsUptoCardSaid : Prop := Claim7.holds Tryd.pinned (.plain (OpenSpec.upto dyadTextsSpec)) dyadTextsUptoCard

/-- THE SECOND FORM's CARD OF 'phasorlaw05.DyadBack'. -/
def dyadBackUptoCard : Claim7 := { stood := { row := dyadBackUptoRow, standIns := [], harness := (true, "cd72aa051f59faa6f9e5606b253592392b79aa20b53113bfa44195f2dbaf9d84"), looks := true }, kinds := [], alts := [], laidByText := true, laidKinds := [.data, .data, .data, .data, .sentinel, .sentinel, .pinned], laidTests := true, laidLooks := .later }
def DyadBackUptoCardSaid : Prop := Claim7.holds Tryd.pinned (.plain (OpenSpec.upto dyadBackSpec)) dyadBackUptoCard

/-- THE SECOND FORM's CARD OF 'phasorlaw05.DyadRing'. -/
def dyadRingUptoCard : Claim7 := { stood := { row := dyadRingUptoRow, standIns := [], harness := (true, "cd72aa051f59faa6f9e5606b253592392b79aa20b53113bfa44195f2dbaf9d84"), looks := true }, kinds := [], alts := [], laidByText := true, laidKinds := [.data, .data, .data, .data, .sentinel, .sentinel, .pinned], laidTests := true, laidLooks := .later }
def DyadRingUptoCardSaid : Prop := Claim7.holds Tryd.pinned (.plain (OpenSpec.upto dyadRingSpec)) dyadRingUptoCard

/-- THE SECOND FORM's CARD OF 'phasorlaw05.DyadPlane'. -/
def dyadPlaneUptoCard : Claim7 := { stood := { row := dyadPlaneUptoRow, standIns := [], harness := (true, "cd72aa051f59faa6f9e5606b253592392b79aa20b53113bfa44195f2dbaf9d84"), looks := true }, kinds := [], alts := [], laidByText := true, laidKinds := [.data, .data, .data, .data, .sentinel, .sentinel, .pinned], laidTests := true, laidLooks := .later }
def DyadPlaneUptoCardSaid : Prop := Claim7.holds Tryd.pinned (.plain (OpenSpec.upto dyadPlaneSpec)) dyadPlaneUptoCard
end Rows
end Go.Proofs.YtaaecodkdgkjoaaDoor
