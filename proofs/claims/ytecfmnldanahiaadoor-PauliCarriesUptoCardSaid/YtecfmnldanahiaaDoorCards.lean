/-
  DERIVED. GIVEN WITH THE SEED: THE CARDS: each row of YtecfmnldanahiaaDoorRows.lean that lists a variable, with what it lists TIED to the program's text (the seventh form; the later family's looks); each row that meets fmt, with fmt's text TOLD by the authors' own Lean function (tested against real Go, not proved from fmt's source: count such statements apart). THE CARD IS WHAT COUNTS. Prove the row's statement (the work); the ties are given (YtecfmnldanahiaaDoorTie.lean); close each card by the builder's one call (the guide's Derived/Test/ToyasCard.lean, 'card_holds'). Laid BY PROGRAM, IN A SANDBOX (cutbox-door.mjs). By AI agents, Wed Nov 11 2026. No macro, syntax, notation, axiom, sorry.
-/
import Derived.Test.YtecfmnldanahiaaDoorRows
import GoSem.ClaimSeven
namespace Go.Proofs.YtecfmnldanahiaaDoor
namespace Rows

/-- THE TIED CARD OF 'phasorlaw13.PauliThrough'. -/
def pauliThroughCard : Claim7 := { stood := { row := pauliThroughRow, standIns := [], harness := (true, "a9e594b79c18abdfa49ccfc7e30662382d2aa0353b5366108bd93d07f398b67c"), looks := false }, kinds := [], alts := [], laidByText := true, laidKinds := [.data, .data, .pinned], laidTests := true, laidLooks := .later }
def PauliThroughCardSaid : Prop := Claim7.holds Tryd.pinned (.plain (OpenSpec.ofChange pauliThroughSpec)) pauliThroughCard

/-- THE TIED CARD OF 'phasorlaw13.PauliTexts'. -/
def pauliTextsCard : Claim7 := { stood := { row := pauliTextsRow, standIns := [], harness := (true, "a9e594b79c18abdfa49ccfc7e30662382d2aa0353b5366108bd93d07f398b67c"), looks := false }, kinds := [], alts := [], laidByText := true, laidKinds := [.data, .data, .pinned], laidTests := true, laidLooks := .later }
def PauliTextsCardSaid : Prop := Claim7.holds Tryd.pinned (.plain (OpenSpec.ofChange pauliTextsSpec)) pauliTextsCard

/-- THE TIED CARD OF 'phasorlaw13.PauliCarries'. -/
def pauliCarriesCard : Claim7 := { stood := { row := pauliCarriesRow, standIns := [], harness := (true, "a9e594b79c18abdfa49ccfc7e30662382d2aa0353b5366108bd93d07f398b67c"), looks := false }, kinds := [], alts := [], laidByText := true, laidKinds := [.data, .data, .pinned], laidTests := true, laidLooks := .later }
def PauliCarriesCardSaid : Prop := Claim7.holds Tryd.pinned (.plain (OpenSpec.ofChange pauliCarriesSpec)) pauliCarriesCard

/-- THE TIED CARD OF 'phasorlaw13.PauliAsks'. -/
def pauliAsksCard : Claim7 := { stood := { row := pauliAsksRow, standIns := [], harness := (true, "a9e594b79c18abdfa49ccfc7e30662382d2aa0353b5366108bd93d07f398b67c"), looks := false }, kinds := [], alts := [], laidByText := true, laidKinds := [.data, .data, .pinned], laidTests := true, laidLooks := .later }
def PauliAsksCardSaid : Prop := Claim7.holds Tryd.pinned (.plain (OpenSpec.ofChange pauliAsksSpec)) pauliAsksCard

/-- THE TIED CARD OF 'phasorlaw13.PauliGroup'. -/
def pauliGroupCard : Claim7 := { stood := { row := pauliGroupRow, standIns := [], harness := (true, "a9e594b79c18abdfa49ccfc7e30662382d2aa0353b5366108bd93d07f398b67c"), looks := false }, kinds := [], alts := [], laidByText := true, laidKinds := [.data, .data, .pinned], laidTests := true, laidLooks := .later }
def PauliGroupCardSaid : Prop := Claim7.holds Tryd.pinned (.plain (OpenSpec.ofChange pauliGroupSpec)) pauliGroupCard

/-- THE SECOND FORM's CARD OF 'phasorlaw13.PauliThrough'. -/
def pauliThroughUptoCard : Claim7 := { stood := { row := pauliThroughUptoRow, standIns := [], harness := (true, "a9e594b79c18abdfa49ccfc7e30662382d2aa0353b5366108bd93d07f398b67c"), looks := false }, kinds := [], alts := [], laidByText := true, laidKinds := [.data, .data, .pinned], laidTests := true, laidLooks := .later }
def PauliThroughUptoCardSaid : Prop := Claim7.holds Tryd.pinned (.plain (OpenSpec.upto pauliThroughSpec)) pauliThroughUptoCard

/-- THE SECOND FORM's CARD OF 'phasorlaw13.PauliTexts'. -/
def pauliTextsUptoCard : Claim7 := { stood := { row := pauliTextsUptoRow, standIns := [], harness := (true, "a9e594b79c18abdfa49ccfc7e30662382d2aa0353b5366108bd93d07f398b67c"), looks := false }, kinds := [], alts := [], laidByText := true, laidKinds := [.data, .data, .pinned], laidTests := true, laidLooks := .later }
def PauliTextsUptoCardSaid : Prop := Claim7.holds Tryd.pinned (.plain (OpenSpec.upto pauliTextsSpec)) pauliTextsUptoCard

/-- THE SECOND FORM's CARD OF 'phasorlaw13.PauliCarries'. -/
def pauliCarriesUptoCard : Claim7 := { stood := { row := pauliCarriesUptoRow, standIns := [], harness := (true, "a9e594b79c18abdfa49ccfc7e30662382d2aa0353b5366108bd93d07f398b67c"), looks := false }, kinds := [], alts := [], laidByText := true, laidKinds := [.data, .data, .pinned], laidTests := true, laidLooks := .later }
def PauliCarriesUptoCardSaid : Prop := Claim7.holds Tryd.pinned (.plain (OpenSpec.upto pauliCarriesSpec)) pauliCarriesUptoCard

/-- THE SECOND FORM's CARD OF 'phasorlaw13.PauliAsks'. -/
def pauliAsksUptoCard : Claim7 := { stood := { row := pauliAsksUptoRow, standIns := [], harness := (true, "a9e594b79c18abdfa49ccfc7e30662382d2aa0353b5366108bd93d07f398b67c"), looks := false }, kinds := [], alts := [], laidByText := true, laidKinds := [.data, .data, .pinned], laidTests := true, laidLooks := .later }
def PauliAsksUptoCardSaid : Prop := Claim7.holds Tryd.pinned (.plain (OpenSpec.upto pauliAsksSpec)) pauliAsksUptoCard

/-- THE SECOND FORM's CARD OF 'phasorlaw13.PauliGroup'. -/
def pauliGroupUptoCard : Claim7 := { stood := { row := pauliGroupUptoRow, standIns := [], harness := (true, "a9e594b79c18abdfa49ccfc7e30662382d2aa0353b5366108bd93d07f398b67c"), looks := false }, kinds := [], alts := [], laidByText := true, laidKinds := [.data, .data, .pinned], laidTests := true, laidLooks := .later }
def PauliGroupUptoCardSaid : Prop := Claim7.holds Tryd.pinned (.plain (OpenSpec.upto pauliGroupSpec)) pauliGroupUptoCard
end Rows
end Go.Proofs.YtecfmnldanahiaaDoor
