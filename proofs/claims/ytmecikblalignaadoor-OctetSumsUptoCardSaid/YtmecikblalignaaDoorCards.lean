/-
  DERIVED. GIVEN WITH THE SEED: THE CARDS: each row of YtmecikblalignaaDoorRows.lean that lists a variable, with what it lists TIED to the program's text (the seventh form; the later family's looks); each row that meets fmt, with fmt's text TOLD by the authors' own Lean function (tested against real Go, not proved from fmt's source: count such statements apart). THE CARD IS WHAT COUNTS. Prove the row's statement (the work); the ties are given (YtmecikblalignaaDoorTie.lean); close each card by the builder's one call (the guide's Derived/Test/ToyasCard.lean, 'card_holds'). Laid BY PROGRAM, IN A SANDBOX (cutbox-door.mjs). By AI agents, Wed Nov 11 2026. No macro, syntax, notation, axiom, sorry.
-/
import Derived.Test.YtmecikblalignaaDoorRows
import GoSem.ClaimSeven
namespace Go.Proofs.YtmecikblalignaaDoor
namespace Rows

/-- THE TIED CARD OF 'phasorlaw01.OctetSums'. -/
def octetSumsCard : Claim7 := { stood := { row := octetSumsRow, standIns := [], harness := (true, "565f95f2f70da79d1e25a31e84de780a7ce86e352a1564ac83b92251fd7d369c"), looks := false }, kinds := [], alts := [], laidByText := true, laidKinds := [.data, .pinned], laidTests := true, laidLooks := .later }
def OctetSumsCardSaid : Prop := Claim7.holds Tryd.pinned (.plain (OpenSpec.ofChange octetSumsSpec)) octetSumsCard

/-- THE TIED CARD OF 'phasorlaw01.OctetHexes'. -/
def octetHexesCard : Claim7 := { stood := { row := octetHexesRow, standIns := [], harness := (true, "565f95f2f70da79d1e25a31e84de780a7ce86e352a1564ac83b92251fd7d369c"), looks := false }, kinds := [], alts := [], laidByText := true, laidKinds := [.data, .pinned], laidTests := true, laidLooks := .later }
def OctetHexesCardSaid : Prop := Claim7.holds Tryd.pinned (.plain (OpenSpec.ofChange octetHexesSpec)) octetHexesCard

/-- THE SECOND FORM's CARD OF 'phasorlaw01.OctetSums'. -/
def octetSumsUptoCard : Claim7 := { stood := { row := octetSumsUptoRow, standIns := [], harness := (true, "565f95f2f70da79d1e25a31e84de780a7ce86e352a1564ac83b92251fd7d369c"), looks := false }, kinds := [], alts := [], laidByText := true, laidKinds := [.data, .pinned], laidTests := true, laidLooks := .later }
def OctetSumsUptoCardSaid : Prop := Claim7.holds Tryd.pinned (.plain (OpenSpec.upto octetSumsSpec)) octetSumsUptoCard

/-- THE SECOND FORM's CARD OF 'phasorlaw01.OctetHexes'. -/
def octetHexesUptoCard : Claim7 := { stood := { row := octetHexesUptoRow, standIns := [], harness := (true, "565f95f2f70da79d1e25a31e84de780a7ce86e352a1564ac83b92251fd7d369c"), looks := false }, kinds := [], alts := [], laidByText := true, laidKinds := [.data, .pinned], laidTests := true, laidLooks := .later }
def OctetHexesUptoCardSaid : Prop := Claim7.holds Tryd.pinned (.plain (OpenSpec.upto octetHexesSpec)) octetHexesUptoCard
end Rows
end Go.Proofs.YtmecikblalignaaDoor
