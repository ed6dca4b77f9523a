/-
  DERIVED. GIVEN WITH THE SEED: THE CARDS: each row of YtpddepehlinfnaaGreatDoorRows.lean that lists a variable, with what it lists TIED to the program's text (the seventh form; the later family's looks); each row that meets fmt, with fmt's text TOLD by the authors' own Lean function (tested against real Go, not proved from fmt's source: count such statements apart). THE CARD IS WHAT COUNTS. Prove the row's statement (the work); the ties are given (YtpddepehlinfnaaGreatDoorTie.lean); close each card by the builder's one call (the guide's Derived/Test/ToyasCard.lean, 'card_holds'). Laid BY PROGRAM, IN A SANDBOX (cutbox-door.mjs). By AI agents, Wed Nov 11 2026. No macro, syntax, notation, axiom, sorry.
-/
import Derived.Test.YtpddepehlinfnaaGreatDoorRows
import GoSem.ClaimSeven
namespace Go.Proofs.YtpddepehlinfnaaGreatDoor
namespace Rows

/-- THE TIED CARD OF 'phasorlaw02.ScalarWhole'. -/
def scalarWholeCard : Claim7 := { stood := { row := scalarWholeRow, standIns := [], harness := (true, "2f57b7fd5bc698f208de52664a75a66a52cfd8a77a20c6470fe7b8cdc37aef59"), looks := true }, kinds := [], alts := [], laidByText := true, laidKinds := [.data, .data, .widerDeep, .widerDeep, .data, .data, .data, .data, .data, .sentinel, .sentinel, .pinned, .pinned], laidTests := true, laidLooks := .later }
def ScalarWholeCardSaid : Prop := Claim7.holds Tryz.pinned (.plain (OpenSpec.ofChange scalarWholeSpec)) scalarWholeCard

/-- THE TIED CARD OF 'phasorlaw02.ScalarSums'. -/
def scalarSumsCard : Claim7 := { stood := { row := scalarSumsRow, standIns := [], harness := (true, "2f57b7fd5bc698f208de52664a75a66a52cfd8a77a20c6470fe7b8cdc37aef59"), looks := true }, kinds := [], alts := [], laidByText := true, laidKinds := [.data, .data, .widerDeep, .widerDeep, .data, .data, .data, .data, .data, .sentinel, .sentinel, .pinned, .pinned], laidTests := true, laidLooks := .later }
def ScalarSumsCardSaid : Prop := Claim7.holds Tryz.pinned (.plain (OpenSpec.ofChange scalarSumsSpec)) scalarSumsCard

/-- THE TIED CARD OF 'phasorlaw02.ScalarOrder'. -/
def scalarOrderCard : Claim7 := { stood := { row := scalarOrderRow, standIns := [], harness := (true, "2f57b7fd5bc698f208de52664a75a66a52cfd8a77a20c6470fe7b8cdc37aef59"), looks := true }, kinds := [], alts := [], laidByText := true, laidKinds := [.data, .data, .widerDeep, .widerDeep, .data, .data, .data, .data, .data, .sentinel, .sentinel, .pinned, .pinned], laidTests := true, laidLooks := .later }
def ScalarOrderCardSaid : Prop := Claim7.holds Tryz.pinned (.plain (OpenSpec.ofChange scalarOrderSpec)) scalarOrderCard

/-- THE TIED CARD OF 'phasorlaw02.ScalarTotal'. -/
def scalarTotalCard : Claim7 := { stood := { row := scalarTotalRow, standIns := [], harness := (true, "2f57b7fd5bc698f208de52664a75a66a52cfd8a77a20c6470fe7b8cdc37aef59"), looks := true }, kinds := [], alts := [], laidByText := true, laidKinds := [.data, .data, .widerDeep, .widerDeep, .data, .data, .data, .data, .data, .sentinel, .sentinel, .pinned, .pinned], laidTests := true, laidLooks := .later }
def ScalarTotalCardSaid : Prop := Claim7.holds Tryz.pinned (.plain (OpenSpec.ofChange scalarTotalSpec)) scalarTotalCard

/-- THE TIED CARD OF 'phasorlaw02.ScalarJoins'. -/
def scalarJoinsCard : Claim7 := { stood := { row := scalarJoinsRow, standIns := [], harness := (true, "2f57b7fd5bc698f208de52664a75a66a52cfd8a77a20c6470fe7b8cdc37aef59"), looks := true }, kinds := [], alts := [], laidByText := true, laidKinds := [.data, .data, .widerDeep, .widerDeep, .data, .data, .data, .data, .data, .sentinel, .sentinel, .pinned, .pinned], laidTests := true, laidLooks := .later }
def ScalarJoinsCardSaid : Prop := Claim7.holds Tryz.pinned (.plain (OpenSpec.ofChange scalarJoinsSpec)) scalarJoinsCard

/-- THE TIED CARD OF 'phasorlaw02.ScalarExact'. -/
def scalarExactCard : Claim7 := { stood := { row := scalarExactRow, standIns := [], harness := (true, "2f57b7fd5bc698f208de52664a75a66a52cfd8a77a20c6470fe7b8cdc37aef59"), looks := true }, kinds := [], alts := [], laidByText := true, laidKinds := [.data, .data, .widerDeep, .widerDeep, .data, .data, .data, .data, .data, .sentinel, .sentinel, .pinned, .pinned], laidTests := true, laidLooks := .later }
def ScalarExactCardSaid : Prop := Claim7.holds Tryz.pinned (.plain (OpenSpec.ofChange scalarExactSpec)) scalarExactCard

/-- THE TIED CARD OF 'phasorlaw02.ScalarPrints'. -/
def scalarPrintsCard : Claim7 := { stood := { row := scalarPrintsRow, standIns := [], harness := (true, "2f57b7fd5bc698f208de52664a75a66a52cfd8a77a20c6470fe7b8cdc37aef59"), looks := true }, kinds := [], alts := [], laidByText := true, laidKinds := [.data, .data, .widerDeep, .widerDeep, .data, .data, .data, .data, .data, .sentinel, .sentinel, .pinned, .pinned], laidTests := true, laidLooks := .later }
def ScalarPrintsCardSaid : Prop := Claim7.holds Tryz.pinned (.plain (OpenSpec.ofChange scalarPrintsSpec)) scalarPrintsCard

/-- THE TIED CARD OF 'phasorlaw02.ScalarParses'. -/
def scalarParsesCard : Claim7 := { stood := { row := scalarParsesRow, standIns := [], harness := (true, "2f57b7fd5bc698f208de52664a75a66a52cfd8a77a20c6470fe7b8cdc37aef59"), looks := true }, kinds := [], alts := [], laidByText := true, laidKinds := [.data, .data, .widerDeep, .widerDeep, .data, .data, .data, .data, .data, .sentinel, .sentinel, .pinned, .pinned], laidTests := true, laidLooks := .later }
def ScalarParsesCardSaid : Prop := Claim7.holds Tryz.pinned (.plain (OpenSpec.ofChange scalarParsesSpec)) scalarParsesCard

/-- THE TIED CARD OF 'phasorlaw02.ScalarFixed'. -/
def scalarFixedCard : Claim7 := { stood := { row := scalarFixedRow, standIns := [], harness := (true, "2f57b7fd5bc698f208de52664a75a66a52cfd8a77a20c6470fe7b8cdc37aef59"), looks := true }, kinds := [], alts := [], laidByText := true, laidKinds := [.data, .data, .widerDeep, .widerDeep, .data, .data, .data, .data, .data, .sentinel, .sentinel, .pinned, .pinned], laidTests := true, laidLooks := .later }
def ScalarFixedCardSaid : Prop := Claim7.holds Tryz.pinned (.plain (OpenSpec.ofChange scalarFixedSpec)) scalarFixedCard

/-- THE TIED CARD OF 'phasorlaw02.ScalarLooks'. -/
def scalarLooksCard : Claim7 := { stood := { row := scalarLooksRow, standIns := [], harness := (true, "2f57b7fd5bc698f208de52664a75a66a52cfd8a77a20c6470fe7b8cdc37aef59"), looks := true }, kinds := [], alts := [], laidByText := true, laidKinds := [.data, .data, .widerDeep, .widerDeep, .data, .data, .data, .data, .data, .sentinel, .sentinel, .pinned, .pinned], laidTests := true, laidLooks := .later }
def ScalarLooksCardSaid : Prop := Claim7.holds Tryz.pinned (.plain (OpenSpec.ofChange scalarLooksSpec)) scalarLooksCard

/-- THE TIED CARD OF 'phasorlaw02.ScalarBack'. -/
def scalarBackCard : Claim7 := { stood := { row := scalarBackRow, standIns := [], harness := (true, "2f57b7fd5bc698f208de52664a75a66a52cfd8a77a20c6470fe7b8cdc37aef59"), looks := true }, kinds := [], alts := [], laidByText := true, laidKinds := [.data, .data, .widerDeep, .widerDeep, .data, .data, .data, .data, .data, .sentinel, .sentinel, .pinned, .pinned], laidTests := true, laidLooks := .later }
def ScalarBackCardSaid : Prop := Claim7.holds Tryz.pinned (.plain (OpenSpec.ofChange scalarBackSpec)) scalarBackCard

/-- THE SECOND FORM's CARD OF 'phasorlaw02.ScalarWhole'. -/
def scalarWholeUptoCard : Claim7 := { stood := { row := scalarWholeUptoRow, standIns := [], harness := (true, "2f57b7fd5bc698f208de52664a75a66a52cfd8a77a20c6470fe7b8cdc37aef59"), looks := true }, kinds := [], alts := [], laidByText := true, laidKinds := [.data, .data, .widerDeep, .widerDeep, .data, .data, .data, .data, .data, .sentinel, .sentinel, .pinned, .pinned], laidTests := true, laidLooks := .later }
def ScalarWholeUptoCardSaid : Prop := Claim7.holds Tryz.pinned (.plain (OpenSpec.upto scalarWholeSpec)) scalarWholeUptoCard

/-- THE SECOND FORM's CARD OF 'phasorlaw02.ScalarSums'. -/
def scalarSumsUptoCard : Claim7 := { stood := { row := scalarSumsUptoRow, standIns := [], harness := (true, "2f57b7fd5bc698f208de52664a75a66a52cfd8a77a20c6470fe7b8cdc37aef59"), looks := true }, kinds := [], alts := [], laidByText := true, laidKinds := [.data, .data, .widerDeep, .widerDeep, .data, .data, .data, .data, .data, .sentinel, .sentinel, .pinned, .pinned], laidTests := true, laidLooks := .later }
def ScalarSumsUptoCardSaid : Prop := Claim7.holds Tryz.pinned (.plain (OpenSpec.upto scalarSumsSpec)) scalarSumsUptoCard

/-- THE SECOND FORM's CARD OF 'phasorlaw02.ScalarOrder'. -/
def scalarOrderUptoCard : Claim7 := { stood := { row := scalarOrderUptoRow, standIns := [], harness := (true, "2f57b7fd5bc698f208de52664a75a66a52cfd8a77a20c6470fe7b8cdc37aef59"), looks := true }, kinds := [], alts := [], laidByText := true, laidKinds := [.data, .data, .widerDeep, .widerDeep, .data, .data, .data, .data, .data, .sentinel, .sentinel, .pinned, .pinned], laidTests := true, laidLooks := .later }
def ScalarOrderUptoCardSaid : Prop := Claim7.holds Tryz.pinned (.plain (OpenSpec.upto scalarOrderSpec)) scalarOrderUptoCard

/-- THE SECOND FORM's CARD OF 'phasorlaw02.ScalarTotal'. -/
def scalarTotalUptoCard : Claim7 := { stood := { row := scalarTotalUptoRow, standIns := [], harness := (true, "2f57b7fd5bc698f208de52664a75a66a52cfd8a77a20c6470fe7b8cdc37aef59"), looks := true }, kinds := [], alts := [], laidByText := true, laidKinds := [.data, .data, .widerDeep, .widerDeep, .data, .data, .data, .data, .data, .sentinel, .sentinel, .pinned, .pinned], laidTests := true, laidLooks := .later }
def ScalarTotalUptoCardSaid : Prop := Claim7.holds Tryz.pinned (.plain (OpenSpec.upto scalarTotalSpec)) scalarTotalUptoCard

/-- THE SECOND FORM's CARD OF 'phasorlaw02.ScalarJoins'. -/
def scalarJoinsUptoCard : Claim7 := { stood := { row := scalarJoinsUptoRow, standIns := [], harness := (true, "2f57b7fd5bc698f208de52664a75a66a52cfd8a77a20c6470fe7b8cdc37aef59"), looks := true }, kinds := [], alts := [], laidByText := true, laidKinds := [.data, .data, .widerDeep, .widerDeep, .data, .data, .data, .data, .data, .sentinel, .sentinel, .pinned, .pinned], laidTests := true, laidLooks := .later }
def ScalarJoinsUptoCardSaid : Prop := Claim7.holds Tryz.pinned (.plain (OpenSpec.upto scalarJoinsSpec)) scalarJoinsUptoCard

/-- THE SECOND FORM's CARD OF 'phasorlaw02.ScalarExact'. -/
def scalarExactUptoCard : Claim7 := { stood := { row := scalarExactUptoRow, standIns := [], harness := (true, "2f57b7fd5bc698f208de52664a75a66a52cfd8a77a20c6470fe7b8cdc37aef59"), looks := true }, kinds := [], alts := [], laidByText := true, laidKinds := [.data, .data, .widerDeep, .widerDeep, .data, .data, .data, .data, .data, .sentinel, .sentinel, .pinned, .pinned], laidTests := true, laidLooks := .later }
def ScalarExactUptoCardSaid : Prop := Claim7.holds Tryz.pinned (.plain (OpenSpec.upto scalarExactSpec)) scalarExactUptoCard

/-- THE SECOND FORM's CARD OF 'phasorlaw02.ScalarPrints'. -/
def scalarPrintsUptoCard : Claim7 := { stood := { row := scalarPrintsUptoRow, standIns := [], harness := (true, "2f57b7fd5bc698f208de52664a75a66a52cfd8a77a20c6470fe7b8cdc37aef59"), looks := true }, kinds := [], alts := [], laidByText := true, laidKinds := [.data, .data, .widerDeep, .widerDeep, .data, .data, .data, .data, .data, .sentinel, .sentinel, .pinned, .pinned], laidTests := true, laidLooks := .later }
def ScalarPrintsUptoCardSaid : Prop := Claim7.holds Tryz.pinned (.plain (OpenSpec.upto scalarPrintsSpec)) scalarPrintsUptoCard

/-- THE SECOND FORM's CARD OF 'phasorlaw02.ScalarParses'. -/
def scalarParsesUptoCard : Claim7 := { stood := { row := scalarParsesUptoRow, standIns := [], harness := (true, "2f57b7fd5bc698f208de52664a75a66a52cfd8a77a20c6470fe7b8cdc37aef59"), looks := true }, kinds := [], alts := [], laidByText := true, laidKinds := [.data, .data, .widerDeep, .widerDeep, .data, .data, .data, .data, .data, .sentinel, .sentinel, .pinned, .pinned], laidTests := true, laidLooks := .later }
def ScalarParsesUptoCardSaid : Prop := Claim7.holds Tryz.pinned (.plain (OpenSpec.upto scalarParsesSpec)) scalarParsesUptoCard

/-- THE SECOND FORM's CARD OF 'phasorlaw02.ScalarFixed'. -/
def scalarFixedUptoCard : Claim7 := { stood := { row := scalarFixedUptoRow, standIns := [], harness := (true, "2f57b7fd5bc698f208de52664a75a66a52cfd8a77a20c6470fe7b8cdc37aef59"), looks := true }, kinds := [], alts := [], laidByText := true, laidKinds := [.data, .data, .widerDeep, .widerDeep, .data, .data, .data, .data, .data, .sentinel, .sentinel, .pinned, .pinned], laidTests := true, laidLooks := .later }
def ScalarFixedUptoCardSaid : Prop := Claim7.holds Tryz.pinned (.plain (OpenSpec.upto scalarFixedSpec)) scalarFixedUptoCard

/-- THE SECOND FORM's CARD OF 'phasorlaw02.ScalarLooks'. -/
def scalarLooksUptoCard : Claim7 := { stood := { row := scalarLooksUptoRow, standIns := [], harness := (true, "2f57b7fd5bc698f208de52664a75a66a52cfd8a77a20c6470fe7b8cdc37aef59"), looks := true }, kinds := [], alts := [], laidByText := true, laidKinds := [.data, .data, .widerDeep, .widerDeep, .data, .data, .data, .data, .data, .sentinel, .sentinel, .pinned, .pinned], laidTests := true, laidLooks := .later }
def ScalarLooksUptoCardSaid : Prop := Claim7.holds Tryz.pinned (.plain (OpenSpec.upto scalarLooksSpec)) scalarLooksUptoCard

/-- THE SECOND FORM's CARD OF 'phasorlaw02.ScalarBack'. -/
def scalarBackUptoCard : Claim7 := { stood := { row := scalarBackUptoRow, standIns := [], harness := (true, "2f57b7fd5bc698f208de52664a75a66a52cfd8a77a20c6470fe7b8cdc37aef59"), looks := true }, kinds := [], alts := [], laidByText := true, laidKinds := [.data, .data, .widerDeep, .widerDeep, .data, .data, .data, .data, .data, .sentinel, .sentinel, .pinned, .pinned], laidTests := true, laidLooks := .later }
def ScalarBackUptoCardSaid : Prop := Claim7.holds Tryz.pinned (.plain (OpenSpec.upto scalarBackSpec)) scalarBackUptoCard
end Rows
end Go.Proofs.YtpddepehlinfnaaGreatDoor
