/-
  DERIVED. GIVEN WITH THE SEED: THE CARDS: each row of YtnmignkabcblgaaDoorRows.lean that lists a variable, with what it lists TIED to the program's text (the seventh form; the later family's looks); each row that meets fmt, with fmt's text TOLD by the authors' own Lean function (tested against real Go, not proved from fmt's source: count such statements apart). THE CARD IS WHAT COUNTS. Prove the row's statement (the work); the ties are given (YtnmignkabcblgaaDoorTie.lean); close each card by the builder's one call (the guide's Derived/Test/ToyasCard.lean, 'card_holds'). Laid BY PROGRAM, IN A SANDBOX (cutbox-door.mjs). By AI agents, Wed Nov 11 2026. No macro, syntax, notation, axiom, sorry.
-/
import Derived.Test.YtnmignkabcblgaaDoorRows
import GoSem.ClaimSeven
namespace Go.Proofs.YtnmignkabcblgaaDoor
namespace Rows

/-- THE TIED CARD OF 'phasorlaw01.OctetWrites'. -/
def octetWritesCard : Claim7 := { stood := { row := octetWritesRow, standIns := [], harness := (true, "b1a13caccaa794cf0518bc75203600978d348c5c1e92963adb6d08522e4f5d76"), looks := false }, kinds := [], alts := [], laidByText := true, laidKinds := [.data, .pinned], laidTests := true, laidLooks := .later }
def OctetWritesCardSaid : Prop := Claim7.holds Tryd.pinned (.plain (OpenSpec.ofChange octetWritesSpec)) octetWritesCard

/-- THE TIED CARD OF 'phasorlaw01.OctetSums'. -/
def octetSumsCard : Claim7 := { stood := { row := octetSumsRow, standIns := [], harness := (true, "b1a13caccaa794cf0518bc75203600978d348c5c1e92963adb6d08522e4f5d76"), looks := false }, kinds := [], alts := [], laidByText := true, laidKinds := [.data, .pinned], laidTests := true, laidLooks := .later }
def OctetSumsCardSaid : Prop := Claim7.holds Tryd.pinned (.plain (OpenSpec.ofChange octetSumsSpec)) octetSumsCard

/-- THE TIED CARD OF 'phasorlaw01.OctetBurst'. -/
def octetBurstCard : Claim7 := { stood := { row := octetBurstRow, standIns := [], harness := (true, "b1a13caccaa794cf0518bc75203600978d348c5c1e92963adb6d08522e4f5d76"), looks := false }, kinds := [], alts := [], laidByText := true, laidKinds := [.data, .pinned], laidTests := true, laidLooks := .later }
def OctetBurstCardSaid : Prop := Claim7.holds Tryd.pinned (.plain (OpenSpec.ofChange octetBurstSpec)) octetBurstCard

/-- THE TIED CARD OF 'phasorlaw01.OctetReads'. -/
def octetReadsCard : Claim7 := { stood := { row := octetReadsRow, standIns := [], harness := (true, "b1a13caccaa794cf0518bc75203600978d348c5c1e92963adb6d08522e4f5d76"), looks := false }, kinds := [], alts := [], laidByText := true, laidKinds := [.data, .pinned], laidTests := true, laidLooks := .later }
def OctetReadsCardSaid : Prop := Claim7.holds Tryd.pinned (.plain (OpenSpec.ofChange octetReadsSpec)) octetReadsCard

/-- THE TIED CARD OF 'phasorlaw01.OctetNobody'. -/
def octetNobodyCard : Claim7 := { stood := { row := octetNobodyRow, standIns := [], harness := (true, "b1a13caccaa794cf0518bc75203600978d348c5c1e92963adb6d08522e4f5d76"), looks := false }, kinds := [], alts := [], laidByText := true, laidKinds := [.data, .pinned], laidTests := true, laidLooks := .later }
def OctetNobodyCardSaid : Prop := Claim7.holds Tryd.pinned (.plain (OpenSpec.ofChange octetNobodySpec)) octetNobodyCard

/-- THE TIED CARD OF 'phasorlaw01.OctetBack'. -/
def octetBackCard : Claim7 := { stood := { row := octetBackRow, standIns := [], harness := (true, "b1a13caccaa794cf0518bc75203600978d348c5c1e92963adb6d08522e4f5d76"), looks := false }, kinds := [], alts := [], laidByText := true, laidKinds := [.data, .pinned], laidTests := true, laidLooks := .later }
def OctetBackCardSaid : Prop := Claim7.holds Tryd.pinned (.plain (OpenSpec.ofChange octetBackSpec)) octetBackCard

/-- THE TIED CARD OF 'phasorlaw01.OctetHexes'. -/
def octetHexesCard : Claim7 := { stood := { row := octetHexesRow, standIns := [], harness := (true, "b1a13caccaa794cf0518bc75203600978d348c5c1e92963adb6d08522e4f5d76"), looks := false }, kinds := [], alts := [], laidByText := true, laidKinds := [.data, .pinned], laidTests := true, laidLooks := .later }
def OctetHexesCardSaid : Prop := Claim7.holds Tryd.pinned (.plain (OpenSpec.ofChange octetHexesSpec)) octetHexesCard

/-- THE SECOND FORM's CARD OF 'phasorlaw01.OctetWrites'. -/
def octetWritesUptoCard : Claim7 := { stood := { row := octetWritesUptoRow, standIns := [], harness := (true, "b1a13caccaa794cf0518bc75203600978d348c5c1e92963adb6d08522e4f5d76"), looks := false }, kinds := [], alts := [], laidByText := true, laidKinds := [.data, .pinned], laidTests := true, laidLooks := .later }
def OctetWritesUptoCardSaid : Prop := Claim7.holds Tryd.pinned (.plain (OpenSpec.upto octetWritesSpec)) octetWritesUptoCard

/-- THE SECOND FORM's CARD OF 'phasorlaw01.OctetSums'. -/
def octetSumsUptoCard : Claim7 := { stood := { row := octetSumsUptoRow, standIns := [], harness := (true, "b1a13caccaa794cf0518bc75203600978d348c5c1e92963adb6d08522e4f5d76"), looks := false }, kinds := [], alts := [], laidByText := true, laidKinds := [.data, .pinned], laidTests := true, laidLooks := .later }
def OctetSumsUptoCardSaid : Prop := Claim7.holds Tryd.pinned (.plain (OpenSpec.upto octetSumsSpec)) octetSumsUptoCard

/-- THE SECOND FORM's CARD OF 'phasorlaw01.OctetBurst'. -/
def octetBurstUptoCard : Claim7 := { stood := { row := octetBurstUptoRow, standIns := [], harness := (true, "b1a13caccaa794cf0518bc75203600978d348c5c1e92963adb6d08522e4f5d76"), looks := false }, kinds := [], alts := [], laidByText := true, laidKinds := [.data, .pinned], laidTests := true, laidLooks := .later }
def OctetBurstUptoCardSaid : Prop := Claim7.holds Tryd.pinned (.plain (OpenSpec.upto octetBurstSpec)) octetBurstUptoCard

/-- THE SECOND FORM's CARD OF 'phasorlaw01.OctetReads'. -/
def octetReadsUptoCard : Claim7 := { stood := { row := octetReadsUptoRow, standIns := [], harness := (true, "b1a13caccaa794cf0518bc75203600978d348c5c1e92963adb6d08522e4f5d76"), looks := false }, kinds := [], alts := [], laidByText := true, laidKinds := [.data, .pinned], laidTests := true, laidLooks := .later }
def OctetReadsUptoCardSaid : Prop := Claim7.holds Tryd.pinned (.plain (OpenSpec.upto octetReadsSpec)) octetReadsUptoCard

/-- THE SECOND FORM's CARD OF 'phasorlaw01.OctetNobody'. -/
def octetNobodyUptoCard : Claim7 := { stood := { row := octetNobodyUptoRow, standIns := [], harness := (true, "b1a13caccaa794cf0518bc75203600978d348c5c1e92963adb6d08522e4f5d76"), looks := false }, kinds := [], alts := [], laidByText := true, laidKinds := [.data, .pinned], laidTests := true, laidLooks := .later }
def OctetNobodyUptoCardSaid : Prop := Claim7.holds Tryd.pinned (.plain (OpenSpec.upto octetNobodySpec)) octetNobodyUptoCard

/-- THE SECOND FORM's CARD OF 'phasorlaw01.OctetBack'. -/
def octetBackUptoCard : Claim7 := { stood := { row := octetBackUptoRow, standIns := [], harness := (true, "b1a13caccaa794cf0518bc75203600978d348c5c1e92963adb6d08522e4f5d76"), looks := false }, kinds := [], alts := [], laidByText := true, laidKinds := [.data, .pinned], laidTests := true, laidLooks := .later }
def OctetBackUptoCardSaid : Prop := Claim7.holds Tryd.pinned (.plain (OpenSpec.upto octetBackSpec)) octetBackUptoCard

/-- THE SECOND FORM's CARD OF 'phasorlaw01.OctetHexes'. -/
def octetHexesUptoCard : Claim7 := { stood := { row := octetHexesUptoRow, standIns := [], harness := (true, "b1a13caccaa794cf0518bc75203600978d348c5c1e92963adb6d08522e4f5d76"), looks := false }, kinds := [], alts := [], laidByText := true, laidKinds := [.data, .pinned], laidTests := true, laidLooks := .later }
def OctetHexesUptoCardSaid : Prop := Claim7.holds Tryd.pinned (.plain (OpenSpec.upto octetHexesSpec)) octetHexesUptoCard
end Rows
end Go.Proofs.YtnmignkabcblgaaDoor
