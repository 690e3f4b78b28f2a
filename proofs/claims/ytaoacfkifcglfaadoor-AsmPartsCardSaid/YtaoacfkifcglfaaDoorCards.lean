/-
  DERIVED. GIVEN WITH THE SEED: THE CARDS: each row of YtaoacfkifcglfaaDoorRows.lean that lists a variable, with what it lists TIED to the program's text (the seventh form; the later family's looks); each row that meets fmt, with fmt's text TOLD by the authors' own Lean function (tested against real Go, not proved from fmt's source: count such statements apart). THE CARD IS WHAT COUNTS. Prove the row's statement (the work); the ties are given (YtaoacfkifcglfaaDoorTie.lean); close each card by the builder's one call (the guide's Derived/Test/ToyasCard.lean, 'card_holds'). Laid BY PROGRAM, IN A SANDBOX (cutbox-door.mjs). By AI agents, Wed Nov 11 2026. No macro, syntax, notation, axiom, sorry.
-/
import Derived.Test.YtaoacfkifcglfaaDoorRows
import GoSem.ClaimSeven
namespace Go.Proofs.YtaoacfkifcglfaaDoor
namespace Rows

/-- THE TIED CARD OF 'munimentslaw3.HexNumbers'. -/
def hexNumbersCard : Claim7 := { stood := { row := hexNumbersRow, standIns := [], harness := (true, "85bcbba1018e248f76718b069a755e5c283e1d5817c6e2bb2381384a38b9d085"), looks := false }, kinds := [], alts := [], laidByText := true, laidKinds := [.data, .pinned], laidTests := true, laidLooks := .later }
def HexNumbersCardSaid : Prop := Claim7.holds Tryd.pinned (.plain (OpenSpec.ofChange hexNumbersSpec)) hexNumbersCard

/-- THE TIED CARD OF 'munimentslaw3.HexReads'. -/
def hexReadsCard : Claim7 := { stood := { row := hexReadsRow, standIns := [], harness := (true, "85bcbba1018e248f76718b069a755e5c283e1d5817c6e2bb2381384a38b9d085"), looks := false }, kinds := [], alts := [], laidByText := true, laidKinds := [.data, .pinned], laidTests := true, laidLooks := .later }
def HexReadsCardSaid : Prop := Claim7.holds Tryd.pinned (.plain (OpenSpec.ofChange hexReadsSpec)) hexReadsCard

/-- THE TIED CARD OF 'munimentslaw3.HexTexts'. -/
def hexTextsCard : Claim7 := { stood := { row := hexTextsRow, standIns := [], harness := (true, "85bcbba1018e248f76718b069a755e5c283e1d5817c6e2bb2381384a38b9d085"), looks := false }, kinds := [], alts := [], laidByText := true, laidKinds := [.data, .pinned], laidTests := true, laidLooks := .later }
def HexTextsCardSaid : Prop := Claim7.holds Tryd.pinned (.plain (OpenSpec.ofChange hexTextsSpec)) hexTextsCard

/-- THE TIED CARD OF 'munimentslaw3.HexWrong'. -/
def hexWrongCard : Claim7 := { stood := { row := hexWrongRow, standIns := [], harness := (true, "85bcbba1018e248f76718b069a755e5c283e1d5817c6e2bb2381384a38b9d085"), looks := false }, kinds := [], alts := [], laidByText := true, laidKinds := [.data, .pinned], laidTests := true, laidLooks := .later }
def HexWrongCardSaid : Prop := Claim7.holds Tryd.pinned (.plain (OpenSpec.ofChange hexWrongSpec)) hexWrongCard

/-- THE TIED CARD OF 'munimentslaw11.OpsAll'. -/
def opsAllCard : Claim7 := { stood := { row := opsAllRow, standIns := [], harness := (true, "85bcbba1018e248f76718b069a755e5c283e1d5817c6e2bb2381384a38b9d085"), looks := false }, kinds := [], alts := [], laidByText := true, laidKinds := [.listed, .data], laidTests := true, laidLooks := .later }
def OpsAllCardSaid : Prop := Claim7.holds Tryd.pinned (.plain (OpenSpec.ofChange opsAllSpec)) opsAllCard

/-- THE TIED CARD OF 'munimentslaw11.OpsTells'. -/
def opsTellsCard : Claim7 := { stood := { row := opsTellsRow, standIns := [], harness := (true, "85bcbba1018e248f76718b069a755e5c283e1d5817c6e2bb2381384a38b9d085"), looks := false }, kinds := [], alts := [], laidByText := true, laidKinds := [.listed, .data], laidTests := true, laidLooks := .later }
def OpsTellsCardSaid : Prop := Claim7.holds Tryd.pinned (.plain (OpenSpec.ofChange opsTellsSpec)) opsTellsCard

/-- THE TIED CARD OF 'munimentslaw12.AsmPrints'. -/
def asmPrintsCard : Claim7 := { stood := { row := asmPrintsRow, standIns := [], harness := (true, "85bcbba1018e248f76718b069a755e5c283e1d5817c6e2bb2381384a38b9d085"), looks := false }, kinds := [], alts := [], laidByText := true, laidKinds := [.listed, .data], laidTests := true, laidLooks := .later }
def AsmPrintsCardSaid : Prop := Claim7.holds Tryd.pinned (.plain (OpenSpec.ofChange asmPrintsSpec)) asmPrintsCard

/-- THE TIED CARD OF 'munimentslaw12.AsmReads'. -/
def asmReadsCard : Claim7 := { stood := { row := asmReadsRow, standIns := [], harness := (true, "85bcbba1018e248f76718b069a755e5c283e1d5817c6e2bb2381384a38b9d085"), looks := false }, kinds := [], alts := [], laidByText := true, laidKinds := [.listed, .data], laidTests := true, laidLooks := .later }
def AsmReadsCardSaid : Prop := Claim7.holds Tryd.pinned (.plain (OpenSpec.ofChange asmReadsSpec)) asmReadsCard

/-- THE TIED CARD OF 'munimentslaw12.AsmWrong'. -/
def asmWrongCard : Claim7 := { stood := { row := asmWrongRow, standIns := [], harness := (true, "85bcbba1018e248f76718b069a755e5c283e1d5817c6e2bb2381384a38b9d085"), looks := false }, kinds := [], alts := [], laidByText := true, laidKinds := [.listed, .data], laidTests := true, laidLooks := .later }
def AsmWrongCardSaid : Prop := Claim7.holds Tryd.pinned (.plain (OpenSpec.ofChange asmWrongSpec)) asmWrongCard

/-- THE TIED CARD OF 'munimentslaw12.AsmParts'. -/
def asmPartsCard : Claim7 := { stood := { row := asmPartsRow, standIns := [], harness := (true, "85bcbba1018e248f76718b069a755e5c283e1d5817c6e2bb2381384a38b9d085"), looks := false }, kinds := [], alts := [], laidByText := true, laidKinds := [.listed, .data], laidTests := true, laidLooks := .later }
def AsmPartsCardSaid : Prop := Claim7.holds Tryd.pinned (.plain (OpenSpec.ofChange asmPartsSpec)) asmPartsCard

/-- THE SECOND FORM's CARD OF 'munimentslaw3.HexNumbers'. -/
def hexNumbersUptoCard : Claim7 := { stood := { row := hexNumbersUptoRow, standIns := [], harness := (true, "85bcbba1018e248f76718b069a755e5c283e1d5817c6e2bb2381384a38b9d085"), looks := false }, kinds := [], alts := [], laidByText := true, laidKinds := [.data, .pinned], laidTests := true, laidLooks := .later }
def HexNumbersUptoCardSaid : Prop := Claim7.holds Tryd.pinned (.plain (OpenSpec.upto hexNumbersSpec)) hexNumbersUptoCard

/-- THE SECOND FORM's CARD OF 'munimentslaw3.HexReads'. -/
def hexReadsUptoCard : Claim7 := { stood := { row := hexReadsUptoRow, standIns := [], harness := (true, "85bcbba1018e248f76718b069a755e5c283e1d5817c6e2bb2381384a38b9d085"), looks := false }, kinds := [], alts := [], laidByText := true, laidKinds := [.data, .pinned], laidTests := true, laidLooks := .later }
def HexReadsUptoCardSaid : Prop := Claim7.holds Tryd.pinned (.plain (OpenSpec.upto hexReadsSpec)) hexReadsUptoCard

/-- THE SECOND FORM's CARD OF 'munimentslaw3.HexTexts'. -/
def hexTextsUptoCard : Claim7 := { stood := { row := hexTextsUptoRow, standIns := [], harness := (true, "85bcbba1018e248f76718b069a755e5c283e1d5817c6e2bb2381384a38b9d085"), looks := false }, kinds := [], alts := [], laidByText := true, laidKinds := [.data, .pinned], laidTests := true, laidLooks := .later }
def HexTextsUptoCardSaid : Prop := Claim7.holds Tryd.pinned (.plain (OpenSpec.upto hexTextsSpec)) hexTextsUptoCard

/-- THE SECOND FORM's CARD OF 'munimentslaw3.HexWrong'. -/
def hexWrongUptoCard : Claim7 := { stood := { row := hexWrongUptoRow, standIns := [], harness := (true, "85bcbba1018e248f76718b069a755e5c283e1d5817c6e2bb2381384a38b9d085"), looks := false }, kinds := [], alts := [], laidByText := true, laidKinds := [.data, .pinned], laidTests := true, laidLooks := .later }
def HexWrongUptoCardSaid : Prop := Claim7.holds Tryd.pinned (.plain (OpenSpec.upto hexWrongSpec)) hexWrongUptoCard

/-- THE SECOND FORM's CARD OF 'munimentslaw11.OpsAll'. -/
def opsAllUptoCard : Claim7 := { stood := { row := opsAllUptoRow, standIns := [], harness := (true, "85bcbba1018e248f76718b069a755e5c283e1d5817c6e2bb2381384a38b9d085"), looks := false }, kinds := [], alts := [], laidByText := true, laidKinds := [.listed, .data], laidTests := true, laidLooks := .later }
def OpsAllUptoCardSaid : Prop := Claim7.holds Tryd.pinned (.plain (OpenSpec.upto opsAllSpec)) opsAllUptoCard

/-- THE SECOND FORM's CARD OF 'munimentslaw11.OpsTells'. -/
def opsTellsUptoCard : Claim7 := { stood := { row := opsTellsUptoRow, standIns := [], harness := (true, "85bcbba1018e248f76718b069a755e5c283e1d5817c6e2bb2381384a38b9d085"), looks := false }, kinds := [], alts := [], laidByText := true, laidKinds := [.listed, .data], laidTests := true, laidLooks := .later }
def OpsTellsUptoCardSaid : Prop := Claim7.holds Tryd.pinned (.plain (OpenSpec.upto opsTellsSpec)) opsTellsUptoCard

/-- THE SECOND FORM's CARD OF 'munimentslaw12.AsmPrints'. -/
def asmPrintsUptoCard : Claim7 := { stood := { row := asmPrintsUptoRow, standIns := [], harness := (true, "85bcbba1018e248f76718b069a755e5c283e1d5817c6e2bb2381384a38b9d085"), looks := false }, kinds := [], alts := [], laidByText := true, laidKinds := [.listed, .data], laidTests := true, laidLooks := .later }
def AsmPrintsUptoCardSaid : Prop := Claim7.holds Tryd.pinned (.plain (OpenSpec.upto asmPrintsSpec)) asmPrintsUptoCard

/-- THE SECOND FORM's CARD OF 'munimentslaw12.AsmReads'. -/
def asmReadsUptoCard : Claim7 := { stood := { row := asmReadsUptoRow, standIns := [], harness := (true, "85bcbba1018e248f76718b069a755e5c283e1d5817c6e2bb2381384a38b9d085"), looks := false }, kinds := [], alts := [], laidByText := true, laidKinds := [.listed, .data], laidTests := true, laidLooks := .later }
def AsmReadsUptoCardSaid : Prop := Claim7.holds Tryd.pinned (.plain (OpenSpec.upto asmReadsSpec)) asmReadsUptoCard

/-- THE SECOND FORM's CARD OF 'munimentslaw12.AsmWrong'. -/
def asmWrongUptoCard : Claim7 := { stood := { row := asmWrongUptoRow, standIns := [], harness := (true, "85bcbba1018e248f76718b069a755e5c283e1d5817c6e2bb2381384a38b9d085"), looks := false }, kinds := [], alts := [], laidByText := true, laidKinds := [.listed, .data], laidTests := true, laidLooks := .later }
def AsmWrongUptoCardSaid : Prop := Claim7.holds Tryd.pinned (.plain (OpenSpec.upto asmWrongSpec)) asmWrongUptoCard

/-- THE SECOND FORM's CARD OF 'munimentslaw12.AsmParts'. -/
def asmPartsUptoCard : Claim7 := { stood := { row := asmPartsUptoRow, standIns := [], harness := (true, "85bcbba1018e248f76718b069a755e5c283e1d5817c6e2bb2381384a38b9d085"), looks := false }, kinds := [], alts := [], laidByText := true, laidKinds := [.listed, .data], laidTests := true, laidLooks := .later }
def AsmPartsUptoCardSaid : Prop := Claim7.holds Tryd.pinned (.plain (OpenSpec.upto asmPartsSpec)) asmPartsUptoCard
end Rows
end Go.Proofs.YtaoacfkifcglfaaDoor
