/-
  DERIVED. GIVEN WITH THE SEED: THE CARDS: each row of YtgcglongjjpkbaaDoorRows.lean that lists a variable, with what it lists TIED to the program's text (the seventh form; the later family's looks); each row that meets fmt, with fmt's text TOLD by the authors' own Lean function (tested against real Go, not proved from fmt's source: count such statements apart). THE CARD IS WHAT COUNTS. Prove the row's statement (the work); the ties are given (YtgcglongjjpkbaaDoorTie.lean); close each card by the builder's one call (the guide's Derived/Test/ToyasCard.lean, 'card_holds'). Laid BY PROGRAM, IN A SANDBOX (cutbox-door.mjs). By AI agents, Wed Nov 11 2026. No macro, syntax, notation, axiom, sorry.
-/
import Derived.Test.YtgcglongjjpkbaaDoorRows
import GoSem.ClaimSeven
namespace Go.Proofs.YtgcglongjjpkbaaDoor
namespace Rows

/-- THE TIED CARD OF 'handfastlaw06.WriteLong'. -/
def writeLongCard : Claim7 := { stood := { row := writeLongRow, standIns := [], harness := (true, "c188ab19f4b9b1bde20fac773358c33bddc51f89e88a9325b621a31c5324efd9"), looks := true }, kinds := [], alts := [], laidByText := true, laidKinds := [.data, .data, .data], laidTests := true, laidLooks := .later }
def WriteLongCardSaid : Prop := Claim7.holds Tryd.pinned (.plain (OpenSpec.ofChange writeLongSpec)) writeLongCard

/-- THE TIED CARD OF 'handfastlaw06.WriteForms'. -/
def writeFormsCard : Claim7 := { stood := { row := writeFormsRow, standIns := [], harness := (true, "c188ab19f4b9b1bde20fac773358c33bddc51f89e88a9325b621a31c5324efd9"), looks := true }, kinds := [], alts := [], laidByText := true, laidKinds := [.data, .data, .data], laidTests := true, laidLooks := .later }
def WriteFormsCardSaid : Prop := Claim7.holds Tryd.pinned (.plain (OpenSpec.ofChange writeFormsSpec)) writeFormsCard

/-- THE TIED CARD OF 'handfastlaw06.WriteTells'. -/
def writeTellsCard : Claim7 := { stood := { row := writeTellsRow, standIns := [], harness := (true, "c188ab19f4b9b1bde20fac773358c33bddc51f89e88a9325b621a31c5324efd9"), looks := true }, kinds := [], alts := [], laidByText := true, laidKinds := [.data, .data, .data], laidTests := true, laidLooks := .later }
def WriteTellsCardSaid : Prop := Claim7.holds Tryd.pinned (.plain (OpenSpec.ofChange writeTellsSpec)) writeTellsCard

/-- THE TIED CARD OF 'handfastlaw06.WriteApart'. -/
def writeApartCard : Claim7 := { stood := { row := writeApartRow, standIns := [], harness := (true, "c188ab19f4b9b1bde20fac773358c33bddc51f89e88a9325b621a31c5324efd9"), looks := true }, kinds := [], alts := [], laidByText := true, laidKinds := [.data, .data, .data], laidTests := true, laidLooks := .later }
def WriteApartCardSaid : Prop := Claim7.holds Tryd.pinned (.plain (OpenSpec.ofChange writeApartSpec)) writeApartCard

/-- THE TIED CARD OF 'handfastlaw11.EventTerms'. -/
def eventTermsCard : Claim7 := { stood := { row := eventTermsRow, standIns := [], harness := (true, "c188ab19f4b9b1bde20fac773358c33bddc51f89e88a9325b621a31c5324efd9"), looks := true }, kinds := [], alts := [], laidByText := true, laidKinds := [.data, .data, .data], laidTests := true, laidLooks := .later }
def EventTermsCardSaid : Prop := Claim7.holds Tryd.pinned (.plain (OpenSpec.ofChange eventTermsSpec)) eventTermsCard

/-- THE TIED CARD OF 'handfastlaw11.EventFields'. -/
def eventFieldsCard : Claim7 := { stood := { row := eventFieldsRow, standIns := [], harness := (true, "c188ab19f4b9b1bde20fac773358c33bddc51f89e88a9325b621a31c5324efd9"), looks := true }, kinds := [], alts := [], laidByText := true, laidKinds := [.data, .data, .data], laidTests := true, laidLooks := .later }
def EventFieldsCardSaid : Prop := Claim7.holds Tryd.pinned (.plain (OpenSpec.ofChange eventFieldsSpec)) eventFieldsCard

/-- THE SECOND FORM's CARD OF 'handfastlaw06.WriteLong'. -/
def writeLongUptoCard : Claim7 := { stood := { row := writeLongUptoRow, standIns := [], harness := (true, "c188ab19f4b9b1bde20fac773358c33bddc51f89e88a9325b621a31c5324efd9"), looks := true }, kinds := [], alts := [], laidByText := true, laidKinds := [.data, .data, .data], laidTests := true, laidLooks := .later }
def WriteLongUptoCardSaid : Prop := Claim7.holds Tryd.pinned (.plain (OpenSpec.upto writeLongSpec)) writeLongUptoCard

/-- THE SECOND FORM's CARD OF 'handfastlaw06.WriteForms'. -/
def writeFormsUptoCard : Claim7 := { stood := { row := writeFormsUptoRow, standIns := [], harness := (true, "c188ab19f4b9b1bde20fac773358c33bddc51f89e88a9325b621a31c5324efd9"), looks := true }, kinds := [], alts := [], laidByText := true, laidKinds := [.data, .data, .data], laidTests := true, laidLooks := .later }
def WriteFormsUptoCardSaid : Prop := Claim7.holds Tryd.pinned (.plain (OpenSpec.upto writeFormsSpec)) writeFormsUptoCard

/-- THE SECOND FORM's CARD OF 'handfastlaw06.WriteTells'. -/
def writeTellsUptoCard : Claim7 := { stood := { row := writeTellsUptoRow, standIns := [], harness := (true, "c188ab19f4b9b1bde20fac773358c33bddc51f89e88a9325b621a31c5324efd9"), looks := true }, kinds := [], alts := [], laidByText := true, laidKinds := [.data, .data, .data], laidTests := true, laidLooks := .later }
def WriteTellsUptoCardSaid : Prop := Claim7.holds Tryd.pinned (.plain (OpenSpec.upto writeTellsSpec)) writeTellsUptoCard

/-- THE SECOND FORM's CARD OF 'handfastlaw06.WriteApart'. -/
def writeApartUptoCard : Claim7 := { stood := { row := writeApartUptoRow, standIns := [], harness := (true, "c188ab19f4b9b1bde20fac773358c33bddc51f89e88a9325b621a31c5324efd9"), looks := true }, kinds := [], alts := [], laidByText := true, laidKinds := [.data, .data, .data], laidTests := true, laidLooks := .later }
def WriteApartUptoCardSaid : Prop := Claim7.holds Tryd.pinned (.plain (OpenSpec.upto writeApartSpec)) writeApartUptoCard

/-- THE SECOND FORM's CARD OF 'handfastlaw11.EventTerms'. -/
def eventTermsUptoCard : Claim7 := { stood := { row := eventTermsUptoRow, standIns := [], harness := (true, "c188ab19f4b9b1bde20fac773358c33bddc51f89e88a9325b621a31c5324efd9"), looks := true }, kinds := [], alts := [], laidByText := true, laidKinds := [.data, .data, .data], laidTests := true, laidLooks := .later }
def EventTermsUptoCardSaid : Prop := Claim7.holds Tryd.pinned (.plain (OpenSpec.upto eventTermsSpec)) eventTermsUptoCard

/-- THE SECOND FORM's CARD OF 'handfastlaw11.EventFields'. -/
def eventFieldsUptoCard : Claim7 := { stood := { row := eventFieldsUptoRow, standIns := [], harness := (true, "c188ab19f4b9b1bde20fac773358c33bddc51f89e88a9325b621a31c5324efd9"), looks := true }, kinds := [], alts := [], laidByText := true, laidKinds := [.data, .data, .data], laidTests := true, laidLooks := .later }
def EventFieldsUptoCardSaid : Prop := Claim7.holds Tryd.pinned (.plain (OpenSpec.upto eventFieldsSpec)) eventFieldsUptoCard
end Rows
end Go.Proofs.YtgcglongjjpkbaaDoor
