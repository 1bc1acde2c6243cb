/-
  DERIVED. GIVEN WITH THE SEED: THE CARDS: each row of YtapbkomicihkkaaDoorRows.lean that lists a variable, with what it lists TIED to the program's text (the seventh form; the later family's looks); each row that meets fmt, with fmt's text TOLD by the authors' own Lean function (tested against real Go, not proved from fmt's source: count such statements apart). THE CARD IS WHAT COUNTS. Prove the row's statement (the work); the ties are given (YtapbkomicihkkaaDoorTie.lean); close each card by the builder's one call (the guide's Derived/Test/ToyasCard.lean, 'card_holds'). Laid BY PROGRAM, IN A SANDBOX (cutbox-door.mjs). By AI agents, Wed Nov 11 2026. No macro, syntax, notation, axiom, sorry.
-/
import Derived.Test.YtapbkomicihkkaaDoorRows
import GoSem.ClaimSeven
namespace Go.Proofs.YtapbkomicihkkaaDoor
namespace Rows

/-- THE TIED CARD OF 'handfastlaw06.WriteForms'. -/
def writeFormsCard : Claim7 := { stood := { row := writeFormsRow, standIns := [], harness := (true, "ef163a6b20ac4863756986e4c63d29b6fb498ca1f65081478d4edd687603e09b"), looks := true }, kinds := [], alts := [], laidByText := true, laidKinds := [.data, .data, .data], laidTests := true, laidLooks := .later }
def WriteFormsCardSaid : Prop := Claim7.holds Tryd.pinned (.plain (OpenSpec.ofChange writeFormsSpec)) writeFormsCard

/-- THE TIED CARD OF 'handfastlaw06.WriteTells'. -/
def writeTellsCard : Claim7 := { stood := { row := writeTellsRow, standIns := [], harness := (true, "ef163a6b20ac4863756986e4c63d29b6fb498ca1f65081478d4edd687603e09b"), looks := true }, kinds := [], alts := [], laidByText := true, laidKinds := [.data, .data, .data], laidTests := true, laidLooks := .later }
def WriteTellsCardSaid : Prop := Claim7.holds Tryd.pinned (.plain (OpenSpec.ofChange writeTellsSpec)) writeTellsCard

/-- THE TIED CARD OF 'handfastlaw13.ChainLong'. -/
def chainLongCard : Claim7 := { stood := { row := chainLongRow, standIns := [], harness := (true, "ef163a6b20ac4863756986e4c63d29b6fb498ca1f65081478d4edd687603e09b"), looks := true }, kinds := [], alts := [], laidByText := true, laidKinds := [.data, .data, .data], laidTests := true, laidLooks := .later }
def ChainLongCardSaid : Prop := Claim7.holds Tryd.pinned (.plain (OpenSpec.ofChange chainLongSpec)) chainLongCard

/-- THE SECOND FORM's CARD OF 'handfastlaw06.WriteForms'. -/
def writeFormsUptoCard : Claim7 := { stood := { row := writeFormsUptoRow, standIns := [], harness := (true, "ef163a6b20ac4863756986e4c63d29b6fb498ca1f65081478d4edd687603e09b"), looks := true }, kinds := [], alts := [], laidByText := true, laidKinds := [.data, .data, .data], laidTests := true, laidLooks := .later }
def WriteFormsUptoCardSaid : Prop := Claim7.holds Tryd.pinned (.plain (OpenSpec.upto writeFormsSpec)) writeFormsUptoCard

/-- THE SECOND FORM's CARD OF 'handfastlaw06.WriteTells'. -/
def writeTellsUptoCard : Claim7 := { stood := { row := writeTellsUptoRow, standIns := [], harness := (true, "ef163a6b20ac4863756986e4c63d29b6fb498ca1f65081478d4edd687603e09b"), looks := true }, kinds := [], alts := [], laidByText := true, laidKinds := [.data, .data, .data], laidTests := true, laidLooks := .later }
def WriteTellsUptoCardSaid : Prop := Claim7.holds Tryd.pinned (.plain (OpenSpec.upto writeTellsSpec)) writeTellsUptoCard

/-- THE SECOND FORM's CARD OF 'handfastlaw13.ChainLong'. -/
def chainLongUptoCard : Claim7 := { stood := { row := chainLongUptoRow, standIns := [], harness := (true, "ef163a6b20ac4863756986e4c63d29b6fb498ca1f65081478d4edd687603e09b"), looks := true }, kinds := [], alts := [], laidByText := true, laidKinds := [.data, .data, .data], laidTests := true, laidLooks := .later }
def ChainLongUptoCardSaid : Prop := Claim7.holds Tryd.pinned (.plain (OpenSpec.upto chainLongSpec)) chainLongUptoCard
end Rows
end Go.Proofs.YtapbkomicihkkaaDoor
