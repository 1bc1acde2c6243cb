/-
  DERIVED. GIVEN WITH THE SEED: THE CARDS: each row of YtapbkomicihkkaaGreatDoorRows.lean that lists a variable, with what it lists TIED to the program's text (the seventh form; the later family's looks); each row that meets fmt, with fmt's text TOLD by the authors' own Lean function (tested against real Go, not proved from fmt's source: count such statements apart). THE CARD IS WHAT COUNTS. Prove the row's statement (the work); the ties are given (YtapbkomicihkkaaGreatDoorTie.lean); close each card by the builder's one call (the guide's Derived/Test/ToyasCard.lean, 'card_holds'). Laid BY PROGRAM, IN A SANDBOX (cutbox-door.mjs). By AI agents, Wed Nov 11 2026. No macro, syntax, notation, axiom, sorry.
-/
import Derived.Test.YtapbkomicihkkaaGreatDoorRows
import GoSem.ClaimSeven
namespace Go.Proofs.YtapbkomicihkkaaGreatDoor
namespace Rows

/-- THE TIED CARD OF 'handfastlaw11.EventSame'. -/
def eventSameCard : Claim7 := { stood := { row := eventSameRow, standIns := [], harness := (true, "99afe37a01dd590567eb01e0671e0a1132209c23579c5d6207192a5a654bfb4a"), looks := true }, kinds := [], alts := [], laidByText := true, laidKinds := [.data, .data, .data], laidTests := true, laidLooks := .later }
def EventSameCardSaid : Prop := Claim7.holds Tryz.pinned (.plain (OpenSpec.ofChange eventSameSpec)) eventSameCard

/-- THE TIED CARD OF 'handfastlaw11.EventTells'. -/
def eventTellsCard : Claim7 := { stood := { row := eventTellsRow, standIns := [], harness := (true, "99afe37a01dd590567eb01e0671e0a1132209c23579c5d6207192a5a654bfb4a"), looks := true }, kinds := [], alts := [], laidByText := true, laidKinds := [.data, .data, .data], laidTests := true, laidLooks := .later }
def EventTellsCardSaid : Prop := Claim7.holds Tryz.pinned (.plain (OpenSpec.ofChange eventTellsSpec)) eventTellsCard

/-- THE TIED CARD OF 'handfastlaw13.ChainSums'. -/
def chainSumsCard : Claim7 := { stood := { row := chainSumsRow, standIns := [], harness := (true, "99afe37a01dd590567eb01e0671e0a1132209c23579c5d6207192a5a654bfb4a"), looks := true }, kinds := [], alts := [], laidByText := true, laidKinds := [.data, .data, .data], laidTests := true, laidLooks := .later }
def ChainSumsCardSaid : Prop := Claim7.holds Tryz.pinned (.plain (OpenSpec.ofChange chainSumsSpec)) chainSumsCard

/-- THE TIED CARD OF 'handfastlaw13.ChainAgain'. -/
def chainAgainCard : Claim7 := { stood := { row := chainAgainRow, standIns := [], harness := (true, "99afe37a01dd590567eb01e0671e0a1132209c23579c5d6207192a5a654bfb4a"), looks := true }, kinds := [], alts := [], laidByText := true, laidKinds := [.data, .data, .data], laidTests := true, laidLooks := .later }
def ChainAgainCardSaid : Prop := Claim7.holds Tryz.pinned (.plain (OpenSpec.ofChange chainAgainSpec)) chainAgainCard

/-- THE TIED CARD OF 'handfastlaw13.ChainPlays'. -/
def chainPlaysCard : Claim7 := { stood := { row := chainPlaysRow, standIns := [], harness := (true, "99afe37a01dd590567eb01e0671e0a1132209c23579c5d6207192a5a654bfb4a"), looks := true }, kinds := [], alts := [], laidByText := true, laidKinds := [.data, .data, .data], laidTests := true, laidLooks := .later }
def ChainPlaysCardSaid : Prop := Claim7.holds Tryz.pinned (.plain (OpenSpec.ofChange chainPlaysSpec)) chainPlaysCard

/-- THE TIED CARD OF 'handfastlaw13.ChainTells'. -/
def chainTellsCard : Claim7 := { stood := { row := chainTellsRow, standIns := [], harness := (true, "99afe37a01dd590567eb01e0671e0a1132209c23579c5d6207192a5a654bfb4a"), looks := true }, kinds := [], alts := [], laidByText := true, laidKinds := [.data, .data, .data], laidTests := true, laidLooks := .later }
def ChainTellsCardSaid : Prop := Claim7.holds Tryz.pinned (.plain (OpenSpec.ofChange chainTellsSpec)) chainTellsCard

/-- THE SECOND FORM's CARD OF 'handfastlaw11.EventSame'. -/
def eventSameUptoCard : Claim7 := { stood := { row := eventSameUptoRow, standIns := [], harness := (true, "99afe37a01dd590567eb01e0671e0a1132209c23579c5d6207192a5a654bfb4a"), looks := true }, kinds := [], alts := [], laidByText := true, laidKinds := [.data, .data, .data], laidTests := true, laidLooks := .later }
def EventSameUptoCardSaid : Prop := Claim7.holds Tryz.pinned (.plain (OpenSpec.upto eventSameSpec)) eventSameUptoCard

/-- THE SECOND FORM's CARD OF 'handfastlaw11.EventTells'. -/
def eventTellsUptoCard : Claim7 := { stood := { row := eventTellsUptoRow, standIns := [], harness := (true, "99afe37a01dd590567eb01e0671e0a1132209c23579c5d6207192a5a654bfb4a"), looks := true }, kinds := [], alts := [], laidByText := true, laidKinds := [.data, .data, .data], laidTests := true, laidLooks := .later }
def EventTellsUptoCardSaid : Prop := Claim7.holds Tryz.pinned (.plain (OpenSpec.upto eventTellsSpec)) eventTellsUptoCard

/-- THE SECOND FORM's CARD OF 'handfastlaw13.ChainSums'. -/
def chainSumsUptoCard : Claim7 := { stood := { row := chainSumsUptoRow, standIns := [], harness := (true, "99afe37a01dd590567eb01e0671e0a1132209c23579c5d6207192a5a654bfb4a"), looks := true }, kinds := [], alts := [], laidByText := true, laidKinds := [.data, .data, .data], laidTests := true, laidLooks := .later }
def ChainSumsUptoCardSaid : Prop := Claim7.holds Tryz.pinned (.plain (OpenSpec.upto chainSumsSpec)) chainSumsUptoCard

/-- THE SECOND FORM's CARD OF 'handfastlaw13.ChainAgain'. -/
def chainAgainUptoCard : Claim7 := { stood := { row := chainAgainUptoRow, standIns := [], harness := (true, "99afe37a01dd590567eb01e0671e0a1132209c23579c5d6207192a5a654bfb4a"), looks := true }, kinds := [], alts := [], laidByText := true, laidKinds := [.data, .data, .data], laidTests := true, laidLooks := .later }
def ChainAgainUptoCardSaid : Prop := Claim7.holds Tryz.pinned (.plain (OpenSpec.upto chainAgainSpec)) chainAgainUptoCard

/-- THE SECOND FORM's CARD OF 'handfastlaw13.ChainPlays'. -/
def chainPlaysUptoCard : Claim7 := { stood := { row := chainPlaysUptoRow, standIns := [], harness := (true, "99afe37a01dd590567eb01e0671e0a1132209c23579c5d6207192a5a654bfb4a"), looks := true }, kinds := [], alts := [], laidByText := true, laidKinds := [.data, .data, .data], laidTests := true, laidLooks := .later }
def ChainPlaysUptoCardSaid : Prop := Claim7.holds Tryz.pinned (.plain (OpenSpec.upto chainPlaysSpec)) chainPlaysUptoCard

/-- THE SECOND FORM's CARD OF 'handfastlaw13.ChainTells'. -/
def chainTellsUptoCard : Claim7 := { stood := { row := chainTellsUptoRow, standIns := [], harness := (true, "99afe37a01dd590567eb01e0671e0a1132209c23579c5d6207192a5a654bfb4a"), looks := true }, kinds := [], alts := [], laidByText := true, laidKinds := [.data, .data, .data], laidTests := true, laidLooks := .later }
def ChainTellsUptoCardSaid : Prop := Claim7.holds Tryz.pinned (.plain (OpenSpec.upto chainTellsSpec)) chainTellsUptoCard
end Rows
end Go.Proofs.YtapbkomicihkkaaGreatDoor
