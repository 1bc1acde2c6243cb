/-
  DERIVED. GIVEN WITH THE SEED: THE CARDS: each row of YtnekcijganhknaaGreatDoorRows.lean that lists a variable, with what it lists TIED to the program's text (the seventh form; the later family's looks); each row that meets fmt, with fmt's text TOLD by the authors' own Lean function (tested against real Go, not proved from fmt's source: count such statements apart). THE CARD IS WHAT COUNTS. Prove the row's statement (the work); the ties are given (YtnekcijganhknaaGreatDoorTie.lean); close each card by the builder's one call (the guide's Derived/Test/ToyasCard.lean, 'card_holds'). Laid BY PROGRAM, IN A SANDBOX (cutbox-door.mjs). By AI agents, Wed Nov 11 2026. No macro, syntax, notation, axiom, sorry.
-/
import Derived.Test.YtnekcijganhknaaGreatDoorRows
import GoSem.ClaimSeven
namespace Go.Proofs.YtnekcijganhknaaGreatDoor
namespace Rows

/-- THE TIED CARD OF 'handfastlaw14.LedgerAgain'. -/
def ledgerAgainCard : Claim7 := { stood := { row := ledgerAgainRow, standIns := [], harness := (true, "7aa9e41340f3c1e8a3ebd10d5ba5af0bc2bbfc1b94fece8736991e88c5297322"), looks := true }, kinds := [], alts := [], laidByText := true, laidKinds := [.data, .data, .data], laidTests := true, laidLooks := .later }
def LedgerAgainCardSaid : Prop := Claim7.holds Tryz.pinned (.plain (OpenSpec.ofChange ledgerAgainSpec)) ledgerAgainCard

/-- THE TIED CARD OF 'handfastlaw14.LedgerFlows'. -/
def ledgerFlowsCard : Claim7 := { stood := { row := ledgerFlowsRow, standIns := [], harness := (true, "7aa9e41340f3c1e8a3ebd10d5ba5af0bc2bbfc1b94fece8736991e88c5297322"), looks := true }, kinds := [], alts := [], laidByText := true, laidKinds := [.data, .data, .data], laidTests := true, laidLooks := .later }
def LedgerFlowsCardSaid : Prop := Claim7.holds Tryz.pinned (.plain (OpenSpec.ofChange ledgerFlowsSpec)) ledgerFlowsCard

/-- THE TIED CARD OF 'handfastlaw14.LedgerOrder'. -/
def ledgerOrderCard : Claim7 := { stood := { row := ledgerOrderRow, standIns := [], harness := (true, "7aa9e41340f3c1e8a3ebd10d5ba5af0bc2bbfc1b94fece8736991e88c5297322"), looks := true }, kinds := [], alts := [], laidByText := true, laidKinds := [.data, .data, .data], laidTests := true, laidLooks := .later }
def LedgerOrderCardSaid : Prop := Claim7.holds Tryz.pinned (.plain (OpenSpec.ofChange ledgerOrderSpec)) ledgerOrderCard

/-- THE TIED CARD OF 'handfastlaw14.LedgerLife'. -/
def ledgerLifeCard : Claim7 := { stood := { row := ledgerLifeRow, standIns := [], harness := (true, "7aa9e41340f3c1e8a3ebd10d5ba5af0bc2bbfc1b94fece8736991e88c5297322"), looks := true }, kinds := [], alts := [], laidByText := true, laidKinds := [.data, .data, .data], laidTests := true, laidLooks := .later }
def LedgerLifeCardSaid : Prop := Claim7.holds Tryz.pinned (.plain (OpenSpec.ofChange ledgerLifeSpec)) ledgerLifeCard

/-- THE TIED CARD OF 'handfastlaw14.LedgerFolds'. -/
def ledgerFoldsCard : Claim7 := { stood := { row := ledgerFoldsRow, standIns := [], harness := (true, "7aa9e41340f3c1e8a3ebd10d5ba5af0bc2bbfc1b94fece8736991e88c5297322"), looks := true }, kinds := [], alts := [], laidByText := true, laidKinds := [.data, .data, .data], laidTests := true, laidLooks := .later }
def LedgerFoldsCardSaid : Prop := Claim7.holds Tryz.pinned (.plain (OpenSpec.ofChange ledgerFoldsSpec)) ledgerFoldsCard

/-- THE TIED CARD OF 'handfastlaw14.LedgerErrors'. -/
def ledgerErrorsCard : Claim7 := { stood := { row := ledgerErrorsRow, standIns := [], harness := (true, "7aa9e41340f3c1e8a3ebd10d5ba5af0bc2bbfc1b94fece8736991e88c5297322"), looks := true }, kinds := [], alts := [], laidByText := true, laidKinds := [.data, .data, .data], laidTests := true, laidLooks := .later }
def LedgerErrorsCardSaid : Prop := Claim7.holds Tryz.pinned (.plain (OpenSpec.ofChange ledgerErrorsSpec)) ledgerErrorsCard

/-- THE TIED CARD OF 'handfastlaw14.LedgerStays'. -/
def ledgerStaysCard : Claim7 := { stood := { row := ledgerStaysRow, standIns := [], harness := (true, "7aa9e41340f3c1e8a3ebd10d5ba5af0bc2bbfc1b94fece8736991e88c5297322"), looks := true }, kinds := [], alts := [], laidByText := true, laidKinds := [.data, .data, .data], laidTests := true, laidLooks := .later }
def LedgerStaysCardSaid : Prop := Claim7.holds Tryz.pinned (.plain (OpenSpec.ofChange ledgerStaysSpec)) ledgerStaysCard

/-- THE TIED CARD OF 'handfastlaw14.LedgerPlays'. -/
def ledgerPlaysCard : Claim7 := { stood := { row := ledgerPlaysRow, standIns := [], harness := (true, "7aa9e41340f3c1e8a3ebd10d5ba5af0bc2bbfc1b94fece8736991e88c5297322"), looks := true }, kinds := [], alts := [], laidByText := true, laidKinds := [.data, .data, .data], laidTests := true, laidLooks := .later }
def LedgerPlaysCardSaid : Prop := Claim7.holds Tryz.pinned (.plain (OpenSpec.ofChange ledgerPlaysSpec)) ledgerPlaysCard

/-- THE SECOND FORM's CARD OF 'handfastlaw14.LedgerAgain'. -/
def ledgerAgainUptoCard : Claim7 := { stood := { row := ledgerAgainUptoRow, standIns := [], harness := (true, "7aa9e41340f3c1e8a3ebd10d5ba5af0bc2bbfc1b94fece8736991e88c5297322"), looks := true }, kinds := [], alts := [], laidByText := true, laidKinds := [.data, .data, .data], laidTests := true, laidLooks := .later }
def LedgerAgainUptoCardSaid : Prop := Claim7.holds Tryz.pinned (.plain (OpenSpec.upto ledgerAgainSpec)) ledgerAgainUptoCard

/-- THE SECOND FORM's CARD OF 'handfastlaw14.LedgerFlows'. -/
def ledgerFlowsUptoCard : Claim7 := { stood := { row := ledgerFlowsUptoRow, standIns := [], harness := (true, "7aa9e41340f3c1e8a3ebd10d5ba5af0bc2bbfc1b94fece8736991e88c5297322"), looks := true }, kinds := [], alts := [], laidByText := true, laidKinds := [.data, .data, .data], laidTests := true, laidLooks := .later }
def LedgerFlowsUptoCardSaid : Prop := Claim7.holds Tryz.pinned (.plain (OpenSpec.upto ledgerFlowsSpec)) ledgerFlowsUptoCard

/-- THE SECOND FORM's CARD OF 'handfastlaw14.LedgerOrder'. -/
def ledgerOrderUptoCard : Claim7 := { stood := { row := ledgerOrderUptoRow, standIns := [], harness := (true, "7aa9e41340f3c1e8a3ebd10d5ba5af0bc2bbfc1b94fece8736991e88c5297322"), looks := true }, kinds := [], alts := [], laidByText := true, laidKinds := [.data, .data, .data], laidTests := true, laidLooks := .later }
def LedgerOrderUptoCardSaid : Prop := Claim7.holds Tryz.pinned (.plain (OpenSpec.upto ledgerOrderSpec)) ledgerOrderUptoCard

/-- THE SECOND FORM's CARD OF 'handfastlaw14.LedgerLife'. -/
def ledgerLifeUptoCard : Claim7 := { stood := { row := ledgerLifeUptoRow, standIns := [], harness := (true, "7aa9e41340f3c1e8a3ebd10d5ba5af0bc2bbfc1b94fece8736991e88c5297322"), looks := true }, kinds := [], alts := [], laidByText := true, laidKinds := [.data, .data, .data], laidTests := true, laidLooks := .later }
def LedgerLifeUptoCardSaid : Prop := Claim7.holds Tryz.pinned (.plain (OpenSpec.upto ledgerLifeSpec)) ledgerLifeUptoCard

/-- THE SECOND FORM's CARD OF 'handfastlaw14.LedgerFolds'. -/
def ledgerFoldsUptoCard : Claim7 := { stood := { row := ledgerFoldsUptoRow, standIns := [], harness := (true, "7aa9e41340f3c1e8a3ebd10d5ba5af0bc2bbfc1b94fece8736991e88c5297322"), looks := true }, kinds := [], alts := [], laidByText := true, laidKinds := [.data, .data, .data], laidTests := true, laidLooks := .later }
def LedgerFoldsUptoCardSaid : Prop := Claim7.holds Tryz.pinned (.plain (OpenSpec.upto ledgerFoldsSpec)) ledgerFoldsUptoCard

/-- THE SECOND FORM's CARD OF 'handfastlaw14.LedgerErrors'. -/
def ledgerErrorsUptoCard : Claim7 := { stood := { row := ledgerErrorsUptoRow, standIns := [], harness := (true, "7aa9e41340f3c1e8a3ebd10d5ba5af0bc2bbfc1b94fece8736991e88c5297322"), looks := true }, kinds := [], alts := [], laidByText := true, laidKinds := [.data, .data, .data], laidTests := true, laidLooks := .later }
def LedgerErrorsUptoCardSaid : Prop := Claim7.holds Tryz.pinned (.plain (OpenSpec.upto ledgerErrorsSpec)) ledgerErrorsUptoCard

/-- THE SECOND FORM's CARD OF 'handfastlaw14.LedgerStays'. -/
def ledgerStaysUptoCard : Claim7 := { stood := { row := ledgerStaysUptoRow, standIns := [], harness := (true, "7aa9e41340f3c1e8a3ebd10d5ba5af0bc2bbfc1b94fece8736991e88c5297322"), looks := true }, kinds := [], alts := [], laidByText := true, laidKinds := [.data, .data, .data], laidTests := true, laidLooks := .later }
def LedgerStaysUptoCardSaid : Prop := Claim7.holds Tryz.pinned (.plain (OpenSpec.upto ledgerStaysSpec)) ledgerStaysUptoCard

/-- THE SECOND FORM's CARD OF 'handfastlaw14.LedgerPlays'. -/
def ledgerPlaysUptoCard : Claim7 := { stood := { row := ledgerPlaysUptoRow, standIns := [], harness := (true, "7aa9e41340f3c1e8a3ebd10d5ba5af0bc2bbfc1b94fece8736991e88c5297322"), looks := true }, kinds := [], alts := [], laidByText := true, laidKinds := [.data, .data, .data], laidTests := true, laidLooks := .later }
def LedgerPlaysUptoCardSaid : Prop := Claim7.holds Tryz.pinned (.plain (OpenSpec.upto ledgerPlaysSpec)) ledgerPlaysUptoCard
end Rows
end Go.Proofs.YtnekcijganhknaaGreatDoor
