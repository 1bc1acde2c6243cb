/-
  No cell of these rows narrows 'for every input' (looked for: loops, veiled, ifaces, maps, wideKeys, modest, calm, conditions, laid).
  DERIVED. THE GIVEN ROWS OF THIS SEAT. 5 by the template 'for every input the law returns true; each argument reads behind the call as it read before'; 0 by the template 'total and deterministic' (their statements: YtkogaoilknoogaaTotals.lean).
  GIVEN WITH THE SEED: the statements are not yours to turn. If you find one false, say at which input.
  Laid BY PROGRAM, IN A SANDBOX (cutbox-rows.mjs): the forced cells as the released guide's own fill.sh prints them over the translation ae44c7bbeb2ca530… (all of the seat's roots in one cut). By AI agents, Wed Nov 11 2026. No macro, syntax, notation, axiom, sorry.
-/
import Derived.Test.YtkogaoilknoogaaChecked
import GoSem.Claim
import GoSem.ClaimJoined
import GoSem.ClaimMapViews
import Derived.JoinedTies
import Derived.KernelRfl
namespace Go.Proofs.Ytkogaoilknoogaa
/- THE CELL 'sum', in the pinned program and in every row, IS THE sha256 OF THE DUMP (.gsa) THAT YtkogaoilknoogaaProg.lean LOADS. Nothing in Lean hashes anything: it is a label: what it is worth is what the hold of that sum in a sandbox is worth. -/
noncomputable def Try.pinned : Pinned := { name := "ytkogaoilknoogaa", sum := "ae44c7bbeb2ca5306aa9fce85fdc814c40a74cdb940540f953b0a62a9fe91744", checked := Try.checked }
namespace Rows
def none {H : Type} : Left H := { results := [], args := [] }

/-- 'handfastlaw03.SipLong': WHATEVER THE INPUT: true; the input reads as it did. -/
def sipLongSpec : ChangeSpec := { name := "sipLong", fn := fun _ => fun
  | [d1, d2, d3] => { results := [.lit (.bool true)], args := [d1, d2, d3] }
  | _ => none }
def sipLongRow : OpenClaim := { program := "ytkogaoilknoogaa", sum := "ae44c7bbeb2ca5306aa9fce85fdc814c40a74cdb940540f953b0a62a9fe91744", func := "handfast/handfastlaw03.SipLong", spec := "sipLong", apart := false }
def SipLongSaid : Prop := sipLongRow.holds Try.pinned (OpenSpec.ofChange sipLongSpec)

/-- ITS FALSE NEIGHBOUR: 'it returns false'. Refute it at one input. -/
def sipLongWrong : ChangeSpec := { name := "sipLong", fn := fun _ => fun
  | [d1, d2, d3] => { results := [.lit (.bool false)], args := [d1, d2, d3] }
  | _ => none }
def SipLongWrongFalsely : Prop := sipLongRow.holds Try.pinned (OpenSpec.ofChange sipLongWrong)

/-- 'handfastlaw03.SipKnown': WHATEVER THE INPUT: true; the input reads as it did. -/
def sipKnownSpec : ChangeSpec := { name := "sipKnown", fn := fun _ => fun
  | [d] => { results := [.lit (.bool true)], args := [d] }
  | _ => none }
def sipKnownRow : OpenClaim := { program := "ytkogaoilknoogaa", sum := "ae44c7bbeb2ca5306aa9fce85fdc814c40a74cdb940540f953b0a62a9fe91744", func := "handfast/handfastlaw03.SipKnown", spec := "sipKnown", apart := false }
def SipKnownSaid : Prop := sipKnownRow.holds Try.pinned (OpenSpec.ofChange sipKnownSpec)

/-- ITS FALSE NEIGHBOUR: 'it returns false'. Refute it at one input. -/
def sipKnownWrong : ChangeSpec := { name := "sipKnown", fn := fun _ => fun
  | [d] => { results := [.lit (.bool false)], args := [d] }
  | _ => none }
def SipKnownWrongFalsely : Prop := sipKnownRow.holds Try.pinned (OpenSpec.ofChange sipKnownWrong)

/-- 'handfastlaw03.SipSame': WHATEVER THE INPUT: true; the input reads as it did. -/
def sipSameSpec : ChangeSpec := { name := "sipSame", fn := fun _ => fun
  | [d1, d2] => { results := [.lit (.bool true)], args := [d1, d2] }
  | _ => none }
def sipSameRow : OpenClaim := { program := "ytkogaoilknoogaa", sum := "ae44c7bbeb2ca5306aa9fce85fdc814c40a74cdb940540f953b0a62a9fe91744", func := "handfast/handfastlaw03.SipSame", spec := "sipSame", apart := false }
def SipSameSaid : Prop := sipSameRow.holds Try.pinned (OpenSpec.ofChange sipSameSpec)

/-- ITS FALSE NEIGHBOUR: 'it returns false'. Refute it at one input. -/
def sipSameWrong : ChangeSpec := { name := "sipSame", fn := fun _ => fun
  | [d1, d2] => { results := [.lit (.bool false)], args := [d1, d2] }
  | _ => none }
def SipSameWrongFalsely : Prop := sipSameRow.holds Try.pinned (OpenSpec.ofChange sipSameWrong)

/-- 'handfastlaw03.SipNumbers': WHATEVER THE INPUT: true; the input reads as it did. -/
def sipNumbersSpec : ChangeSpec := { name := "sipNumbers", fn := fun _ => fun
  | [d1, d2] => { results := [.lit (.bool true)], args := [d1, d2] }
  | _ => none }
def sipNumbersRow : OpenClaim := { program := "ytkogaoilknoogaa", sum := "ae44c7bbeb2ca5306aa9fce85fdc814c40a74cdb940540f953b0a62a9fe91744", func := "handfast/handfastlaw03.SipNumbers", spec := "sipNumbers", apart := false }
def SipNumbersSaid : Prop := sipNumbersRow.holds Try.pinned (OpenSpec.ofChange sipNumbersSpec)

/-- ITS FALSE NEIGHBOUR: 'it returns false'. Refute it at one input. -/
def sipNumbersWrong : ChangeSpec := { name := "sipNumbers", fn := fun _ => fun
  | [d1, d2] => { results := [.lit (.bool false)], args := [d1, d2] }
  | _ => none }
def SipNumbersWrongFalsely : Prop := sipNumbersRow.holds Try.pinned (OpenSpec.ofChange sipNumbersWrong)

/-- 'handfastlaw03.SipSums': WHATEVER THE INPUT: true; the input reads as it did. -/
def sipSumsSpec : ChangeSpec := { name := "sipSums", fn := fun _ => fun
  | [d1, d2, d3] => { results := [.lit (.bool true)], args := [d1, d2, d3] }
  | _ => none }
def sipSumsRow : OpenClaim := { program := "ytkogaoilknoogaa", sum := "ae44c7bbeb2ca5306aa9fce85fdc814c40a74cdb940540f953b0a62a9fe91744", func := "handfast/handfastlaw03.SipSums", spec := "sipSums", apart := false }
def SipSumsSaid : Prop := sipSumsRow.holds Try.pinned (OpenSpec.ofChange sipSumsSpec)

/-- ITS FALSE NEIGHBOUR: 'it returns false'. Refute it at one input. -/
def sipSumsWrong : ChangeSpec := { name := "sipSums", fn := fun _ => fun
  | [d1, d2, d3] => { results := [.lit (.bool false)], args := [d1, d2, d3] }
  | _ => none }
def SipSumsWrongFalsely : Prop := sipSumsRow.holds Try.pinned (OpenSpec.ofChange sipSumsWrong)

/- THE SECOND FORM. 'bulk': how many values and letters a reading holds, each counted each time it is reached (what is shared counts as often as it is met; a slice's spare places count too). A statement '..UptoSaid' is the law's where the arguments, and the package variables that the reading takes, are together of bulk at most 1048576: NARROWER than '..Said'. Prove '..Said' where nothing that the law and all that it calls make is longer than what came in: it says more and counts as full. Else prove '..UptoSaid'. A law counts once. -/
mutual
def uptoBulk {H : Type} : DataW H → Nat
  | .lit (.string bytes) => bytes.length + 1
  | .lit _ => 1
  | .nil => 1
  | .ptr d => uptoBulk d + 1
  | .slice elems spare => uptoBulkAll elems + uptoBulkAll spare + 1
  | .agg parts => uptoBulkAll parts + 1
  | .iface _ d => uptoBulk d + 1
  | .map entries => uptoBulkEntries entries + 1
  | .held _ => 1
def uptoBulkAll {H : Type} : List (DataW H) → Nat
  | [] => 0
  | d :: r => uptoBulk d + uptoBulkAll r
def uptoBulkEntries {H : Type} : List (Lit × DataW H) → Nat
  | [] => 0
  | x :: r => uptoBulkEntry x + uptoBulkEntries r
def uptoBulkEntry {H : Type} : Lit × DataW H → Nat
  | (.string bytes, d) => bytes.length + uptoBulk d + 1
  | (_, d) => uptoBulk d + 1
 end
def uptoSmall : (H : Type) → List (DataW H) → Bool := fun _ ds => decide (uptoBulkAll ds ≤ 1048576)
def OpenSpec.upto (s : _root_.Go.ChangeSpec) : _root_.Go.OpenSpec := { _root_.Go.OpenSpec.ofChange s with cond := some uptoSmall }

/-- 'handfastlaw03.SipLong', WHERE WHAT IT READS IS OF BULK AT MOST 1048576: true; the input reads as it did. -/
def sipLongUptoRow : OpenClaim := { program := "ytkogaoilknoogaa", sum := "ae44c7bbeb2ca5306aa9fce85fdc814c40a74cdb940540f953b0a62a9fe91744", func := "handfast/handfastlaw03.SipLong", spec := "sipLong", apart := false, narrowed := true }
def SipLongUptoSaid : Prop := sipLongUptoRow.holds Try.pinned (OpenSpec.upto sipLongSpec)

/-- 'handfastlaw03.SipKnown', WHERE WHAT IT READS IS OF BULK AT MOST 1048576: true; the input reads as it did. -/
def sipKnownUptoRow : OpenClaim := { program := "ytkogaoilknoogaa", sum := "ae44c7bbeb2ca5306aa9fce85fdc814c40a74cdb940540f953b0a62a9fe91744", func := "handfast/handfastlaw03.SipKnown", spec := "sipKnown", apart := false, narrowed := true }
def SipKnownUptoSaid : Prop := sipKnownUptoRow.holds Try.pinned (OpenSpec.upto sipKnownSpec)

/-- 'handfastlaw03.SipSame', WHERE WHAT IT READS IS OF BULK AT MOST 1048576: true; the input reads as it did. -/
def sipSameUptoRow : OpenClaim := { program := "ytkogaoilknoogaa", sum := "ae44c7bbeb2ca5306aa9fce85fdc814c40a74cdb940540f953b0a62a9fe91744", func := "handfast/handfastlaw03.SipSame", spec := "sipSame", apart := false, narrowed := true }
def SipSameUptoSaid : Prop := sipSameUptoRow.holds Try.pinned (OpenSpec.upto sipSameSpec)

/-- 'handfastlaw03.SipNumbers', WHERE WHAT IT READS IS OF BULK AT MOST 1048576: true; the input reads as it did. -/
def sipNumbersUptoRow : OpenClaim := { program := "ytkogaoilknoogaa", sum := "ae44c7bbeb2ca5306aa9fce85fdc814c40a74cdb940540f953b0a62a9fe91744", func := "handfast/handfastlaw03.SipNumbers", spec := "sipNumbers", apart := false, narrowed := true }
def SipNumbersUptoSaid : Prop := sipNumbersUptoRow.holds Try.pinned (OpenSpec.upto sipNumbersSpec)

/-- 'handfastlaw03.SipSums', WHERE WHAT IT READS IS OF BULK AT MOST 1048576: true; the input reads as it did. -/
def sipSumsUptoRow : OpenClaim := { program := "ytkogaoilknoogaa", sum := "ae44c7bbeb2ca5306aa9fce85fdc814c40a74cdb940540f953b0a62a9fe91744", func := "handfast/handfastlaw03.SipSums", spec := "sipSums", apart := false, narrowed := true }
def SipSumsUptoSaid : Prop := sipSumsUptoRow.holds Try.pinned (OpenSpec.upto sipSumsSpec)

end Rows
end Go.Proofs.Ytkogaoilknoogaa
