/- The events of EventFields. -/
import Derived.Test.YtgcglongjjpkbaaDoorEvent4
import Derived.Test.YtgcglongjjpkbaaDoorWakes6
import Derived.Deep.DeepCutAuto
import Derived.Deep.CutBlock
namespace Go.Proofs.YtgcglongjjpkbaaDoor
open Go.RowKit

theorem bl_set {w W : World} (h : Below w.heap.size w W) (g j : Nat) (hg : w.heap.size ≤ g) (v : Value) : Below w.heap.size w (W.setCell ⟨g, j, none⟩ v) := bl_grown h (gb_set j v) hg
def b1 (c : UInt8) : ByteArray := ⟨#[c]⟩
/-- The six good events. -/
def goodN : Nat → Ev
  | 0 => passE
  | 1 => ⟨2, b1 116, noS, noS, noS, 0, 0, .zero⟩
  | 2 => ⟨3, noS, b1 110, noS, noS, 1, -5, .odd .nilIface⟩
  | 3 => ⟨4, b1 116, noS, b1 108, noS, 0, 1, .odd .nilIface⟩
  | 4 => ⟨5, noS, noS, noS, noS, 4, 0, .odd .nilIface⟩
  | _ => ⟨6, noS, noS, noS, usdS, 2, 7, .odd .nilIface⟩
def goodA : Array Value := #[.int .i64 1, .string ⟨#[]⟩, .string ⟨#[]⟩, .string ⟨#[]⟩, .string ⟨#[]⟩, .int .i64 0, .int .i64 0, .nilIface,
  .int .i64 2, .string ⟨#[116]⟩, .string ⟨#[]⟩, .string ⟨#[]⟩, .string ⟨#[]⟩, .int .i64 0, .int .i64 0, .iface 53 (.agg #[]),
  .int .i64 3, .string ⟨#[]⟩, .string ⟨#[110]⟩, .string ⟨#[]⟩, .string ⟨#[]⟩, .int .i64 1, .int .i64 (-5), .nilIface,
  .int .i64 4, .string ⟨#[116]⟩, .string ⟨#[]⟩, .string ⟨#[108]⟩, .string ⟨#[]⟩, .int .i64 0, .int .i64 1, .nilIface,
  .int .i64 5, .string ⟨#[]⟩, .string ⟨#[]⟩, .string ⟨#[]⟩, .string ⟨#[]⟩, .int .i64 4, .int .i64 0, .nilIface,
  .int .i64 6, .string ⟨#[]⟩, .string ⟨#[]⟩, .string ⟨#[]⟩, .string ⟨#[117, 115, 100]⟩, .int .i64 2, .int .i64 7, .nilIface]
theorem goodA_at : ∀ m, m < 6 → goodA[m * 8]? = some (.int .i64 (goodN m).kind) ∧ goodA[m * 8 + 1]? = some (.string (goodN m).id) ∧ goodA[m * 8 + 2]? = some (.string (goodN m).name) ∧ goodA[m * 8 + 3]? = some (.string (goodN m).label) ∧ goodA[m * 8 + 4]? = some (.string (goodN m).cur)
    ∧ goodA[m * 8 + 5]? = some (.int .i64 (goodN m).day) ∧ goodA[m * 8 + 6]? = some (.int .i64 (goodN m).value) ∧ goodA[m * 8 + 7]? = some (goodN m).term.val
  | 0, _ => ⟨rfl, rfl, rfl, rfl, rfl, rfl, rfl, rfl⟩
  | 1, _ => ⟨rfl, rfl, rfl, rfl, rfl, rfl, rfl, rfl⟩
  | 2, _ => ⟨rfl, rfl, rfl, rfl, rfl, rfl, rfl, rfl⟩
  | 3, _ => ⟨rfl, rfl, rfl, rfl, rfl, rfl, rfl, rfl⟩
  | 4, _ => ⟨rfl, rfl, rfl, rfl, rfl, rfl, rfl, rfl⟩
  | 5, _ => ⟨rfl, rfl, rfl, rfl, rfl, rfl, rfl, rfl⟩
  | m + 6, h => by omega
theorem goodN_ok (m : Nat) : (goodN m).ok := by
  unfold goodN
  split
  · exact passE_ok
  all_goals exact ⟨by unfold IsInt64; decide, by unfold IsInt64; decide, by unfold IsInt64; decide, by first | exact .inl rfl | exact trivial⟩
theorem goodN_check : ∀ m, m < 6 → (goodN m).check = 0 ∧ (goodN m).same (goodN m) = true ∧ (goodN m).kind = (1 + m : Int) ∧ (goodN m).term.meas ≤ 10 := by decide +kernel
def fieldC : Nat → UInt8
  | 0 => 73 | 1 => 84 | 2 => 78 | 3 => 68 | 4 => 86 | 5 => 76 | _ => 67
/-- Whether the kind has the field. -/
def isN (m q : Nat) : Bool := (fieldsL (1 + m)).contains (fieldC q)
def badN (m q u : Nat) : Ev := let g := goodN m
  match q with
  | 0 => { g with id := b1 49 }
  | 1 => { g with term := .one noS }
  | 2 => { g with name := b1 65 }
  | 3 => { g with day := 10001 }
  | 4 => { g with value := if m = 3 then 2 + u else 1000000000001 }
  | 5 => { g with label := b1 32 }
  | _ => { g with cur := ⟨#[117, 115, 100, 33]⟩ }
def eurS : ByteArray := ⟨#[101, 117, 114]⟩
def otherN (m q : Nat) : Ev := let g := goodN m
  match q with
  | 0 => { g with id := b1 120 }
  | 1 => { g with term := .one eurS }
  | 2 => { g with name := b1 120 }
  | 3 => { g with day := 9 }
  | 4 => { g with value := if isN m 4 then 0 else 3 }
  | 5 => { g with label := b1 120 }
  | _ => { g with cur := b1 120 }
def wantN (m q : Nat) : Int := if q = 1 ∧ isN m 1 = true then 2 else 1
theorem other_pure : ∀ m, m < 6 → ∀ q, q < 7 → ((otherN m q).check == 0) = isN m q ∧ (goodN m).same (otherN m q) = false ∧ (otherN m q).term.meas ≤ 10 := by decide +kernel
theorem bad_pure : ∀ m, m < 6 → ∀ q, q < 7 → ∀ u, u < 100 → (badN m q u).check = wantN m q ∧ (badN m q u).term.meas ≤ 10 := by decide +kernel
theorem otherN_ok (m q : Nat) : (otherN m q).ok := by
  have h := goodN_ok m
  unfold otherN
  split
  all_goals first
    | exact ⟨h.1, h.2, h.3, h.4⟩
    | (refine ⟨h.1, h.2, h.3, ?_⟩; show ByteArray.size _ ≤ _; decide)
    | (refine ⟨h.1, ?_, h.3, h.4⟩; unfold IsInt64; dsimp only; decide)
    | (refine ⟨h.1, h.2, ?_, h.4⟩; unfold IsInt64; dsimp only; split <;> omega)
theorem badN_ok (m q u : Nat) (hu : u < 100) : (badN m q u).ok := by
  have h := goodN_ok m
  unfold badN
  split
  all_goals first
    | exact ⟨h.1, h.2, h.3, h.4⟩
    | (refine ⟨h.1, h.2, h.3, ?_⟩; show ByteArray.size _ ≤ _; decide)
    | (refine ⟨h.1, ?_, h.3, h.4⟩; unfold IsInt64; dsimp only; decide)
    | (refine ⟨h.1, h.2, ?_, h.4⟩; unfold IsInt64; dsimp only; split <;> omega)
end Go.Proofs.YtgcglongjjpkbaaDoor
