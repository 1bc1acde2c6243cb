/- A command's event: its names; what it may be. -/
import Derived.Test.YtapbkomicihkkaaDoorPlan1
import Derived.Test.YtapbkomicihkkaaDoorEvent1
import Derived.Test.YtapbkomicihkkaaDoorDigits
namespace Go.Proofs.YtapbkomicihkkaaDoor
open Go.RowKit
set_option linter.unusedVariables false
set_option linter.unusedSimpArgs false

def nameS (u : Nat) : ByteArray := ⟨#[116]⟩ ++ ⟨#[UInt8.ofNat (97 + u)]⟩
theorem nameS_size (u : Nat) : (nameS u).size = 2 := by simp [nameS]; rfl
/-- A command: its numbers, its word; its plan beside it. -/
structure Cm where
  kind : Int
  a : Int
  b : Int
  day : Int
  value : Int
  word : ByteArray
structure Cm.ok (c : Cm) : Prop where
  kind : IsInt64 c.kind
  a : IsInt64 c.a
  b : IsInt64 c.b
  day : IsInt64 c.day
  value : IsInt64 c.value
  word : c.word.size ≤ 9223372036854775807
def Cm.val (c : Cm) (vN vW : Value) : Value := .agg #[.int .i64 c.kind, .int .i64 c.a, .int .i64 c.b, .int .i64 c.day, .int .i64 c.value, .string c.word, vN, vW]
def Cm.cells (c : Cm) (vN vW : Value) : Array Value := #[.int .i64 c.kind, .int .i64 c.a, .int .i64 c.b, .int .i64 c.day, .int .i64 c.value, .string c.word, vN, vW]
/-- A term that a command gives: none, or a plan's contract. -/
def Tm.fit (t : Tm) : Prop := t = .odd .nilIface ∨ (t.fine ∧ t.parts ≤ 34)
theorem Tm.fit.ok {t : Tm} (h : t.fit) : t.ok := by
  rcases h with rfl | h
  · exact .inl rfl
  · exact h.1.ok
/-- An event that a command gives. -/
structure Ev.fit (e : Ev) : Prop where
  kind : 0 ≤ e.kind ∧ e.kind ≤ 8
  id : e.id.size ≤ 100
  name : e.name.size ≤ 100
  label : e.label.size ≤ 100
  cur : e.cur.size ≤ 100
  day : IsInt64 e.day
  value : IsInt64 e.value
  term : e.term.fit
/-- The document's event in memory. -/
def EvAt (x : Nat) (w : World) (e : Ev) (v : Value) : Prop := ∃ c0 c1 c2 c3, v = .agg #[.int .i64 e.kind, .string e.id, .string e.name, .string e.label, .string e.cur, .int .i64 e.day, .int .i64 e.value, c0, c1, c2, c3] ∧ TrAt x w e.term.tr (.agg #[c0, c1, c2, c3])
theorem EvAt.below {x : Nat} {w w' : World} {e : Ev} {v : Value} (h : EvAt x w e v) (hb : Below w.heap.size w w') : EvAt x w' e v := by
  obtain ⟨c0, c1, c2, c3, h1, h2⟩ := h
  exact ⟨c0, c1, c2, c3, h1, h2.below hb⟩
theorem EvAt.mono {x y : Nat} {w : World} {e : Ev} {v : Value} (h : EvAt x w e v) (hx : y ≤ x) : EvAt y w e v := by
  obtain ⟨c0, c1, c2, c3, h1, h2⟩ := h
  exact ⟨c0, c1, c2, c3, h1, h2.mono hx⟩
def GivesEv (w : World) (e : Ending) (w' : World) : Prop := ∃ (v : Ev) (x : Value), e = .returned x ∧ EvAt w.heap.size w' v x ∧ v.fit ∧ Below w.heap.size w w'
end Go.Proofs.YtapbkomicihkkaaDoor
