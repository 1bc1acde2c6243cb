/- Numbers and contracts as trees, and the values that Go's interface values have. -/
import Derived.Test.YtapbkomicihkkaaDoorAsserts
import Derived.WalkKit
import Derived.WalkSpells
import Derived.WalkLawsBesides
import Derived.Lib.Hide
import Derived.RegionTactic
import Derived.BigRegion
import Derived.BigQuiet
import Derived.Deep.QuietTactic
import Derived.Outline
import Derived.Deep.RegionHeld3
namespace Go.Proofs.YtapbkomicihkkaaDoor
open Go.RowKit
set_option linter.unusedVariables false
set_option linter.unusedSimpArgs false

/-- A number that may come to be known; 'odd': an interface value that is none of api's. -/
inductive Ob where
  | const (n : Int)
  | fix (s : ByteArray)
  | add (l r : Ob)
  | neg (o : Ob)
  | mul (l r : Ob)
  | max (l r : Ob)
  | odd (v : Value)

def Ob.val : Ob → Value
  | .const n => .iface 39 (.agg #[.int .i64 n])
  | .fix s => .iface 37 (.agg #[.string s])
  | .add l r => .iface 60 (.agg #[l.val, r.val])
  | .neg o => .iface 42 (.agg #[o.val])
  | .mul l r => .iface 44 (.agg #[l.val, r.val])
  | .max l r => .iface 61 (.agg #[l.val, r.val])
  | .odd v => v

/-- No number of api's. -/
def OddO (v : Value) : Prop := v = .nilIface ∨ ∃ t x, v = .iface t x ∧ t ≠ 39 ∧ t ≠ 37 ∧ t ≠ 60 ∧ t ≠ 42 ∧ t ≠ 44 ∧ t ≠ 61

def Ob.ok : Ob → Prop
  | .const n => -9223372036854775808 ≤ n ∧ n < 9223372036854775808
  | .fix s => s.size ≤ 140737488351232
  | .add l r => l.ok ∧ r.ok
  | .neg o => o.ok
  | .mul l r => l.ok ∧ r.ok
  | .max l r => l.ok ∧ r.ok
  | .odd v => OddO v

def Ob.kind : Ob → Int
  | .const _ => 1
  | .fix _ => 2
  | .add _ _ => 3
  | .neg _ => 4
  | .mul _ _ => 5
  | .max _ _ => 6
  | .odd _ => 0

def Ob.kids : Ob → List Ob
  | .add l r => [l, r]
  | .mul l r => [l, r]
  | .max l r => [l, r]
  | .neg o => [o]
  | _ => []

/-- A contract; 'odd': an interface value that is none of api's. -/
inductive Tm where
  | zero
  | one (s : ByteArray)
  | give (t : Tm)
  | and (l r : Tm)
  | or (s : ByteArray) (l r : Tm)
  | scale (o : Ob) (t : Tm)
  | when_ (n : Int) (t : Tm)
  | if_ (o : Ob) (l r : Tm)
  | odd (v : Value)

def Tm.val : Tm → Value
  | .zero => .iface 46 (.agg #[])
  | .one s => .iface 49 (.agg #[.string s])
  | .give t => .iface 51 (.agg #[t.val])
  | .and l r => .iface 53 (.agg #[l.val, r.val])
  | .or s l r => .iface 55 (.agg #[.string s, l.val, r.val])
  | .scale o t => .iface 59 (.agg #[o.val, t.val])
  | .when_ n t => .iface 57 (.agg #[.int .i64 n, t.val])
  | .if_ o l r => .iface 63 (.agg #[o.val, l.val, r.val])
  | .odd v => v

/-- No contract of api's. -/
def OddT (v : Value) : Prop := v = .nilIface ∨ ∃ t x, v = .iface t x ∧ t ≠ 46 ∧ t ≠ 49 ∧ t ≠ 51 ∧ t ≠ 53 ∧ t ≠ 55 ∧ t ≠ 59 ∧ t ≠ 57 ∧ t ≠ 63

def Tm.ok : Tm → Prop
  | .zero => True
  | .one s => s.size ≤ 140737488351232
  | .give t => t.ok
  | .and l r => l.ok ∧ r.ok
  | .or s l r => s.size ≤ 140737488351232 ∧ l.ok ∧ r.ok
  | .scale o t => o.ok ∧ t.ok
  | .when_ n t => (-9223372036854775808 ≤ n ∧ n < 9223372036854775808) ∧ t.ok
  | .if_ o l r => o.ok ∧ l.ok ∧ r.ok
  | .odd v => OddT v

theorem OddO.shape {v : Value} (h : OddO v) : v = .nilIface ∨ ∃ t x, v = .iface t x := by
  rcases h with h | ⟨t, x, h, _⟩
  · exact .inl h
  · exact .inr ⟨t, x, h⟩
theorem OddT.shape {v : Value} (h : OddT v) : v = .nilIface ∨ ∃ t x, v = .iface t x := by
  rcases h with h | ⟨t, x, h, _⟩
  · exact .inl h
  · exact .inr ⟨t, x, h⟩
theorem Ob.shape (o : Ob) (h : o.ok) : o.val = .nilIface ∨ ∃ t x, o.val = .iface t x := by
  cases o <;> first | exact OddO.shape h | exact .inr ⟨_, _, rfl⟩
theorem Tm.shape (o : Tm) (h : o.ok) : o.val = .nilIface ∨ ∃ t x, o.val = .iface t x := by
  cases o <;> first | exact OddT.shape h | exact .inr ⟨_, _, rfl⟩
theorem Ob.one_ (o : Ob) (h : o.ok) : o.val.oneCell' = true := by
  rcases o.shape h with h | ⟨t, x, h⟩ <;> rw [h] <;> rfl
theorem Tm.one_ (o : Tm) (h : o.ok) : o.val.oneCell' = true := by
  rcases o.shape h with h | ⟨t, x, h⟩ <;> rw [h] <;> rfl
theorem Ob.cells_ (o : Ob) (h : o.ok) : o.val.cells = #[o.val] := by
  rcases o.shape h with h | ⟨t, x, h⟩ <;> rw [h] <;> rfl
theorem Tm.cells_ (o : Tm) (h : o.ok) : o.val.cells = #[o.val] := by
  rcases o.shape h with h | ⟨t, x, h⟩ <;> rw [h] <;> rfl
theorem run_store_ob {P : Program} {w : World} {a : Addr} {m : Mode} (o : Ob) (h : o.ok) : (store a o.val m).run P w = stored P w a o.val m := run_store P w a _ m (o.one_ h)
theorem run_store_tm {P : Program} {w : World} {a : Addr} {m : Mode} (o : Tm) (h : o.ok) : (store a o.val m).run P w = stored P w a o.val m := run_store P w a _ m (o.one_ h)
attribute [go_sem] Ob.cells_ Tm.cells_ run_store_ob run_store_tm
end Go.Proofs.YtapbkomicihkkaaDoor
