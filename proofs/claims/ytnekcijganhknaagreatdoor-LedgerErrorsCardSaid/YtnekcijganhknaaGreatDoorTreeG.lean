/- Names: runes that may stand in one. -/
import Derived.Test.YtnekcijganhknaaGreatDoorRows
import Derived.WalkKit
import Derived.WalkSpells
import Derived.WalkLawsBesides
import Derived.Lib.Hide
import Derived.RegionTactic
import Derived.BigRegion
import Derived.BigQuiet
import Derived.Deep.QuietTactic
import Derived.Outline
import Derived.Deep.RegionHeld3
import Derived.Test.YtnekcijganhknaaGreatDoorRd
namespace Go.Proofs.YtnekcijganhknaaGreatDoor
open Go.RowKit
set_option linter.unusedVariables false
set_option linter.unusedSimpArgs false

theorem as_yes_Const (v : Value) (s : TypeId) (w : World) : (Instr.typeAssert (.iface 26 v) s 26 true).run Tryz.prog w = .ok (.tuple #[v, .bool true]) w := by kernel_rfl
theorem as_one_Const (v : Value) (s : TypeId) (w : World) : (Instr.typeAssert (.iface 26 v) s 26 false).run Tryz.prog w = .ok v w := by kernel_rfl
theorem as_nil_Const (s : TypeId) (w : World) : (Instr.typeAssert .nilIface s 26 true).run Tryz.prog w = .ok (.tuple #[.agg #[.int .i64 0], .bool false]) w := by kernel_rfl
theorem as_zero_Const (w : World) : (zeroValue 26).run Tryz.prog w = .ok (.agg #[.int .i64 0]) w := by kernel_rfl
theorem as_no_Const (u : TypeId) (h : u ≠ 26) (v : Value) (s : TypeId) (w : World) : (Instr.typeAssert (.iface u v) s 26 true).run Tryz.prog w = .ok (.tuple #[.agg #[.int .i64 0], .bool false]) w := by
  simp [Instr.typeAssert, run_underlying Tryz.underlying26, h, as_zero_Const]
theorem mk_Const (v : Value) (w : World) : (Instr.makeInterface 26 v).run Tryz.prog w = .ok (.iface 26 v) w := by kernel_rfl
attribute [go_sem] as_yes_Const as_one_Const as_nil_Const as_no_Const mk_Const
theorem as_yes_Fix (v : Value) (s : TypeId) (w : World) : (Instr.typeAssert (.iface 34 v) s 34 true).run Tryz.prog w = .ok (.tuple #[v, .bool true]) w := by kernel_rfl
theorem as_one_Fix (v : Value) (s : TypeId) (w : World) : (Instr.typeAssert (.iface 34 v) s 34 false).run Tryz.prog w = .ok v w := by kernel_rfl
theorem as_nil_Fix (s : TypeId) (w : World) : (Instr.typeAssert .nilIface s 34 true).run Tryz.prog w = .ok (.tuple #[.agg #[.string ⟨#[]⟩], .bool false]) w := by kernel_rfl
theorem as_zero_Fix (w : World) : (zeroValue 34).run Tryz.prog w = .ok (.agg #[.string ⟨#[]⟩]) w := by kernel_rfl
theorem as_no_Fix (u : TypeId) (h : u ≠ 34) (v : Value) (s : TypeId) (w : World) : (Instr.typeAssert (.iface u v) s 34 true).run Tryz.prog w = .ok (.tuple #[.agg #[.string ⟨#[]⟩], .bool false]) w := by
  simp [Instr.typeAssert, run_underlying Tryz.underlying34, h, as_zero_Fix]
theorem mk_Fix (v : Value) (w : World) : (Instr.makeInterface 34 v).run Tryz.prog w = .ok (.iface 34 v) w := by kernel_rfl
attribute [go_sem] as_yes_Fix as_one_Fix as_nil_Fix as_no_Fix mk_Fix
theorem as_yes_Add (v : Value) (s : TypeId) (w : World) : (Instr.typeAssert (.iface 168 v) s 168 true).run Tryz.prog w = .ok (.tuple #[v, .bool true]) w := by kernel_rfl
theorem as_one_Add (v : Value) (s : TypeId) (w : World) : (Instr.typeAssert (.iface 168 v) s 168 false).run Tryz.prog w = .ok v w := by kernel_rfl
theorem as_nil_Add (s : TypeId) (w : World) : (Instr.typeAssert .nilIface s 168 true).run Tryz.prog w = .ok (.tuple #[.agg #[.nilIface, .nilIface], .bool false]) w := by kernel_rfl
theorem as_zero_Add (w : World) : (zeroValue 168).run Tryz.prog w = .ok (.agg #[.nilIface, .nilIface]) w := by kernel_rfl
theorem as_no_Add (u : TypeId) (h : u ≠ 168) (v : Value) (s : TypeId) (w : World) : (Instr.typeAssert (.iface u v) s 168 true).run Tryz.prog w = .ok (.tuple #[.agg #[.nilIface, .nilIface], .bool false]) w := by
  simp [Instr.typeAssert, run_underlying Tryz.underlying168, h, as_zero_Add]
theorem mk_Add (v : Value) (w : World) : (Instr.makeInterface 168 v).run Tryz.prog w = .ok (.iface 168 v) w := by kernel_rfl
attribute [go_sem] as_yes_Add as_one_Add as_nil_Add as_no_Add mk_Add
theorem as_yes_Neg (v : Value) (s : TypeId) (w : World) : (Instr.typeAssert (.iface 170 v) s 170 true).run Tryz.prog w = .ok (.tuple #[v, .bool true]) w := by kernel_rfl
theorem as_one_Neg (v : Value) (s : TypeId) (w : World) : (Instr.typeAssert (.iface 170 v) s 170 false).run Tryz.prog w = .ok v w := by kernel_rfl
theorem as_nil_Neg (s : TypeId) (w : World) : (Instr.typeAssert .nilIface s 170 true).run Tryz.prog w = .ok (.tuple #[.agg #[.nilIface], .bool false]) w := by kernel_rfl
theorem as_zero_Neg (w : World) : (zeroValue 170).run Tryz.prog w = .ok (.agg #[.nilIface]) w := by kernel_rfl
theorem as_no_Neg (u : TypeId) (h : u ≠ 170) (v : Value) (s : TypeId) (w : World) : (Instr.typeAssert (.iface u v) s 170 true).run Tryz.prog w = .ok (.tuple #[.agg #[.nilIface], .bool false]) w := by
  simp [Instr.typeAssert, run_underlying Tryz.underlying170, h, as_zero_Neg]
theorem mk_Neg (v : Value) (w : World) : (Instr.makeInterface 170 v).run Tryz.prog w = .ok (.iface 170 v) w := by kernel_rfl
attribute [go_sem] as_yes_Neg as_one_Neg as_nil_Neg as_no_Neg mk_Neg
theorem as_yes_Mul (v : Value) (s : TypeId) (w : World) : (Instr.typeAssert (.iface 36 v) s 36 true).run Tryz.prog w = .ok (.tuple #[v, .bool true]) w := by kernel_rfl
theorem as_one_Mul (v : Value) (s : TypeId) (w : World) : (Instr.typeAssert (.iface 36 v) s 36 false).run Tryz.prog w = .ok v w := by kernel_rfl
theorem as_nil_Mul (s : TypeId) (w : World) : (Instr.typeAssert .nilIface s 36 true).run Tryz.prog w = .ok (.tuple #[.agg #[.nilIface, .nilIface], .bool false]) w := by kernel_rfl
theorem as_zero_Mul (w : World) : (zeroValue 36).run Tryz.prog w = .ok (.agg #[.nilIface, .nilIface]) w := by kernel_rfl
theorem as_no_Mul (u : TypeId) (h : u ≠ 36) (v : Value) (s : TypeId) (w : World) : (Instr.typeAssert (.iface u v) s 36 true).run Tryz.prog w = .ok (.tuple #[.agg #[.nilIface, .nilIface], .bool false]) w := by
  simp [Instr.typeAssert, run_underlying Tryz.underlying36, h, as_zero_Mul]
theorem mk_Mul (v : Value) (w : World) : (Instr.makeInterface 36 v).run Tryz.prog w = .ok (.iface 36 v) w := by kernel_rfl
attribute [go_sem] as_yes_Mul as_one_Mul as_nil_Mul as_no_Mul mk_Mul
theorem as_yes_Max (v : Value) (s : TypeId) (w : World) : (Instr.typeAssert (.iface 171 v) s 171 true).run Tryz.prog w = .ok (.tuple #[v, .bool true]) w := by kernel_rfl
theorem as_one_Max (v : Value) (s : TypeId) (w : World) : (Instr.typeAssert (.iface 171 v) s 171 false).run Tryz.prog w = .ok v w := by kernel_rfl
theorem as_nil_Max (s : TypeId) (w : World) : (Instr.typeAssert .nilIface s 171 true).run Tryz.prog w = .ok (.tuple #[.agg #[.nilIface, .nilIface], .bool false]) w := by kernel_rfl
theorem as_zero_Max (w : World) : (zeroValue 171).run Tryz.prog w = .ok (.agg #[.nilIface, .nilIface]) w := by kernel_rfl
theorem as_no_Max (u : TypeId) (h : u ≠ 171) (v : Value) (s : TypeId) (w : World) : (Instr.typeAssert (.iface u v) s 171 true).run Tryz.prog w = .ok (.tuple #[.agg #[.nilIface, .nilIface], .bool false]) w := by
  simp [Instr.typeAssert, run_underlying Tryz.underlying171, h, as_zero_Max]
theorem mk_Max (v : Value) (w : World) : (Instr.makeInterface 171 v).run Tryz.prog w = .ok (.iface 171 v) w := by kernel_rfl
attribute [go_sem] as_yes_Max as_one_Max as_nil_Max as_no_Max mk_Max
theorem as_yes_Zero (v : Value) (s : TypeId) (w : World) : (Instr.typeAssert (.iface 90 v) s 90 true).run Tryz.prog w = .ok (.tuple #[v, .bool true]) w := by kernel_rfl
theorem as_one_Zero (v : Value) (s : TypeId) (w : World) : (Instr.typeAssert (.iface 90 v) s 90 false).run Tryz.prog w = .ok v w := by kernel_rfl
theorem as_nil_Zero (s : TypeId) (w : World) : (Instr.typeAssert .nilIface s 90 true).run Tryz.prog w = .ok (.tuple #[.agg #[], .bool false]) w := by kernel_rfl
theorem as_zero_Zero (w : World) : (zeroValue 90).run Tryz.prog w = .ok (.agg #[]) w := by kernel_rfl
theorem as_no_Zero (u : TypeId) (h : u ≠ 90) (v : Value) (s : TypeId) (w : World) : (Instr.typeAssert (.iface u v) s 90 true).run Tryz.prog w = .ok (.tuple #[.agg #[], .bool false]) w := by
  simp [Instr.typeAssert, run_underlying Tryz.underlying90, h, as_zero_Zero]
theorem mk_Zero (v : Value) (w : World) : (Instr.makeInterface 90 v).run Tryz.prog w = .ok (.iface 90 v) w := by kernel_rfl
attribute [go_sem] as_yes_Zero as_one_Zero as_nil_Zero as_no_Zero mk_Zero
theorem as_yes_One (v : Value) (s : TypeId) (w : World) : (Instr.typeAssert (.iface 28 v) s 28 true).run Tryz.prog w = .ok (.tuple #[v, .bool true]) w := by kernel_rfl
theorem as_one_One (v : Value) (s : TypeId) (w : World) : (Instr.typeAssert (.iface 28 v) s 28 false).run Tryz.prog w = .ok v w := by kernel_rfl
theorem as_nil_One (s : TypeId) (w : World) : (Instr.typeAssert .nilIface s 28 true).run Tryz.prog w = .ok (.tuple #[.agg #[.string ⟨#[]⟩], .bool false]) w := by kernel_rfl
theorem as_zero_One (w : World) : (zeroValue 28).run Tryz.prog w = .ok (.agg #[.string ⟨#[]⟩]) w := by kernel_rfl
theorem as_no_One (u : TypeId) (h : u ≠ 28) (v : Value) (s : TypeId) (w : World) : (Instr.typeAssert (.iface u v) s 28 true).run Tryz.prog w = .ok (.tuple #[.agg #[.string ⟨#[]⟩], .bool false]) w := by
  simp [Instr.typeAssert, run_underlying Tryz.underlying28, h, as_zero_One]
theorem mk_One (v : Value) (w : World) : (Instr.makeInterface 28 v).run Tryz.prog w = .ok (.iface 28 v) w := by kernel_rfl
attribute [go_sem] as_yes_One as_one_One as_nil_One as_no_One mk_One
theorem as_yes_Give (v : Value) (s : TypeId) (w : World) : (Instr.typeAssert (.iface 93 v) s 93 true).run Tryz.prog w = .ok (.tuple #[v, .bool true]) w := by kernel_rfl
theorem as_one_Give (v : Value) (s : TypeId) (w : World) : (Instr.typeAssert (.iface 93 v) s 93 false).run Tryz.prog w = .ok v w := by kernel_rfl
theorem as_nil_Give (s : TypeId) (w : World) : (Instr.typeAssert .nilIface s 93 true).run Tryz.prog w = .ok (.tuple #[.agg #[.nilIface], .bool false]) w := by kernel_rfl
theorem as_zero_Give (w : World) : (zeroValue 93).run Tryz.prog w = .ok (.agg #[.nilIface]) w := by kernel_rfl
theorem as_no_Give (u : TypeId) (h : u ≠ 93) (v : Value) (s : TypeId) (w : World) : (Instr.typeAssert (.iface u v) s 93 true).run Tryz.prog w = .ok (.tuple #[.agg #[.nilIface], .bool false]) w := by
  simp [Instr.typeAssert, run_underlying Tryz.underlying93, h, as_zero_Give]
theorem mk_Give (v : Value) (w : World) : (Instr.makeInterface 93 v).run Tryz.prog w = .ok (.iface 93 v) w := by kernel_rfl
attribute [go_sem] as_yes_Give as_one_Give as_nil_Give as_no_Give mk_Give
theorem as_yes_And (v : Value) (s : TypeId) (w : World) : (Instr.typeAssert (.iface 126 v) s 126 true).run Tryz.prog w = .ok (.tuple #[v, .bool true]) w := by kernel_rfl
theorem as_one_And (v : Value) (s : TypeId) (w : World) : (Instr.typeAssert (.iface 126 v) s 126 false).run Tryz.prog w = .ok v w := by kernel_rfl
theorem as_nil_And (s : TypeId) (w : World) : (Instr.typeAssert .nilIface s 126 true).run Tryz.prog w = .ok (.tuple #[.agg #[.nilIface, .nilIface], .bool false]) w := by kernel_rfl
theorem as_zero_And (w : World) : (zeroValue 126).run Tryz.prog w = .ok (.agg #[.nilIface, .nilIface]) w := by kernel_rfl
theorem as_no_And (u : TypeId) (h : u ≠ 126) (v : Value) (s : TypeId) (w : World) : (Instr.typeAssert (.iface u v) s 126 true).run Tryz.prog w = .ok (.tuple #[.agg #[.nilIface, .nilIface], .bool false]) w := by
  simp [Instr.typeAssert, run_underlying Tryz.underlying126, h, as_zero_And]
theorem mk_And (v : Value) (w : World) : (Instr.makeInterface 126 v).run Tryz.prog w = .ok (.iface 126 v) w := by kernel_rfl
attribute [go_sem] as_yes_And as_one_And as_nil_And as_no_And mk_And
theorem as_yes_Or (v : Value) (s : TypeId) (w : World) : (Instr.typeAssert (.iface 78 v) s 78 true).run Tryz.prog w = .ok (.tuple #[v, .bool true]) w := by kernel_rfl
theorem as_one_Or (v : Value) (s : TypeId) (w : World) : (Instr.typeAssert (.iface 78 v) s 78 false).run Tryz.prog w = .ok v w := by kernel_rfl
theorem as_nil_Or (s : TypeId) (w : World) : (Instr.typeAssert .nilIface s 78 true).run Tryz.prog w = .ok (.tuple #[.agg #[.string ⟨#[]⟩, .nilIface, .nilIface], .bool false]) w := by kernel_rfl
theorem as_zero_Or (w : World) : (zeroValue 78).run Tryz.prog w = .ok (.agg #[.string ⟨#[]⟩, .nilIface, .nilIface]) w := by kernel_rfl
theorem as_no_Or (u : TypeId) (h : u ≠ 78) (v : Value) (s : TypeId) (w : World) : (Instr.typeAssert (.iface u v) s 78 true).run Tryz.prog w = .ok (.tuple #[.agg #[.string ⟨#[]⟩, .nilIface, .nilIface], .bool false]) w := by
  simp [Instr.typeAssert, run_underlying Tryz.underlying78, h, as_zero_Or]
theorem mk_Or (v : Value) (w : World) : (Instr.makeInterface 78 v).run Tryz.prog w = .ok (.iface 78 v) w := by kernel_rfl
attribute [go_sem] as_yes_Or as_one_Or as_nil_Or as_no_Or mk_Or
theorem as_yes_Scale (v : Value) (s : TypeId) (w : World) : (Instr.typeAssert (.iface 32 v) s 32 true).run Tryz.prog w = .ok (.tuple #[v, .bool true]) w := by kernel_rfl
theorem as_one_Scale (v : Value) (s : TypeId) (w : World) : (Instr.typeAssert (.iface 32 v) s 32 false).run Tryz.prog w = .ok v w := by kernel_rfl
theorem as_nil_Scale (s : TypeId) (w : World) : (Instr.typeAssert .nilIface s 32 true).run Tryz.prog w = .ok (.tuple #[.agg #[.nilIface, .nilIface], .bool false]) w := by kernel_rfl
theorem as_zero_Scale (w : World) : (zeroValue 32).run Tryz.prog w = .ok (.agg #[.nilIface, .nilIface]) w := by kernel_rfl
theorem as_no_Scale (u : TypeId) (h : u ≠ 32) (v : Value) (s : TypeId) (w : World) : (Instr.typeAssert (.iface u v) s 32 true).run Tryz.prog w = .ok (.tuple #[.agg #[.nilIface, .nilIface], .bool false]) w := by
  simp [Instr.typeAssert, run_underlying Tryz.underlying32, h, as_zero_Scale]
theorem mk_Scale (v : Value) (w : World) : (Instr.makeInterface 32 v).run Tryz.prog w = .ok (.iface 32 v) w := by kernel_rfl
attribute [go_sem] as_yes_Scale as_one_Scale as_nil_Scale as_no_Scale mk_Scale
theorem as_yes_When (v : Value) (s : TypeId) (w : World) : (Instr.typeAssert (.iface 80 v) s 80 true).run Tryz.prog w = .ok (.tuple #[v, .bool true]) w := by kernel_rfl
theorem as_one_When (v : Value) (s : TypeId) (w : World) : (Instr.typeAssert (.iface 80 v) s 80 false).run Tryz.prog w = .ok v w := by kernel_rfl
theorem as_nil_When (s : TypeId) (w : World) : (Instr.typeAssert .nilIface s 80 true).run Tryz.prog w = .ok (.tuple #[.agg #[.int .i64 0, .nilIface], .bool false]) w := by kernel_rfl
theorem as_zero_When (w : World) : (zeroValue 80).run Tryz.prog w = .ok (.agg #[.int .i64 0, .nilIface]) w := by kernel_rfl
theorem as_no_When (u : TypeId) (h : u ≠ 80) (v : Value) (s : TypeId) (w : World) : (Instr.typeAssert (.iface u v) s 80 true).run Tryz.prog w = .ok (.tuple #[.agg #[.int .i64 0, .nilIface], .bool false]) w := by
  simp [Instr.typeAssert, run_underlying Tryz.underlying80, h, as_zero_When]
theorem mk_When (v : Value) (w : World) : (Instr.makeInterface 80 v).run Tryz.prog w = .ok (.iface 80 v) w := by kernel_rfl
attribute [go_sem] as_yes_When as_one_When as_nil_When as_no_When mk_When
theorem as_yes_If (v : Value) (s : TypeId) (w : World) : (Instr.typeAssert (.iface 129 v) s 129 true).run Tryz.prog w = .ok (.tuple #[v, .bool true]) w := by kernel_rfl
theorem as_one_If (v : Value) (s : TypeId) (w : World) : (Instr.typeAssert (.iface 129 v) s 129 false).run Tryz.prog w = .ok v w := by kernel_rfl
theorem as_nil_If (s : TypeId) (w : World) : (Instr.typeAssert .nilIface s 129 true).run Tryz.prog w = .ok (.tuple #[.agg #[.nilIface, .nilIface, .nilIface], .bool false]) w := by kernel_rfl
theorem as_zero_If (w : World) : (zeroValue 129).run Tryz.prog w = .ok (.agg #[.nilIface, .nilIface, .nilIface]) w := by kernel_rfl
theorem as_no_If (u : TypeId) (h : u ≠ 129) (v : Value) (s : TypeId) (w : World) : (Instr.typeAssert (.iface u v) s 129 true).run Tryz.prog w = .ok (.tuple #[.agg #[.nilIface, .nilIface, .nilIface], .bool false]) w := by
  simp [Instr.typeAssert, run_underlying Tryz.underlying129, h, as_zero_If]
theorem mk_If (v : Value) (w : World) : (Instr.makeInterface 129 v).run Tryz.prog w = .ok (.iface 129 v) w := by kernel_rfl
attribute [go_sem] as_yes_If as_one_If as_nil_If as_no_If mk_If
end Go.Proofs.YtnekcijganhknaaGreatDoor
namespace Go.Proofs.YtnekcijganhknaaGreatDoor
open Go.RowKit
set_option linter.unusedVariables false
set_option linter.unusedSimpArgs false

/-- A number that may come to be known; 'odd': an interface value that is none of api's. -/
inductive Ob where
  | const (n : Int)
  | fix (s : ByteArray)
  | add (l r : Ob)
  | neg (o : Ob)
  | mul (l r : Ob)
  | max (l r : Ob)
  | odd (v : Value)

def Ob.val : Ob → Value
  | .const n => .iface 26 (.agg #[.int .i64 n])
  | .fix s => .iface 34 (.agg #[.string s])
  | .add l r => .iface 168 (.agg #[l.val, r.val])
  | .neg o => .iface 170 (.agg #[o.val])
  | .mul l r => .iface 36 (.agg #[l.val, r.val])
  | .max l r => .iface 171 (.agg #[l.val, r.val])
  | .odd v => v

/-- No number of api's. -/
def OddO (v : Value) : Prop := v = .nilIface ∨ ∃ t x, v = .iface t x ∧ t ≠ 26 ∧ t ≠ 34 ∧ t ≠ 168 ∧ t ≠ 170 ∧ t ≠ 36 ∧ t ≠ 171

def Ob.ok : Ob → Prop
  | .const n => -9223372036854775808 ≤ n ∧ n < 9223372036854775808
  | .fix s => s.size ≤ 140737488351232
  | .add l r => l.ok ∧ r.ok
  | .neg o => o.ok
  | .mul l r => l.ok ∧ r.ok
  | .max l r => l.ok ∧ r.ok
  | .odd v => OddO v

def Ob.kind : Ob → Int
  | .const _ => 1
  | .fix _ => 2
  | .add _ _ => 3
  | .neg _ => 4
  | .mul _ _ => 5
  | .max _ _ => 6
  | .odd _ => 0

def Ob.kids : Ob → List Ob
  | .add l r => [l, r]
  | .mul l r => [l, r]
  | .max l r => [l, r]
  | .neg o => [o]
  | _ => []

set_option maxRecDepth 100000 in
set_option maxHeartbeats 400000 in
theorem obs_kind (o : Ob) (ho : o.ok) (w : World) :
    Calls Tryz.prog 123 #[o.val] w fun e w' => e = .returned (.int .i64 o.kind) ∧ w = w' := by
  cases o with
  | odd v =>
    rcases ho with h | ⟨t, x, h, h1, h2, h3, h4, h5, h6⟩
    · subst h
      unfold Ob.val
      go_enter Tryz.func123, Tryz.ntmps123
      go_wp2
      go_ret
      exact ⟨rfl, rfl⟩
    · subst h
      unfold Ob.val
      go_enter Tryz.func123, Tryz.ntmps123
      go_wp2
      go_ret
      exact ⟨rfl, rfl⟩
  | _ =>
    unfold Ob.val
    go_enter Tryz.func123, Tryz.ntmps123
    go_wp2
    go_ret
    exact ⟨rfl, rfl⟩

/-- A contract; 'odd': an interface value that is none of api's. -/
inductive Tm where
  | zero
  | one (s : ByteArray)
  | give (t : Tm)
  | and (l r : Tm)
  | or (s : ByteArray) (l r : Tm)
  | scale (o : Ob) (t : Tm)
  | when_ (n : Int) (t : Tm)
  | if_ (o : Ob) (l r : Tm)
  | odd (v : Value)

def Tm.val : Tm → Value
  | .zero => .iface 90 (.agg #[])
  | .one s => .iface 28 (.agg #[.string s])
  | .give t => .iface 93 (.agg #[t.val])
  | .and l r => .iface 126 (.agg #[l.val, r.val])
  | .or s l r => .iface 78 (.agg #[.string s, l.val, r.val])
  | .scale o t => .iface 32 (.agg #[o.val, t.val])
  | .when_ n t => .iface 80 (.agg #[.int .i64 n, t.val])
  | .if_ o l r => .iface 129 (.agg #[o.val, l.val, r.val])
  | .odd v => v

/-- No contract of api's. -/
def OddT (v : Value) : Prop := v = .nilIface ∨ ∃ t x, v = .iface t x ∧ t ≠ 90 ∧ t ≠ 28 ∧ t ≠ 93 ∧ t ≠ 126 ∧ t ≠ 78 ∧ t ≠ 32 ∧ t ≠ 80 ∧ t ≠ 129

def Tm.ok : Tm → Prop
  | .zero => True
  | .one s => s.size ≤ 140737488351232
  | .give t => t.ok
  | .and l r => l.ok ∧ r.ok
  | .or s l r => s.size ≤ 140737488351232 ∧ l.ok ∧ r.ok
  | .scale o t => o.ok ∧ t.ok
  | .when_ n t => (-9223372036854775808 ≤ n ∧ n < 9223372036854775808) ∧ t.ok
  | .if_ o l r => o.ok ∧ l.ok ∧ r.ok
  | .odd v => OddT v

theorem OddO.shape {v : Value} (h : OddO v) : v = .nilIface ∨ ∃ t x, v = .iface t x := by
  rcases h with h | ⟨t, x, h, _⟩
  · exact .inl h
  · exact .inr ⟨t, x, h⟩
theorem OddT.shape {v : Value} (h : OddT v) : v = .nilIface ∨ ∃ t x, v = .iface t x := by
  rcases h with h | ⟨t, x, h, _⟩
  · exact .inl h
  · exact .inr ⟨t, x, h⟩
theorem Ob.shape (o : Ob) (h : o.ok) : o.val = .nilIface ∨ ∃ t x, o.val = .iface t x := by
  cases o <;> first | exact OddO.shape h | exact .inr ⟨_, _, rfl⟩
theorem Tm.shape (o : Tm) (h : o.ok) : o.val = .nilIface ∨ ∃ t x, o.val = .iface t x := by
  cases o <;> first | exact OddT.shape h | exact .inr ⟨_, _, rfl⟩
theorem Ob.one_ (o : Ob) (h : o.ok) : o.val.oneCell' = true := by
  rcases o.shape h with h | ⟨t, x, h⟩ <;> rw [h] <;> rfl
theorem Tm.one_ (o : Tm) (h : o.ok) : o.val.oneCell' = true := by
  rcases o.shape h with h | ⟨t, x, h⟩ <;> rw [h] <;> rfl
theorem Ob.cells_ (o : Ob) (h : o.ok) : o.val.cells = #[o.val] := by
  rcases o.shape h with h | ⟨t, x, h⟩ <;> rw [h] <;> rfl
theorem Tm.cells_ (o : Tm) (h : o.ok) : o.val.cells = #[o.val] := by
  rcases o.shape h with h | ⟨t, x, h⟩ <;> rw [h] <;> rfl
theorem run_store_ob {P : Program} {w : World} {a : Addr} {m : Mode} (o : Ob) (h : o.ok) : (store a o.val m).run P w = stored P w a o.val m := run_store P w a _ m (o.one_ h)
theorem run_store_tm {P : Program} {w : World} {a : Addr} {m : Mode} (o : Tm) (h : o.ok) : (store a o.val m).run P w = stored P w a o.val m := run_store P w a _ m (o.one_ h)
attribute [go_sem] Ob.cells_ Tm.cells_ run_store_ob run_store_tm
end Go.Proofs.YtnekcijganhknaaGreatDoor
namespace Go.Proofs.YtnekcijganhknaaGreatDoor
open Go.RowKit
set_option linter.unusedVariables false
set_option linter.unusedSimpArgs false

theorem ret_bool {a b : Bool} (h : a = b) : Ending.returned (.bool a) = .returned (.bool b) := by rw [h]
theorem ret_int {k : IntKind} {a b : Int} (h : a = b) : Ending.returned (.int k a) = .returned (.int k b) := by rw [h]
def digitB (r : Int) : Bool := decide (48 ≤ r ∧ r ≤ 57)
def letterB (r : Int) : Bool := decide ((97 ≤ r ∧ r ≤ 122) ∨ (48 ≤ r ∧ r ≤ 57) ∨ r = 95 ∨ (128 ≤ r ∧ r ≠ 65533))
theorem digit_calls (r : Int) (w : World) :
    Calls Tryz.prog 97 #[.int .i32 r] w fun e w' => e = .returned (.bool (digitB r)) ∧ w' = w := by
  unfold digitB
  by_cases h1 : 48 ≤ r
  · by_cases h2 : r ≤ 57
    · have hd : decide (48 ≤ r ∧ r ≤ 57) = true := by simp; omega
      rw [hd]
      go_enter Tryz.func97, Tryz.ntmps97
      go_wp2
      go_ret
      exact ⟨rfl, rfl⟩
    · have hd : decide (48 ≤ r ∧ r ≤ 57) = false := by simp; omega
      rw [hd]
      have h3 : decide (r ≤ 57) = false := by simp; omega
      go_enter Tryz.func97, Tryz.ntmps97
      go_wp2
      go_ret
      exact ⟨rfl, rfl⟩
  · have hd : decide (48 ≤ r ∧ r ≤ 57) = false := by simp; omega
    rw [hd]
    have h3 : decide (48 ≤ r) = false := by simp; omega
    go_enter Tryz.func97, Tryz.ntmps97
    go_wp2
    go_ret
    exact ⟨rfl, rfl⟩
theorem letter_calls (r : Int) (w : World) :
    Calls Tryz.prog 96 #[.int .i32 r] w fun e w' => e = .returned (.bool (letterB r)) ∧ w' = w := by
  go_enter Tryz.func96, Tryz.ntmps96
  go_wp2_with (go_at_call 97; refine (digit_calls _ _).mono ?_; rintro e w' ⟨rfl, rfl⟩)
  all_goals go_ret
  all_goals
    refine ⟨ret_bool ?_, rfl⟩
    rw [Bool.eq_iff_iff]
    simp [letterB, digitB] at *
    try omega
theorem letter_range {r : Int} (h : letterB r = true) : digitB r = true ∨ letterB r = true := .inr h

/-- The runes of a text from a place on, as a range tells them. -/
def runesF (s : ByteArray) : Nat → Nat → List Int
  | 0, _ => []
  | b + 1, pos => if pos < s.size then ((Utf8.decode s pos).1 : Int) :: runesF s b (pos + (Utf8.decode s pos).2) else []
def runesL (s : ByteArray) : List Int := runesF s s.size 0
theorem width_pos (s : ByteArray) (pos : Nat) (h : pos < s.size) : 1 ≤ (Utf8.decode s pos).2 := by
  by_cases ha : (s[pos]'h).toNat < 128
  · rw [decode_ascii s pos h ha]
    exact Nat.le_refl _
  · exact (decode_high s pos h (by omega)).2
theorem runesF_end (s : ByteArray) (b pos : Nat) (h : ¬ pos < s.size) : runesF s b pos = [] := by
  cases b with
  | zero => rfl
  | succ b => simp [runesF, h]
theorem runesF_step (s : ByteArray) (b pos : Nat) (h : pos < s.size) : runesF s (b + 1) pos = ((Utf8.decode s pos).1 : Int) :: runesF s b (pos + (Utf8.decode s pos).2) := by
  simp [runesF, h]
theorem runesF_length (s : ByteArray) : ∀ b pos, (runesF s b pos).length ≤ b
  | 0, _ => by simp [runesF]
  | b + 1, pos => by
    unfold runesF
    split
    · have := runesF_length s b (pos + (Utf8.decode s pos).2)
      simp; omega
    · simp
/-- The rest of a name, n runes being before it. -/
def nameF : Nat → List Int → Bool
  | n, [] => decide (0 < n)
  | n, r :: l => if !letterB r || (n == 0 && digitB r) || decide (12 < n + 1) then false else nameF (n + 1) l
def nameB (s : ByteArray) : Bool := nameF 0 (runesL s)
set_option maxRecDepth 100000 in
set_option maxHeartbeats 400000 in
theorem name_calls (s : ByteArray) (w : World) :
    Calls Tryz.prog 61 #[.string s] w fun e w' => e = .returned (.bool (nameB s)) ∧ Below w.heap.size w w' := by
  go_enter Tryz.func61, Tryz.ntmps61
  go_wp2
  go_loopw [3] (fun n wr => ∃ (pos b m : Nat), wr = w.iter s pos ∧ n = .int .i64 m ∧ m ≤ 12 ∧ nameF m (runesF s b pos) = nameB s ∧ s.size ≤ pos + b) (fun _ wr => s.size - wr.iterPos w.heap.size)
  case atStart => exact ⟨0, s.size, 0, rfl, rfl, by omega, rfl, by omega⟩
  case round =>
    obtain ⟨pos, b, m, rfl, rfl, hm, hc, hb⟩ := hrel
    have hbel : ∀ p, Below w.heap.size w (w.iter s p) := fun p => bl_alloc (bl_refl w) _
    have HC := Lib.hid hc
    clear hc
    by_cases hp : pos < s.size
    · have hwd := width_pos s pos hp
      have hnx : ∀ ty, (Instr.next (.pointer (some ⟨w.heap.size, 0, none⟩)) true ty).run Tryz.prog (w.iter s pos) = _ := fun ty => run_next_any w s pos ty hp
      obtain ⟨b, rfl⟩ : ∃ c, b = c + 1 := ⟨b - 1, by omega⟩
      have hs := runesF_step s b pos hp
      have HS := Lib.hid hs
      clear hs
      go_wp2_with (first | (go_at_call 96; refine (letter_calls _ _).mono ?_; rintro e w' ⟨rfl, rfl⟩) | (go_at_call 97; refine (digit_calls _ _).mono ?_; rintro e w' ⟨rfl, rfl⟩))
      all_goals have hc := HC.out
      all_goals rw [HS.out] at hc
      all_goals generalize hR : runesF s b (pos + (Utf8.decode s pos).2) = R at hc
      all_goals generalize hr : ((Utf8.decode s pos).1 : Int) = r at *
      · go_ret
        refine ⟨ret_bool ?_, hbel _⟩
        rw [← hc]
        have hm0 : m = 0 := by omega
        subst hm0
        have hd : digitB r = true := by assumption
        simp [nameF, hd]
      · have hm0 : m = 0 := by omega
        subst hm0
        have hl : letterB r = true := by assumption
        have hd : digitB r = false := by simpa using ‹¬digitB r = true›
        refine ⟨⟨_, b, 1, rfl, rfl, by omega, ?_, by omega⟩, ?_⟩
        · rw [hR, ← hc]
          simp [nameF, hl, hd]
        · simp; omega
      · go_ret
        refine ⟨ret_bool ?_, hbel _⟩
        rw [← hc]
        have hm0 : decide (12 < m + 1) = true := by simp; omega
        simp only [nameF, hm0]; simp
      · have hm0 : decide (12 < m + 1) = false := by simp; omega
        have hm1 : (m == 0) = false := by simp; omega
        have hl : letterB r = true := by assumption
        refine ⟨⟨_, b, m + 1, rfl, by go_num, by omega, ?_, by omega⟩, ?_⟩
        · rw [hR, ← hc]
          simp only [nameF, hm0, hm1, hl]; simp
        · simp; omega
      · go_ret
        refine ⟨ret_bool ?_, hbel _⟩
        rw [← hc]
        have hl : letterB r = false := by simpa using ‹¬letterB r = true›
        simp [nameF, hl]
    · have hnx : ∀ ty, (Instr.next (.pointer (some ⟨w.heap.size, 0, none⟩)) true ty).run Tryz.prog (w.iter s pos) = _ := fun ty => run_next_end w s pos ty hp
      go_wp2
      go_ret
      have := HC.out
      rw [runesF_end s b pos hp] at this
      refine ⟨ret_bool ?_, hbel _⟩
      rw [← this]
      simp [nameF]
end Go.Proofs.YtnekcijganhknaaGreatDoor
