/- What a type assertion to each struct type of package api answers, over this translation. -/
import Derived.Test.YtapbkomicihkkaaDoorRows
import Derived.WalkKit
namespace Go.Proofs.YtapbkomicihkkaaDoor
open Go.RowKit
set_option linter.unusedVariables false
set_option linter.unusedSimpArgs false

theorem as_yes_Const (v : Value) (s : TypeId) (w : World) : (Instr.typeAssert (.iface 39 v) s 39 true).run Tryd.prog w = .ok (.tuple #[v, .bool true]) w := by kernel_rfl
theorem as_one_Const (v : Value) (s : TypeId) (w : World) : (Instr.typeAssert (.iface 39 v) s 39 false).run Tryd.prog w = .ok v w := by kernel_rfl
theorem as_nil_Const (s : TypeId) (w : World) : (Instr.typeAssert .nilIface s 39 true).run Tryd.prog w = .ok (.tuple #[.agg #[.int .i64 0], .bool false]) w := by kernel_rfl
theorem as_zero_Const (w : World) : (zeroValue 39).run Tryd.prog w = .ok (.agg #[.int .i64 0]) w := by kernel_rfl
theorem as_no_Const (u : TypeId) (h : u ≠ 39) (v : Value) (s : TypeId) (w : World) : (Instr.typeAssert (.iface u v) s 39 true).run Tryd.prog w = .ok (.tuple #[.agg #[.int .i64 0], .bool false]) w := by
  simp [Instr.typeAssert, run_underlying Tryd.underlying39, h, as_zero_Const]
theorem mk_Const (v : Value) (w : World) : (Instr.makeInterface 39 v).run Tryd.prog w = .ok (.iface 39 v) w := by kernel_rfl
attribute [go_sem] as_yes_Const as_one_Const as_nil_Const as_no_Const mk_Const
theorem as_yes_Fix (v : Value) (s : TypeId) (w : World) : (Instr.typeAssert (.iface 37 v) s 37 true).run Tryd.prog w = .ok (.tuple #[v, .bool true]) w := by kernel_rfl
theorem as_one_Fix (v : Value) (s : TypeId) (w : World) : (Instr.typeAssert (.iface 37 v) s 37 false).run Tryd.prog w = .ok v w := by kernel_rfl
theorem as_nil_Fix (s : TypeId) (w : World) : (Instr.typeAssert .nilIface s 37 true).run Tryd.prog w = .ok (.tuple #[.agg #[.string ⟨#[]⟩], .bool false]) w := by kernel_rfl
theorem as_zero_Fix (w : World) : (zeroValue 37).run Tryd.prog w = .ok (.agg #[.string ⟨#[]⟩]) w := by kernel_rfl
theorem as_no_Fix (u : TypeId) (h : u ≠ 37) (v : Value) (s : TypeId) (w : World) : (Instr.typeAssert (.iface u v) s 37 true).run Tryd.prog w = .ok (.tuple #[.agg #[.string ⟨#[]⟩], .bool false]) w := by
  simp [Instr.typeAssert, run_underlying Tryd.underlying37, h, as_zero_Fix]
theorem mk_Fix (v : Value) (w : World) : (Instr.makeInterface 37 v).run Tryd.prog w = .ok (.iface 37 v) w := by kernel_rfl
attribute [go_sem] as_yes_Fix as_one_Fix as_nil_Fix as_no_Fix mk_Fix
theorem as_yes_Add (v : Value) (s : TypeId) (w : World) : (Instr.typeAssert (.iface 60 v) s 60 true).run Tryd.prog w = .ok (.tuple #[v, .bool true]) w := by kernel_rfl
theorem as_one_Add (v : Value) (s : TypeId) (w : World) : (Instr.typeAssert (.iface 60 v) s 60 false).run Tryd.prog w = .ok v w := by kernel_rfl
theorem as_nil_Add (s : TypeId) (w : World) : (Instr.typeAssert .nilIface s 60 true).run Tryd.prog w = .ok (.tuple #[.agg #[.nilIface, .nilIface], .bool false]) w := by kernel_rfl
theorem as_zero_Add (w : World) : (zeroValue 60).run Tryd.prog w = .ok (.agg #[.nilIface, .nilIface]) w := by kernel_rfl
theorem as_no_Add (u : TypeId) (h : u ≠ 60) (v : Value) (s : TypeId) (w : World) : (Instr.typeAssert (.iface u v) s 60 true).run Tryd.prog w = .ok (.tuple #[.agg #[.nilIface, .nilIface], .bool false]) w := by
  simp [Instr.typeAssert, run_underlying Tryd.underlying60, h, as_zero_Add]
theorem mk_Add (v : Value) (w : World) : (Instr.makeInterface 60 v).run Tryd.prog w = .ok (.iface 60 v) w := by kernel_rfl
attribute [go_sem] as_yes_Add as_one_Add as_nil_Add as_no_Add mk_Add
theorem as_yes_Neg (v : Value) (s : TypeId) (w : World) : (Instr.typeAssert (.iface 42 v) s 42 true).run Tryd.prog w = .ok (.tuple #[v, .bool true]) w := by kernel_rfl
theorem as_one_Neg (v : Value) (s : TypeId) (w : World) : (Instr.typeAssert (.iface 42 v) s 42 false).run Tryd.prog w = .ok v w := by kernel_rfl
theorem as_nil_Neg (s : TypeId) (w : World) : (Instr.typeAssert .nilIface s 42 true).run Tryd.prog w = .ok (.tuple #[.agg #[.nilIface], .bool false]) w := by kernel_rfl
theorem as_zero_Neg (w : World) : (zeroValue 42).run Tryd.prog w = .ok (.agg #[.nilIface]) w := by kernel_rfl
theorem as_no_Neg (u : TypeId) (h : u ≠ 42) (v : Value) (s : TypeId) (w : World) : (Instr.typeAssert (.iface u v) s 42 true).run Tryd.prog w = .ok (.tuple #[.agg #[.nilIface], .bool false]) w := by
  simp [Instr.typeAssert, run_underlying Tryd.underlying42, h, as_zero_Neg]
theorem mk_Neg (v : Value) (w : World) : (Instr.makeInterface 42 v).run Tryd.prog w = .ok (.iface 42 v) w := by kernel_rfl
attribute [go_sem] as_yes_Neg as_one_Neg as_nil_Neg as_no_Neg mk_Neg
theorem as_yes_Mul (v : Value) (s : TypeId) (w : World) : (Instr.typeAssert (.iface 44 v) s 44 true).run Tryd.prog w = .ok (.tuple #[v, .bool true]) w := by kernel_rfl
theorem as_one_Mul (v : Value) (s : TypeId) (w : World) : (Instr.typeAssert (.iface 44 v) s 44 false).run Tryd.prog w = .ok v w := by kernel_rfl
theorem as_nil_Mul (s : TypeId) (w : World) : (Instr.typeAssert .nilIface s 44 true).run Tryd.prog w = .ok (.tuple #[.agg #[.nilIface, .nilIface], .bool false]) w := by kernel_rfl
theorem as_zero_Mul (w : World) : (zeroValue 44).run Tryd.prog w = .ok (.agg #[.nilIface, .nilIface]) w := by kernel_rfl
theorem as_no_Mul (u : TypeId) (h : u ≠ 44) (v : Value) (s : TypeId) (w : World) : (Instr.typeAssert (.iface u v) s 44 true).run Tryd.prog w = .ok (.tuple #[.agg #[.nilIface, .nilIface], .bool false]) w := by
  simp [Instr.typeAssert, run_underlying Tryd.underlying44, h, as_zero_Mul]
theorem mk_Mul (v : Value) (w : World) : (Instr.makeInterface 44 v).run Tryd.prog w = .ok (.iface 44 v) w := by kernel_rfl
attribute [go_sem] as_yes_Mul as_one_Mul as_nil_Mul as_no_Mul mk_Mul
theorem as_yes_Max (v : Value) (s : TypeId) (w : World) : (Instr.typeAssert (.iface 61 v) s 61 true).run Tryd.prog w = .ok (.tuple #[v, .bool true]) w := by kernel_rfl
theorem as_one_Max (v : Value) (s : TypeId) (w : World) : (Instr.typeAssert (.iface 61 v) s 61 false).run Tryd.prog w = .ok v w := by kernel_rfl
theorem as_nil_Max (s : TypeId) (w : World) : (Instr.typeAssert .nilIface s 61 true).run Tryd.prog w = .ok (.tuple #[.agg #[.nilIface, .nilIface], .bool false]) w := by kernel_rfl
theorem as_zero_Max (w : World) : (zeroValue 61).run Tryd.prog w = .ok (.agg #[.nilIface, .nilIface]) w := by kernel_rfl
theorem as_no_Max (u : TypeId) (h : u ≠ 61) (v : Value) (s : TypeId) (w : World) : (Instr.typeAssert (.iface u v) s 61 true).run Tryd.prog w = .ok (.tuple #[.agg #[.nilIface, .nilIface], .bool false]) w := by
  simp [Instr.typeAssert, run_underlying Tryd.underlying61, h, as_zero_Max]
theorem mk_Max (v : Value) (w : World) : (Instr.makeInterface 61 v).run Tryd.prog w = .ok (.iface 61 v) w := by kernel_rfl
attribute [go_sem] as_yes_Max as_one_Max as_nil_Max as_no_Max mk_Max
theorem as_yes_Zero (v : Value) (s : TypeId) (w : World) : (Instr.typeAssert (.iface 46 v) s 46 true).run Tryd.prog w = .ok (.tuple #[v, .bool true]) w := by kernel_rfl
theorem as_one_Zero (v : Value) (s : TypeId) (w : World) : (Instr.typeAssert (.iface 46 v) s 46 false).run Tryd.prog w = .ok v w := by kernel_rfl
theorem as_nil_Zero (s : TypeId) (w : World) : (Instr.typeAssert .nilIface s 46 true).run Tryd.prog w = .ok (.tuple #[.agg #[], .bool false]) w := by kernel_rfl
theorem as_zero_Zero (w : World) : (zeroValue 46).run Tryd.prog w = .ok (.agg #[]) w := by kernel_rfl
theorem as_no_Zero (u : TypeId) (h : u ≠ 46) (v : Value) (s : TypeId) (w : World) : (Instr.typeAssert (.iface u v) s 46 true).run Tryd.prog w = .ok (.tuple #[.agg #[], .bool false]) w := by
  simp [Instr.typeAssert, run_underlying Tryd.underlying46, h, as_zero_Zero]
theorem mk_Zero (v : Value) (w : World) : (Instr.makeInterface 46 v).run Tryd.prog w = .ok (.iface 46 v) w := by kernel_rfl
attribute [go_sem] as_yes_Zero as_one_Zero as_nil_Zero as_no_Zero mk_Zero
theorem as_yes_One (v : Value) (s : TypeId) (w : World) : (Instr.typeAssert (.iface 49 v) s 49 true).run Tryd.prog w = .ok (.tuple #[v, .bool true]) w := by kernel_rfl
theorem as_one_One (v : Value) (s : TypeId) (w : World) : (Instr.typeAssert (.iface 49 v) s 49 false).run Tryd.prog w = .ok v w := by kernel_rfl
theorem as_nil_One (s : TypeId) (w : World) : (Instr.typeAssert .nilIface s 49 true).run Tryd.prog w = .ok (.tuple #[.agg #[.string ⟨#[]⟩], .bool false]) w := by kernel_rfl
theorem as_zero_One (w : World) : (zeroValue 49).run Tryd.prog w = .ok (.agg #[.string ⟨#[]⟩]) w := by kernel_rfl
theorem as_no_One (u : TypeId) (h : u ≠ 49) (v : Value) (s : TypeId) (w : World) : (Instr.typeAssert (.iface u v) s 49 true).run Tryd.prog w = .ok (.tuple #[.agg #[.string ⟨#[]⟩], .bool false]) w := by
  simp [Instr.typeAssert, run_underlying Tryd.underlying49, h, as_zero_One]
theorem mk_One (v : Value) (w : World) : (Instr.makeInterface 49 v).run Tryd.prog w = .ok (.iface 49 v) w := by kernel_rfl
attribute [go_sem] as_yes_One as_one_One as_nil_One as_no_One mk_One
theorem as_yes_Give (v : Value) (s : TypeId) (w : World) : (Instr.typeAssert (.iface 51 v) s 51 true).run Tryd.prog w = .ok (.tuple #[v, .bool true]) w := by kernel_rfl
theorem as_one_Give (v : Value) (s : TypeId) (w : World) : (Instr.typeAssert (.iface 51 v) s 51 false).run Tryd.prog w = .ok v w := by kernel_rfl
theorem as_nil_Give (s : TypeId) (w : World) : (Instr.typeAssert .nilIface s 51 true).run Tryd.prog w = .ok (.tuple #[.agg #[.nilIface], .bool false]) w := by kernel_rfl
theorem as_zero_Give (w : World) : (zeroValue 51).run Tryd.prog w = .ok (.agg #[.nilIface]) w := by kernel_rfl
theorem as_no_Give (u : TypeId) (h : u ≠ 51) (v : Value) (s : TypeId) (w : World) : (Instr.typeAssert (.iface u v) s 51 true).run Tryd.prog w = .ok (.tuple #[.agg #[.nilIface], .bool false]) w := by
  simp [Instr.typeAssert, run_underlying Tryd.underlying51, h, as_zero_Give]
theorem mk_Give (v : Value) (w : World) : (Instr.makeInterface 51 v).run Tryd.prog w = .ok (.iface 51 v) w := by kernel_rfl
attribute [go_sem] as_yes_Give as_one_Give as_nil_Give as_no_Give mk_Give
theorem as_yes_And (v : Value) (s : TypeId) (w : World) : (Instr.typeAssert (.iface 53 v) s 53 true).run Tryd.prog w = .ok (.tuple #[v, .bool true]) w := by kernel_rfl
theorem as_one_And (v : Value) (s : TypeId) (w : World) : (Instr.typeAssert (.iface 53 v) s 53 false).run Tryd.prog w = .ok v w := by kernel_rfl
theorem as_nil_And (s : TypeId) (w : World) : (Instr.typeAssert .nilIface s 53 true).run Tryd.prog w = .ok (.tuple #[.agg #[.nilIface, .nilIface], .bool false]) w := by kernel_rfl
theorem as_zero_And (w : World) : (zeroValue 53).run Tryd.prog w = .ok (.agg #[.nilIface, .nilIface]) w := by kernel_rfl
theorem as_no_And (u : TypeId) (h : u ≠ 53) (v : Value) (s : TypeId) (w : World) : (Instr.typeAssert (.iface u v) s 53 true).run Tryd.prog w = .ok (.tuple #[.agg #[.nilIface, .nilIface], .bool false]) w := by
  simp [Instr.typeAssert, run_underlying Tryd.underlying53, h, as_zero_And]
theorem mk_And (v : Value) (w : World) : (Instr.makeInterface 53 v).run Tryd.prog w = .ok (.iface 53 v) w := by kernel_rfl
attribute [go_sem] as_yes_And as_one_And as_nil_And as_no_And mk_And
theorem as_yes_Or (v : Value) (s : TypeId) (w : World) : (Instr.typeAssert (.iface 55 v) s 55 true).run Tryd.prog w = .ok (.tuple #[v, .bool true]) w := by kernel_rfl
theorem as_one_Or (v : Value) (s : TypeId) (w : World) : (Instr.typeAssert (.iface 55 v) s 55 false).run Tryd.prog w = .ok v w := by kernel_rfl
theorem as_nil_Or (s : TypeId) (w : World) : (Instr.typeAssert .nilIface s 55 true).run Tryd.prog w = .ok (.tuple #[.agg #[.string ⟨#[]⟩, .nilIface, .nilIface], .bool false]) w := by kernel_rfl
theorem as_zero_Or (w : World) : (zeroValue 55).run Tryd.prog w = .ok (.agg #[.string ⟨#[]⟩, .nilIface, .nilIface]) w := by kernel_rfl
theorem as_no_Or (u : TypeId) (h : u ≠ 55) (v : Value) (s : TypeId) (w : World) : (Instr.typeAssert (.iface u v) s 55 true).run Tryd.prog w = .ok (.tuple #[.agg #[.string ⟨#[]⟩, .nilIface, .nilIface], .bool false]) w := by
  simp [Instr.typeAssert, run_underlying Tryd.underlying55, h, as_zero_Or]
theorem mk_Or (v : Value) (w : World) : (Instr.makeInterface 55 v).run Tryd.prog w = .ok (.iface 55 v) w := by kernel_rfl
attribute [go_sem] as_yes_Or as_one_Or as_nil_Or as_no_Or mk_Or
theorem as_yes_Scale (v : Value) (s : TypeId) (w : World) : (Instr.typeAssert (.iface 59 v) s 59 true).run Tryd.prog w = .ok (.tuple #[v, .bool true]) w := by kernel_rfl
theorem as_one_Scale (v : Value) (s : TypeId) (w : World) : (Instr.typeAssert (.iface 59 v) s 59 false).run Tryd.prog w = .ok v w := by kernel_rfl
theorem as_nil_Scale (s : TypeId) (w : World) : (Instr.typeAssert .nilIface s 59 true).run Tryd.prog w = .ok (.tuple #[.agg #[.nilIface, .nilIface], .bool false]) w := by kernel_rfl
theorem as_zero_Scale (w : World) : (zeroValue 59).run Tryd.prog w = .ok (.agg #[.nilIface, .nilIface]) w := by kernel_rfl
theorem as_no_Scale (u : TypeId) (h : u ≠ 59) (v : Value) (s : TypeId) (w : World) : (Instr.typeAssert (.iface u v) s 59 true).run Tryd.prog w = .ok (.tuple #[.agg #[.nilIface, .nilIface], .bool false]) w := by
  simp [Instr.typeAssert, run_underlying Tryd.underlying59, h, as_zero_Scale]
theorem mk_Scale (v : Value) (w : World) : (Instr.makeInterface 59 v).run Tryd.prog w = .ok (.iface 59 v) w := by kernel_rfl
attribute [go_sem] as_yes_Scale as_one_Scale as_nil_Scale as_no_Scale mk_Scale
theorem as_yes_When (v : Value) (s : TypeId) (w : World) : (Instr.typeAssert (.iface 57 v) s 57 true).run Tryd.prog w = .ok (.tuple #[v, .bool true]) w := by kernel_rfl
theorem as_one_When (v : Value) (s : TypeId) (w : World) : (Instr.typeAssert (.iface 57 v) s 57 false).run Tryd.prog w = .ok v w := by kernel_rfl
theorem as_nil_When (s : TypeId) (w : World) : (Instr.typeAssert .nilIface s 57 true).run Tryd.prog w = .ok (.tuple #[.agg #[.int .i64 0, .nilIface], .bool false]) w := by kernel_rfl
theorem as_zero_When (w : World) : (zeroValue 57).run Tryd.prog w = .ok (.agg #[.int .i64 0, .nilIface]) w := by kernel_rfl
theorem as_no_When (u : TypeId) (h : u ≠ 57) (v : Value) (s : TypeId) (w : World) : (Instr.typeAssert (.iface u v) s 57 true).run Tryd.prog w = .ok (.tuple #[.agg #[.int .i64 0, .nilIface], .bool false]) w := by
  simp [Instr.typeAssert, run_underlying Tryd.underlying57, h, as_zero_When]
theorem mk_When (v : Value) (w : World) : (Instr.makeInterface 57 v).run Tryd.prog w = .ok (.iface 57 v) w := by kernel_rfl
attribute [go_sem] as_yes_When as_one_When as_nil_When as_no_When mk_When
theorem as_yes_If (v : Value) (s : TypeId) (w : World) : (Instr.typeAssert (.iface 63 v) s 63 true).run Tryd.prog w = .ok (.tuple #[v, .bool true]) w := by kernel_rfl
theorem as_one_If (v : Value) (s : TypeId) (w : World) : (Instr.typeAssert (.iface 63 v) s 63 false).run Tryd.prog w = .ok v w := by kernel_rfl
theorem as_nil_If (s : TypeId) (w : World) : (Instr.typeAssert .nilIface s 63 true).run Tryd.prog w = .ok (.tuple #[.agg #[.nilIface, .nilIface, .nilIface], .bool false]) w := by kernel_rfl
theorem as_zero_If (w : World) : (zeroValue 63).run Tryd.prog w = .ok (.agg #[.nilIface, .nilIface, .nilIface]) w := by kernel_rfl
theorem as_no_If (u : TypeId) (h : u ≠ 63) (v : Value) (s : TypeId) (w : World) : (Instr.typeAssert (.iface u v) s 63 true).run Tryd.prog w = .ok (.tuple #[.agg #[.nilIface, .nilIface, .nilIface], .bool false]) w := by
  simp [Instr.typeAssert, run_underlying Tryd.underlying63, h, as_zero_If]
theorem mk_If (v : Value) (w : World) : (Instr.makeInterface 63 v).run Tryd.prog w = .ok (.iface 63 v) w := by kernel_rfl
attribute [go_sem] as_yes_If as_one_If as_nil_If as_no_If mk_If
end Go.Proofs.YtapbkomicihkkaaDoor
