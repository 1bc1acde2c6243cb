/- What a type assertion to each struct type of package api answers, over this translation. -/
import Derived.Test.YtapbkomicihkkaaGreatDoorRows
import Derived.WalkKit
namespace Go.Proofs.YtapbkomicihkkaaGreatDoor
open Go.RowKit
set_option linter.unusedVariables false
set_option linter.unusedSimpArgs false

theorem as_yes_Const (v : Value) (s : TypeId) (w : World) : (Instr.typeAssert (.iface 143 v) s 143 true).run Tryz.prog w = .ok (.tuple #[v, .bool true]) w := by kernel_rfl
theorem as_one_Const (v : Value) (s : TypeId) (w : World) : (Instr.typeAssert (.iface 143 v) s 143 false).run Tryz.prog w = .ok v w := by kernel_rfl
theorem as_nil_Const (s : TypeId) (w : World) : (Instr.typeAssert .nilIface s 143 true).run Tryz.prog w = .ok (.tuple #[.agg #[.int .i64 0], .bool false]) w := by kernel_rfl
theorem as_zero_Const (w : World) : (zeroValue 143).run Tryz.prog w = .ok (.agg #[.int .i64 0]) w := by kernel_rfl
theorem as_no_Const (u : TypeId) (h : u ≠ 143) (v : Value) (s : TypeId) (w : World) : (Instr.typeAssert (.iface u v) s 143 true).run Tryz.prog w = .ok (.tuple #[.agg #[.int .i64 0], .bool false]) w := by
  simp [Instr.typeAssert, run_underlying Tryz.underlying143, h, as_zero_Const]
theorem mk_Const (v : Value) (w : World) : (Instr.makeInterface 143 v).run Tryz.prog w = .ok (.iface 143 v) w := by kernel_rfl
attribute [go_sem] as_yes_Const as_one_Const as_nil_Const as_no_Const mk_Const
theorem as_yes_Fix (v : Value) (s : TypeId) (w : World) : (Instr.typeAssert (.iface 203 v) s 203 true).run Tryz.prog w = .ok (.tuple #[v, .bool true]) w := by kernel_rfl
theorem as_one_Fix (v : Value) (s : TypeId) (w : World) : (Instr.typeAssert (.iface 203 v) s 203 false).run Tryz.prog w = .ok v w := by kernel_rfl
theorem as_nil_Fix (s : TypeId) (w : World) : (Instr.typeAssert .nilIface s 203 true).run Tryz.prog w = .ok (.tuple #[.agg #[.string ⟨#[]⟩], .bool false]) w := by kernel_rfl
theorem as_zero_Fix (w : World) : (zeroValue 203).run Tryz.prog w = .ok (.agg #[.string ⟨#[]⟩]) w := by kernel_rfl
theorem as_no_Fix (u : TypeId) (h : u ≠ 203) (v : Value) (s : TypeId) (w : World) : (Instr.typeAssert (.iface u v) s 203 true).run Tryz.prog w = .ok (.tuple #[.agg #[.string ⟨#[]⟩], .bool false]) w := by
  simp [Instr.typeAssert, run_underlying Tryz.underlying203, h, as_zero_Fix]
theorem mk_Fix (v : Value) (w : World) : (Instr.makeInterface 203 v).run Tryz.prog w = .ok (.iface 203 v) w := by kernel_rfl
attribute [go_sem] as_yes_Fix as_one_Fix as_nil_Fix as_no_Fix mk_Fix
theorem as_yes_Add (v : Value) (s : TypeId) (w : World) : (Instr.typeAssert (.iface 211 v) s 211 true).run Tryz.prog w = .ok (.tuple #[v, .bool true]) w := by kernel_rfl
theorem as_one_Add (v : Value) (s : TypeId) (w : World) : (Instr.typeAssert (.iface 211 v) s 211 false).run Tryz.prog w = .ok v w := by kernel_rfl
theorem as_nil_Add (s : TypeId) (w : World) : (Instr.typeAssert .nilIface s 211 true).run Tryz.prog w = .ok (.tuple #[.agg #[.nilIface, .nilIface], .bool false]) w := by kernel_rfl
theorem as_zero_Add (w : World) : (zeroValue 211).run Tryz.prog w = .ok (.agg #[.nilIface, .nilIface]) w := by kernel_rfl
theorem as_no_Add (u : TypeId) (h : u ≠ 211) (v : Value) (s : TypeId) (w : World) : (Instr.typeAssert (.iface u v) s 211 true).run Tryz.prog w = .ok (.tuple #[.agg #[.nilIface, .nilIface], .bool false]) w := by
  simp [Instr.typeAssert, run_underlying Tryz.underlying211, h, as_zero_Add]
theorem mk_Add (v : Value) (w : World) : (Instr.makeInterface 211 v).run Tryz.prog w = .ok (.iface 211 v) w := by kernel_rfl
attribute [go_sem] as_yes_Add as_one_Add as_nil_Add as_no_Add mk_Add
theorem as_yes_Neg (v : Value) (s : TypeId) (w : World) : (Instr.typeAssert (.iface 213 v) s 213 true).run Tryz.prog w = .ok (.tuple #[v, .bool true]) w := by kernel_rfl
theorem as_one_Neg (v : Value) (s : TypeId) (w : World) : (Instr.typeAssert (.iface 213 v) s 213 false).run Tryz.prog w = .ok v w := by kernel_rfl
theorem as_nil_Neg (s : TypeId) (w : World) : (Instr.typeAssert .nilIface s 213 true).run Tryz.prog w = .ok (.tuple #[.agg #[.nilIface], .bool false]) w := by kernel_rfl
theorem as_zero_Neg (w : World) : (zeroValue 213).run Tryz.prog w = .ok (.agg #[.nilIface]) w := by kernel_rfl
theorem as_no_Neg (u : TypeId) (h : u ≠ 213) (v : Value) (s : TypeId) (w : World) : (Instr.typeAssert (.iface u v) s 213 true).run Tryz.prog w = .ok (.tuple #[.agg #[.nilIface], .bool false]) w := by
  simp [Instr.typeAssert, run_underlying Tryz.underlying213, h, as_zero_Neg]
theorem mk_Neg (v : Value) (w : World) : (Instr.makeInterface 213 v).run Tryz.prog w = .ok (.iface 213 v) w := by kernel_rfl
attribute [go_sem] as_yes_Neg as_one_Neg as_nil_Neg as_no_Neg mk_Neg
theorem as_yes_Mul (v : Value) (s : TypeId) (w : World) : (Instr.typeAssert (.iface 214 v) s 214 true).run Tryz.prog w = .ok (.tuple #[v, .bool true]) w := by kernel_rfl
theorem as_one_Mul (v : Value) (s : TypeId) (w : World) : (Instr.typeAssert (.iface 214 v) s 214 false).run Tryz.prog w = .ok v w := by kernel_rfl
theorem as_nil_Mul (s : TypeId) (w : World) : (Instr.typeAssert .nilIface s 214 true).run Tryz.prog w = .ok (.tuple #[.agg #[.nilIface, .nilIface], .bool false]) w := by kernel_rfl
theorem as_zero_Mul (w : World) : (zeroValue 214).run Tryz.prog w = .ok (.agg #[.nilIface, .nilIface]) w := by kernel_rfl
theorem as_no_Mul (u : TypeId) (h : u ≠ 214) (v : Value) (s : TypeId) (w : World) : (Instr.typeAssert (.iface u v) s 214 true).run Tryz.prog w = .ok (.tuple #[.agg #[.nilIface, .nilIface], .bool false]) w := by
  simp [Instr.typeAssert, run_underlying Tryz.underlying214, h, as_zero_Mul]
theorem mk_Mul (v : Value) (w : World) : (Instr.makeInterface 214 v).run Tryz.prog w = .ok (.iface 214 v) w := by kernel_rfl
attribute [go_sem] as_yes_Mul as_one_Mul as_nil_Mul as_no_Mul mk_Mul
theorem as_yes_Max (v : Value) (s : TypeId) (w : World) : (Instr.typeAssert (.iface 215 v) s 215 true).run Tryz.prog w = .ok (.tuple #[v, .bool true]) w := by kernel_rfl
theorem as_one_Max (v : Value) (s : TypeId) (w : World) : (Instr.typeAssert (.iface 215 v) s 215 false).run Tryz.prog w = .ok v w := by kernel_rfl
theorem as_nil_Max (s : TypeId) (w : World) : (Instr.typeAssert .nilIface s 215 true).run Tryz.prog w = .ok (.tuple #[.agg #[.nilIface, .nilIface], .bool false]) w := by kernel_rfl
theorem as_zero_Max (w : World) : (zeroValue 215).run Tryz.prog w = .ok (.agg #[.nilIface, .nilIface]) w := by kernel_rfl
theorem as_no_Max (u : TypeId) (h : u ≠ 215) (v : Value) (s : TypeId) (w : World) : (Instr.typeAssert (.iface u v) s 215 true).run Tryz.prog w = .ok (.tuple #[.agg #[.nilIface, .nilIface], .bool false]) w := by
  simp [Instr.typeAssert, run_underlying Tryz.underlying215, h, as_zero_Max]
theorem mk_Max (v : Value) (w : World) : (Instr.makeInterface 215 v).run Tryz.prog w = .ok (.iface 215 v) w := by kernel_rfl
attribute [go_sem] as_yes_Max as_one_Max as_nil_Max as_no_Max mk_Max
theorem as_yes_Zero (v : Value) (s : TypeId) (w : World) : (Instr.typeAssert (.iface 40 v) s 40 true).run Tryz.prog w = .ok (.tuple #[v, .bool true]) w := by kernel_rfl
theorem as_one_Zero (v : Value) (s : TypeId) (w : World) : (Instr.typeAssert (.iface 40 v) s 40 false).run Tryz.prog w = .ok v w := by kernel_rfl
theorem as_nil_Zero (s : TypeId) (w : World) : (Instr.typeAssert .nilIface s 40 true).run Tryz.prog w = .ok (.tuple #[.agg #[], .bool false]) w := by kernel_rfl
theorem as_zero_Zero (w : World) : (zeroValue 40).run Tryz.prog w = .ok (.agg #[]) w := by kernel_rfl
theorem as_no_Zero (u : TypeId) (h : u ≠ 40) (v : Value) (s : TypeId) (w : World) : (Instr.typeAssert (.iface u v) s 40 true).run Tryz.prog w = .ok (.tuple #[.agg #[], .bool false]) w := by
  simp [Instr.typeAssert, run_underlying Tryz.underlying40, h, as_zero_Zero]
theorem mk_Zero (v : Value) (w : World) : (Instr.makeInterface 40 v).run Tryz.prog w = .ok (.iface 40 v) w := by kernel_rfl
attribute [go_sem] as_yes_Zero as_one_Zero as_nil_Zero as_no_Zero mk_Zero
theorem as_yes_One (v : Value) (s : TypeId) (w : World) : (Instr.typeAssert (.iface 137 v) s 137 true).run Tryz.prog w = .ok (.tuple #[v, .bool true]) w := by kernel_rfl
theorem as_one_One (v : Value) (s : TypeId) (w : World) : (Instr.typeAssert (.iface 137 v) s 137 false).run Tryz.prog w = .ok v w := by kernel_rfl
theorem as_nil_One (s : TypeId) (w : World) : (Instr.typeAssert .nilIface s 137 true).run Tryz.prog w = .ok (.tuple #[.agg #[.string ⟨#[]⟩], .bool false]) w := by kernel_rfl
theorem as_zero_One (w : World) : (zeroValue 137).run Tryz.prog w = .ok (.agg #[.string ⟨#[]⟩]) w := by kernel_rfl
theorem as_no_One (u : TypeId) (h : u ≠ 137) (v : Value) (s : TypeId) (w : World) : (Instr.typeAssert (.iface u v) s 137 true).run Tryz.prog w = .ok (.tuple #[.agg #[.string ⟨#[]⟩], .bool false]) w := by
  simp [Instr.typeAssert, run_underlying Tryz.underlying137, h, as_zero_One]
theorem mk_One (v : Value) (w : World) : (Instr.makeInterface 137 v).run Tryz.prog w = .ok (.iface 137 v) w := by kernel_rfl
attribute [go_sem] as_yes_One as_one_One as_nil_One as_no_One mk_One
theorem as_yes_Give (v : Value) (s : TypeId) (w : World) : (Instr.typeAssert (.iface 158 v) s 158 true).run Tryz.prog w = .ok (.tuple #[v, .bool true]) w := by kernel_rfl
theorem as_one_Give (v : Value) (s : TypeId) (w : World) : (Instr.typeAssert (.iface 158 v) s 158 false).run Tryz.prog w = .ok v w := by kernel_rfl
theorem as_nil_Give (s : TypeId) (w : World) : (Instr.typeAssert .nilIface s 158 true).run Tryz.prog w = .ok (.tuple #[.agg #[.nilIface], .bool false]) w := by kernel_rfl
theorem as_zero_Give (w : World) : (zeroValue 158).run Tryz.prog w = .ok (.agg #[.nilIface]) w := by kernel_rfl
theorem as_no_Give (u : TypeId) (h : u ≠ 158) (v : Value) (s : TypeId) (w : World) : (Instr.typeAssert (.iface u v) s 158 true).run Tryz.prog w = .ok (.tuple #[.agg #[.nilIface], .bool false]) w := by
  simp [Instr.typeAssert, run_underlying Tryz.underlying158, h, as_zero_Give]
theorem mk_Give (v : Value) (w : World) : (Instr.makeInterface 158 v).run Tryz.prog w = .ok (.iface 158 v) w := by kernel_rfl
attribute [go_sem] as_yes_Give as_one_Give as_nil_Give as_no_Give mk_Give
theorem as_yes_And (v : Value) (s : TypeId) (w : World) : (Instr.typeAssert (.iface 160 v) s 160 true).run Tryz.prog w = .ok (.tuple #[v, .bool true]) w := by kernel_rfl
theorem as_one_And (v : Value) (s : TypeId) (w : World) : (Instr.typeAssert (.iface 160 v) s 160 false).run Tryz.prog w = .ok v w := by kernel_rfl
theorem as_nil_And (s : TypeId) (w : World) : (Instr.typeAssert .nilIface s 160 true).run Tryz.prog w = .ok (.tuple #[.agg #[.nilIface, .nilIface], .bool false]) w := by kernel_rfl
theorem as_zero_And (w : World) : (zeroValue 160).run Tryz.prog w = .ok (.agg #[.nilIface, .nilIface]) w := by kernel_rfl
theorem as_no_And (u : TypeId) (h : u ≠ 160) (v : Value) (s : TypeId) (w : World) : (Instr.typeAssert (.iface u v) s 160 true).run Tryz.prog w = .ok (.tuple #[.agg #[.nilIface, .nilIface], .bool false]) w := by
  simp [Instr.typeAssert, run_underlying Tryz.underlying160, h, as_zero_And]
theorem mk_And (v : Value) (w : World) : (Instr.makeInterface 160 v).run Tryz.prog w = .ok (.iface 160 v) w := by kernel_rfl
attribute [go_sem] as_yes_And as_one_And as_nil_And as_no_And mk_And
theorem as_yes_Or (v : Value) (s : TypeId) (w : World) : (Instr.typeAssert (.iface 162 v) s 162 true).run Tryz.prog w = .ok (.tuple #[v, .bool true]) w := by kernel_rfl
theorem as_one_Or (v : Value) (s : TypeId) (w : World) : (Instr.typeAssert (.iface 162 v) s 162 false).run Tryz.prog w = .ok v w := by kernel_rfl
theorem as_nil_Or (s : TypeId) (w : World) : (Instr.typeAssert .nilIface s 162 true).run Tryz.prog w = .ok (.tuple #[.agg #[.string ⟨#[]⟩, .nilIface, .nilIface], .bool false]) w := by kernel_rfl
theorem as_zero_Or (w : World) : (zeroValue 162).run Tryz.prog w = .ok (.agg #[.string ⟨#[]⟩, .nilIface, .nilIface]) w := by kernel_rfl
theorem as_no_Or (u : TypeId) (h : u ≠ 162) (v : Value) (s : TypeId) (w : World) : (Instr.typeAssert (.iface u v) s 162 true).run Tryz.prog w = .ok (.tuple #[.agg #[.string ⟨#[]⟩, .nilIface, .nilIface], .bool false]) w := by
  simp [Instr.typeAssert, run_underlying Tryz.underlying162, h, as_zero_Or]
theorem mk_Or (v : Value) (w : World) : (Instr.makeInterface 162 v).run Tryz.prog w = .ok (.iface 162 v) w := by kernel_rfl
attribute [go_sem] as_yes_Or as_one_Or as_nil_Or as_no_Or mk_Or
theorem as_yes_Scale (v : Value) (s : TypeId) (w : World) : (Instr.typeAssert (.iface 165 v) s 165 true).run Tryz.prog w = .ok (.tuple #[v, .bool true]) w := by kernel_rfl
theorem as_one_Scale (v : Value) (s : TypeId) (w : World) : (Instr.typeAssert (.iface 165 v) s 165 false).run Tryz.prog w = .ok v w := by kernel_rfl
theorem as_nil_Scale (s : TypeId) (w : World) : (Instr.typeAssert .nilIface s 165 true).run Tryz.prog w = .ok (.tuple #[.agg #[.nilIface, .nilIface], .bool false]) w := by kernel_rfl
theorem as_zero_Scale (w : World) : (zeroValue 165).run Tryz.prog w = .ok (.agg #[.nilIface, .nilIface]) w := by kernel_rfl
theorem as_no_Scale (u : TypeId) (h : u ≠ 165) (v : Value) (s : TypeId) (w : World) : (Instr.typeAssert (.iface u v) s 165 true).run Tryz.prog w = .ok (.tuple #[.agg #[.nilIface, .nilIface], .bool false]) w := by
  simp [Instr.typeAssert, run_underlying Tryz.underlying165, h, as_zero_Scale]
theorem mk_Scale (v : Value) (w : World) : (Instr.makeInterface 165 v).run Tryz.prog w = .ok (.iface 165 v) w := by kernel_rfl
attribute [go_sem] as_yes_Scale as_one_Scale as_nil_Scale as_no_Scale mk_Scale
theorem as_yes_When (v : Value) (s : TypeId) (w : World) : (Instr.typeAssert (.iface 167 v) s 167 true).run Tryz.prog w = .ok (.tuple #[v, .bool true]) w := by kernel_rfl
theorem as_one_When (v : Value) (s : TypeId) (w : World) : (Instr.typeAssert (.iface 167 v) s 167 false).run Tryz.prog w = .ok v w := by kernel_rfl
theorem as_nil_When (s : TypeId) (w : World) : (Instr.typeAssert .nilIface s 167 true).run Tryz.prog w = .ok (.tuple #[.agg #[.int .i64 0, .nilIface], .bool false]) w := by kernel_rfl
theorem as_zero_When (w : World) : (zeroValue 167).run Tryz.prog w = .ok (.agg #[.int .i64 0, .nilIface]) w := by kernel_rfl
theorem as_no_When (u : TypeId) (h : u ≠ 167) (v : Value) (s : TypeId) (w : World) : (Instr.typeAssert (.iface u v) s 167 true).run Tryz.prog w = .ok (.tuple #[.agg #[.int .i64 0, .nilIface], .bool false]) w := by
  simp [Instr.typeAssert, run_underlying Tryz.underlying167, h, as_zero_When]
theorem mk_When (v : Value) (w : World) : (Instr.makeInterface 167 v).run Tryz.prog w = .ok (.iface 167 v) w := by kernel_rfl
attribute [go_sem] as_yes_When as_one_When as_nil_When as_no_When mk_When
theorem as_yes_If (v : Value) (s : TypeId) (w : World) : (Instr.typeAssert (.iface 169 v) s 169 true).run Tryz.prog w = .ok (.tuple #[v, .bool true]) w := by kernel_rfl
theorem as_one_If (v : Value) (s : TypeId) (w : World) : (Instr.typeAssert (.iface 169 v) s 169 false).run Tryz.prog w = .ok v w := by kernel_rfl
theorem as_nil_If (s : TypeId) (w : World) : (Instr.typeAssert .nilIface s 169 true).run Tryz.prog w = .ok (.tuple #[.agg #[.nilIface, .nilIface, .nilIface], .bool false]) w := by kernel_rfl
theorem as_zero_If (w : World) : (zeroValue 169).run Tryz.prog w = .ok (.agg #[.nilIface, .nilIface, .nilIface]) w := by kernel_rfl
theorem as_no_If (u : TypeId) (h : u ≠ 169) (v : Value) (s : TypeId) (w : World) : (Instr.typeAssert (.iface u v) s 169 true).run Tryz.prog w = .ok (.tuple #[.agg #[.nilIface, .nilIface, .nilIface], .bool false]) w := by
  simp [Instr.typeAssert, run_underlying Tryz.underlying169, h, as_zero_If]
theorem mk_If (v : Value) (w : World) : (Instr.makeInterface 169 v).run Tryz.prog w = .ok (.iface 169 v) w := by kernel_rfl
attribute [go_sem] as_yes_If as_one_If as_nil_If as_no_If mk_If
end Go.Proofs.YtapbkomicihkkaaGreatDoor
