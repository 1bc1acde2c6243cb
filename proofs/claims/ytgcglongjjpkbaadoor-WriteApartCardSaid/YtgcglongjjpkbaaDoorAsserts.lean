/- What a type assertion to each struct type of package api answers, over this translation. -/
import Derived.Test.YtgcglongjjpkbaaDoorRows
import Derived.WalkKit
namespace Go.Proofs.YtgcglongjjpkbaaDoor
open Go.RowKit

theorem as_yes_Const (v : Value) (s : TypeId) (w : World) : (Instr.typeAssert (.iface 46 v) s 46 true).run Tryd.prog w = .ok (.tuple #[v, .bool true]) w := by kernel_rfl
theorem as_one_Const (v : Value) (s : TypeId) (w : World) : (Instr.typeAssert (.iface 46 v) s 46 false).run Tryd.prog w = .ok v w := by kernel_rfl
theorem as_nil_Const (s : TypeId) (w : World) : (Instr.typeAssert .nilIface s 46 true).run Tryd.prog w = .ok (.tuple #[.agg #[.int .i64 0], .bool false]) w := by kernel_rfl
theorem as_zero_Const (w : World) : (zeroValue 46).run Tryd.prog w = .ok (.agg #[.int .i64 0]) w := by kernel_rfl
theorem as_no_Const (u : TypeId) (h : u ≠ 46) (v : Value) (s : TypeId) (w : World) : (Instr.typeAssert (.iface u v) s 46 true).run Tryd.prog w = .ok (.tuple #[.agg #[.int .i64 0], .bool false]) w := by
  simp [Instr.typeAssert, run_underlying Tryd.underlying46, h, as_zero_Const]
theorem mk_Const (v : Value) (w : World) : (Instr.makeInterface 46 v).run Tryd.prog w = .ok (.iface 46 v) w := by kernel_rfl
attribute [go_sem] as_yes_Const as_one_Const as_nil_Const as_no_Const mk_Const
theorem as_yes_Fix (v : Value) (s : TypeId) (w : World) : (Instr.typeAssert (.iface 44 v) s 44 true).run Tryd.prog w = .ok (.tuple #[v, .bool true]) w := by kernel_rfl
theorem as_one_Fix (v : Value) (s : TypeId) (w : World) : (Instr.typeAssert (.iface 44 v) s 44 false).run Tryd.prog w = .ok v w := by kernel_rfl
theorem as_nil_Fix (s : TypeId) (w : World) : (Instr.typeAssert .nilIface s 44 true).run Tryd.prog w = .ok (.tuple #[.agg #[.string ⟨#[]⟩], .bool false]) w := by kernel_rfl
theorem as_zero_Fix (w : World) : (zeroValue 44).run Tryd.prog w = .ok (.agg #[.string ⟨#[]⟩]) w := by kernel_rfl
theorem as_no_Fix (u : TypeId) (h : u ≠ 44) (v : Value) (s : TypeId) (w : World) : (Instr.typeAssert (.iface u v) s 44 true).run Tryd.prog w = .ok (.tuple #[.agg #[.string ⟨#[]⟩], .bool false]) w := by
  simp [Instr.typeAssert, run_underlying Tryd.underlying44, h, as_zero_Fix]
theorem mk_Fix (v : Value) (w : World) : (Instr.makeInterface 44 v).run Tryd.prog w = .ok (.iface 44 v) w := by kernel_rfl
attribute [go_sem] as_yes_Fix as_one_Fix as_nil_Fix as_no_Fix mk_Fix
theorem as_yes_Add (v : Value) (s : TypeId) (w : World) : (Instr.typeAssert (.iface 63 v) s 63 true).run Tryd.prog w = .ok (.tuple #[v, .bool true]) w := by kernel_rfl
theorem as_one_Add (v : Value) (s : TypeId) (w : World) : (Instr.typeAssert (.iface 63 v) s 63 false).run Tryd.prog w = .ok v w := by kernel_rfl
theorem as_nil_Add (s : TypeId) (w : World) : (Instr.typeAssert .nilIface s 63 true).run Tryd.prog w = .ok (.tuple #[.agg #[.nilIface, .nilIface], .bool false]) w := by kernel_rfl
theorem as_zero_Add (w : World) : (zeroValue 63).run Tryd.prog w = .ok (.agg #[.nilIface, .nilIface]) w := by kernel_rfl
theorem as_no_Add (u : TypeId) (h : u ≠ 63) (v : Value) (s : TypeId) (w : World) : (Instr.typeAssert (.iface u v) s 63 true).run Tryd.prog w = .ok (.tuple #[.agg #[.nilIface, .nilIface], .bool false]) w := by
  simp [Instr.typeAssert, run_underlying Tryd.underlying63, h, as_zero_Add]
theorem mk_Add (v : Value) (w : World) : (Instr.makeInterface 63 v).run Tryd.prog w = .ok (.iface 63 v) w := by kernel_rfl
attribute [go_sem] as_yes_Add as_one_Add as_nil_Add as_no_Add mk_Add
theorem as_yes_Neg (v : Value) (s : TypeId) (w : World) : (Instr.typeAssert (.iface 49 v) s 49 true).run Tryd.prog w = .ok (.tuple #[v, .bool true]) w := by kernel_rfl
theorem as_one_Neg (v : Value) (s : TypeId) (w : World) : (Instr.typeAssert (.iface 49 v) s 49 false).run Tryd.prog w = .ok v w := by kernel_rfl
theorem as_nil_Neg (s : TypeId) (w : World) : (Instr.typeAssert .nilIface s 49 true).run Tryd.prog w = .ok (.tuple #[.agg #[.nilIface], .bool false]) w := by kernel_rfl
theorem as_zero_Neg (w : World) : (zeroValue 49).run Tryd.prog w = .ok (.agg #[.nilIface]) w := by kernel_rfl
theorem as_no_Neg (u : TypeId) (h : u ≠ 49) (v : Value) (s : TypeId) (w : World) : (Instr.typeAssert (.iface u v) s 49 true).run Tryd.prog w = .ok (.tuple #[.agg #[.nilIface], .bool false]) w := by
  simp [Instr.typeAssert, run_underlying Tryd.underlying49, h, as_zero_Neg]
theorem mk_Neg (v : Value) (w : World) : (Instr.makeInterface 49 v).run Tryd.prog w = .ok (.iface 49 v) w := by kernel_rfl
attribute [go_sem] as_yes_Neg as_one_Neg as_nil_Neg as_no_Neg mk_Neg
theorem as_yes_Mul (v : Value) (s : TypeId) (w : World) : (Instr.typeAssert (.iface 51 v) s 51 true).run Tryd.prog w = .ok (.tuple #[v, .bool true]) w := by kernel_rfl
theorem as_one_Mul (v : Value) (s : TypeId) (w : World) : (Instr.typeAssert (.iface 51 v) s 51 false).run Tryd.prog w = .ok v w := by kernel_rfl
theorem as_nil_Mul (s : TypeId) (w : World) : (Instr.typeAssert .nilIface s 51 true).run Tryd.prog w = .ok (.tuple #[.agg #[.nilIface, .nilIface], .bool false]) w := by kernel_rfl
theorem as_zero_Mul (w : World) : (zeroValue 51).run Tryd.prog w = .ok (.agg #[.nilIface, .nilIface]) w := by kernel_rfl
theorem as_no_Mul (u : TypeId) (h : u ≠ 51) (v : Value) (s : TypeId) (w : World) : (Instr.typeAssert (.iface u v) s 51 true).run Tryd.prog w = .ok (.tuple #[.agg #[.nilIface, .nilIface], .bool false]) w := by
  simp [Instr.typeAssert, run_underlying Tryd.underlying51, h, as_zero_Mul]
theorem mk_Mul (v : Value) (w : World) : (Instr.makeInterface 51 v).run Tryd.prog w = .ok (.iface 51 v) w := by kernel_rfl
attribute [go_sem] as_yes_Mul as_one_Mul as_nil_Mul as_no_Mul mk_Mul
theorem as_yes_Max (v : Value) (s : TypeId) (w : World) : (Instr.typeAssert (.iface 64 v) s 64 true).run Tryd.prog w = .ok (.tuple #[v, .bool true]) w := by kernel_rfl
theorem as_one_Max (v : Value) (s : TypeId) (w : World) : (Instr.typeAssert (.iface 64 v) s 64 false).run Tryd.prog w = .ok v w := by kernel_rfl
theorem as_nil_Max (s : TypeId) (w : World) : (Instr.typeAssert .nilIface s 64 true).run Tryd.prog w = .ok (.tuple #[.agg #[.nilIface, .nilIface], .bool false]) w := by kernel_rfl
theorem as_zero_Max (w : World) : (zeroValue 64).run Tryd.prog w = .ok (.agg #[.nilIface, .nilIface]) w := by kernel_rfl
theorem as_no_Max (u : TypeId) (h : u ≠ 64) (v : Value) (s : TypeId) (w : World) : (Instr.typeAssert (.iface u v) s 64 true).run Tryd.prog w = .ok (.tuple #[.agg #[.nilIface, .nilIface], .bool false]) w := by
  simp [Instr.typeAssert, run_underlying Tryd.underlying64, h, as_zero_Max]
theorem mk_Max (v : Value) (w : World) : (Instr.makeInterface 64 v).run Tryd.prog w = .ok (.iface 64 v) w := by kernel_rfl
attribute [go_sem] as_yes_Max as_one_Max as_nil_Max as_no_Max mk_Max
theorem as_yes_Zero (v : Value) (s : TypeId) (w : World) : (Instr.typeAssert (.iface 53 v) s 53 true).run Tryd.prog w = .ok (.tuple #[v, .bool true]) w := by kernel_rfl
theorem as_one_Zero (v : Value) (s : TypeId) (w : World) : (Instr.typeAssert (.iface 53 v) s 53 false).run Tryd.prog w = .ok v w := by kernel_rfl
theorem as_nil_Zero (s : TypeId) (w : World) : (Instr.typeAssert .nilIface s 53 true).run Tryd.prog w = .ok (.tuple #[.agg #[], .bool false]) w := by kernel_rfl
theorem as_zero_Zero (w : World) : (zeroValue 53).run Tryd.prog w = .ok (.agg #[]) w := by kernel_rfl
theorem as_no_Zero (u : TypeId) (h : u ≠ 53) (v : Value) (s : TypeId) (w : World) : (Instr.typeAssert (.iface u v) s 53 true).run Tryd.prog w = .ok (.tuple #[.agg #[], .bool false]) w := by
  simp [Instr.typeAssert, run_underlying Tryd.underlying53, h, as_zero_Zero]
theorem mk_Zero (v : Value) (w : World) : (Instr.makeInterface 53 v).run Tryd.prog w = .ok (.iface 53 v) w := by kernel_rfl
attribute [go_sem] as_yes_Zero as_one_Zero as_nil_Zero as_no_Zero mk_Zero
theorem as_yes_One (v : Value) (s : TypeId) (w : World) : (Instr.typeAssert (.iface 24 v) s 24 true).run Tryd.prog w = .ok (.tuple #[v, .bool true]) w := by kernel_rfl
theorem as_one_One (v : Value) (s : TypeId) (w : World) : (Instr.typeAssert (.iface 24 v) s 24 false).run Tryd.prog w = .ok v w := by kernel_rfl
theorem as_nil_One (s : TypeId) (w : World) : (Instr.typeAssert .nilIface s 24 true).run Tryd.prog w = .ok (.tuple #[.agg #[.string ⟨#[]⟩], .bool false]) w := by kernel_rfl
theorem as_zero_One (w : World) : (zeroValue 24).run Tryd.prog w = .ok (.agg #[.string ⟨#[]⟩]) w := by kernel_rfl
theorem as_no_One (u : TypeId) (h : u ≠ 24) (v : Value) (s : TypeId) (w : World) : (Instr.typeAssert (.iface u v) s 24 true).run Tryd.prog w = .ok (.tuple #[.agg #[.string ⟨#[]⟩], .bool false]) w := by
  simp [Instr.typeAssert, run_underlying Tryd.underlying24, h, as_zero_One]
theorem mk_One (v : Value) (w : World) : (Instr.makeInterface 24 v).run Tryd.prog w = .ok (.iface 24 v) w := by kernel_rfl
attribute [go_sem] as_yes_One as_one_One as_nil_One as_no_One mk_One
theorem as_yes_Give (v : Value) (s : TypeId) (w : World) : (Instr.typeAssert (.iface 56 v) s 56 true).run Tryd.prog w = .ok (.tuple #[v, .bool true]) w := by kernel_rfl
theorem as_one_Give (v : Value) (s : TypeId) (w : World) : (Instr.typeAssert (.iface 56 v) s 56 false).run Tryd.prog w = .ok v w := by kernel_rfl
theorem as_nil_Give (s : TypeId) (w : World) : (Instr.typeAssert .nilIface s 56 true).run Tryd.prog w = .ok (.tuple #[.agg #[.nilIface], .bool false]) w := by kernel_rfl
theorem as_zero_Give (w : World) : (zeroValue 56).run Tryd.prog w = .ok (.agg #[.nilIface]) w := by kernel_rfl
theorem as_no_Give (u : TypeId) (h : u ≠ 56) (v : Value) (s : TypeId) (w : World) : (Instr.typeAssert (.iface u v) s 56 true).run Tryd.prog w = .ok (.tuple #[.agg #[.nilIface], .bool false]) w := by
  simp [Instr.typeAssert, run_underlying Tryd.underlying56, h, as_zero_Give]
theorem mk_Give (v : Value) (w : World) : (Instr.makeInterface 56 v).run Tryd.prog w = .ok (.iface 56 v) w := by kernel_rfl
attribute [go_sem] as_yes_Give as_one_Give as_nil_Give as_no_Give mk_Give
theorem as_yes_And (v : Value) (s : TypeId) (w : World) : (Instr.typeAssert (.iface 27 v) s 27 true).run Tryd.prog w = .ok (.tuple #[v, .bool true]) w := by kernel_rfl
theorem as_one_And (v : Value) (s : TypeId) (w : World) : (Instr.typeAssert (.iface 27 v) s 27 false).run Tryd.prog w = .ok v w := by kernel_rfl
theorem as_nil_And (s : TypeId) (w : World) : (Instr.typeAssert .nilIface s 27 true).run Tryd.prog w = .ok (.tuple #[.agg #[.nilIface, .nilIface], .bool false]) w := by kernel_rfl
theorem as_zero_And (w : World) : (zeroValue 27).run Tryd.prog w = .ok (.agg #[.nilIface, .nilIface]) w := by kernel_rfl
theorem as_no_And (u : TypeId) (h : u ≠ 27) (v : Value) (s : TypeId) (w : World) : (Instr.typeAssert (.iface u v) s 27 true).run Tryd.prog w = .ok (.tuple #[.agg #[.nilIface, .nilIface], .bool false]) w := by
  simp [Instr.typeAssert, run_underlying Tryd.underlying27, h, as_zero_And]
theorem mk_And (v : Value) (w : World) : (Instr.makeInterface 27 v).run Tryd.prog w = .ok (.iface 27 v) w := by kernel_rfl
attribute [go_sem] as_yes_And as_one_And as_nil_And as_no_And mk_And
theorem as_yes_Or (v : Value) (s : TypeId) (w : World) : (Instr.typeAssert (.iface 58 v) s 58 true).run Tryd.prog w = .ok (.tuple #[v, .bool true]) w := by kernel_rfl
theorem as_one_Or (v : Value) (s : TypeId) (w : World) : (Instr.typeAssert (.iface 58 v) s 58 false).run Tryd.prog w = .ok v w := by kernel_rfl
theorem as_nil_Or (s : TypeId) (w : World) : (Instr.typeAssert .nilIface s 58 true).run Tryd.prog w = .ok (.tuple #[.agg #[.string ⟨#[]⟩, .nilIface, .nilIface], .bool false]) w := by kernel_rfl
theorem as_zero_Or (w : World) : (zeroValue 58).run Tryd.prog w = .ok (.agg #[.string ⟨#[]⟩, .nilIface, .nilIface]) w := by kernel_rfl
theorem as_no_Or (u : TypeId) (h : u ≠ 58) (v : Value) (s : TypeId) (w : World) : (Instr.typeAssert (.iface u v) s 58 true).run Tryd.prog w = .ok (.tuple #[.agg #[.string ⟨#[]⟩, .nilIface, .nilIface], .bool false]) w := by
  simp [Instr.typeAssert, run_underlying Tryd.underlying58, h, as_zero_Or]
theorem mk_Or (v : Value) (w : World) : (Instr.makeInterface 58 v).run Tryd.prog w = .ok (.iface 58 v) w := by kernel_rfl
attribute [go_sem] as_yes_Or as_one_Or as_nil_Or as_no_Or mk_Or
theorem as_yes_Scale (v : Value) (s : TypeId) (w : World) : (Instr.typeAssert (.iface 62 v) s 62 true).run Tryd.prog w = .ok (.tuple #[v, .bool true]) w := by kernel_rfl
theorem as_one_Scale (v : Value) (s : TypeId) (w : World) : (Instr.typeAssert (.iface 62 v) s 62 false).run Tryd.prog w = .ok v w := by kernel_rfl
theorem as_nil_Scale (s : TypeId) (w : World) : (Instr.typeAssert .nilIface s 62 true).run Tryd.prog w = .ok (.tuple #[.agg #[.nilIface, .nilIface], .bool false]) w := by kernel_rfl
theorem as_zero_Scale (w : World) : (zeroValue 62).run Tryd.prog w = .ok (.agg #[.nilIface, .nilIface]) w := by kernel_rfl
theorem as_no_Scale (u : TypeId) (h : u ≠ 62) (v : Value) (s : TypeId) (w : World) : (Instr.typeAssert (.iface u v) s 62 true).run Tryd.prog w = .ok (.tuple #[.agg #[.nilIface, .nilIface], .bool false]) w := by
  simp [Instr.typeAssert, run_underlying Tryd.underlying62, h, as_zero_Scale]
theorem mk_Scale (v : Value) (w : World) : (Instr.makeInterface 62 v).run Tryd.prog w = .ok (.iface 62 v) w := by kernel_rfl
attribute [go_sem] as_yes_Scale as_one_Scale as_nil_Scale as_no_Scale mk_Scale
theorem as_yes_When (v : Value) (s : TypeId) (w : World) : (Instr.typeAssert (.iface 60 v) s 60 true).run Tryd.prog w = .ok (.tuple #[v, .bool true]) w := by kernel_rfl
theorem as_one_When (v : Value) (s : TypeId) (w : World) : (Instr.typeAssert (.iface 60 v) s 60 false).run Tryd.prog w = .ok v w := by kernel_rfl
theorem as_nil_When (s : TypeId) (w : World) : (Instr.typeAssert .nilIface s 60 true).run Tryd.prog w = .ok (.tuple #[.agg #[.int .i64 0, .nilIface], .bool false]) w := by kernel_rfl
theorem as_zero_When (w : World) : (zeroValue 60).run Tryd.prog w = .ok (.agg #[.int .i64 0, .nilIface]) w := by kernel_rfl
theorem as_no_When (u : TypeId) (h : u ≠ 60) (v : Value) (s : TypeId) (w : World) : (Instr.typeAssert (.iface u v) s 60 true).run Tryd.prog w = .ok (.tuple #[.agg #[.int .i64 0, .nilIface], .bool false]) w := by
  simp [Instr.typeAssert, run_underlying Tryd.underlying60, h, as_zero_When]
theorem mk_When (v : Value) (w : World) : (Instr.makeInterface 60 v).run Tryd.prog w = .ok (.iface 60 v) w := by kernel_rfl
attribute [go_sem] as_yes_When as_one_When as_nil_When as_no_When mk_When
theorem as_yes_If (v : Value) (s : TypeId) (w : World) : (Instr.typeAssert (.iface 66 v) s 66 true).run Tryd.prog w = .ok (.tuple #[v, .bool true]) w := by kernel_rfl
theorem as_one_If (v : Value) (s : TypeId) (w : World) : (Instr.typeAssert (.iface 66 v) s 66 false).run Tryd.prog w = .ok v w := by kernel_rfl
theorem as_nil_If (s : TypeId) (w : World) : (Instr.typeAssert .nilIface s 66 true).run Tryd.prog w = .ok (.tuple #[.agg #[.nilIface, .nilIface, .nilIface], .bool false]) w := by kernel_rfl
theorem as_zero_If (w : World) : (zeroValue 66).run Tryd.prog w = .ok (.agg #[.nilIface, .nilIface, .nilIface]) w := by kernel_rfl
theorem as_no_If (u : TypeId) (h : u ≠ 66) (v : Value) (s : TypeId) (w : World) : (Instr.typeAssert (.iface u v) s 66 true).run Tryd.prog w = .ok (.tuple #[.agg #[.nilIface, .nilIface, .nilIface], .bool false]) w := by
  simp [Instr.typeAssert, run_underlying Tryd.underlying66, h, as_zero_If]
theorem mk_If (v : Value) (w : World) : (Instr.makeInterface 66 v).run Tryd.prog w = .ok (.iface 66 v) w := by kernel_rfl
attribute [go_sem] as_yes_If as_one_If as_nil_If as_no_If mk_If
end Go.Proofs.YtgcglongjjpkbaaDoor
