/- Struct values of package api that hold numbers and contracts. -/
import Derived.Test.YtgcglongjjpkbaaDoorObs
namespace Go.Proofs.YtgcglongjjpkbaaDoor
open Go.RowKit

/-- A struct literal under a name of its own, so that the walk does not lay it open. -/
def bdN (t : TypeId) (parts : Array (Nat × Value)) : Sem Value := Instr.build t parts
@[go_sem] theorem isI_nil : IsI .nilIface := .inl rfl
@[go_sem] theorem isI_iface (t : TypeId) (x : Value) : IsI (.iface t x) := .inr ⟨t, x, rfl⟩
@[go_sem ↓] theorem bd_Add (parts : Array (Nat × Value)) : Instr.build 63 parts = bdN 63 parts := rfl
@[go_sem] theorem run_bd_Add (x0 : Value) (x1 : Value) (h0 : IsI x0) (h1 : IsI x1) (W : World) : (bdN 63 #[(0, x0), (1, x1)]).run Tryd.prog W = .ok (.agg #[x0, x1]) W := by
  rcases h0 with rfl | ⟨_, _, rfl⟩ <;> rcases h1 with rfl | ⟨_, _, rfl⟩ <;> kernel_rfl
@[go_sem ↓] theorem bd_Mul (parts : Array (Nat × Value)) : Instr.build 51 parts = bdN 51 parts := rfl
@[go_sem] theorem run_bd_Mul (x0 : Value) (x1 : Value) (h0 : IsI x0) (h1 : IsI x1) (W : World) : (bdN 51 #[(0, x0), (1, x1)]).run Tryd.prog W = .ok (.agg #[x0, x1]) W := by
  rcases h0 with rfl | ⟨_, _, rfl⟩ <;> rcases h1 with rfl | ⟨_, _, rfl⟩ <;> kernel_rfl
@[go_sem ↓] theorem bd_Max (parts : Array (Nat × Value)) : Instr.build 64 parts = bdN 64 parts := rfl
@[go_sem] theorem run_bd_Max (x0 : Value) (x1 : Value) (h0 : IsI x0) (h1 : IsI x1) (W : World) : (bdN 64 #[(0, x0), (1, x1)]).run Tryd.prog W = .ok (.agg #[x0, x1]) W := by
  rcases h0 with rfl | ⟨_, _, rfl⟩ <;> rcases h1 with rfl | ⟨_, _, rfl⟩ <;> kernel_rfl
@[go_sem ↓] theorem bd_And (parts : Array (Nat × Value)) : Instr.build 27 parts = bdN 27 parts := rfl
@[go_sem] theorem run_bd_And (x0 : Value) (x1 : Value) (h0 : IsI x0) (h1 : IsI x1) (W : World) : (bdN 27 #[(0, x0), (1, x1)]).run Tryd.prog W = .ok (.agg #[x0, x1]) W := by
  rcases h0 with rfl | ⟨_, _, rfl⟩ <;> rcases h1 with rfl | ⟨_, _, rfl⟩ <;> kernel_rfl
@[go_sem ↓] theorem bd_Neg (parts : Array (Nat × Value)) : Instr.build 49 parts = bdN 49 parts := rfl
@[go_sem] theorem run_bd_Neg (x0 : Value) (h0 : IsI x0) (W : World) : (bdN 49 #[(0, x0)]).run Tryd.prog W = .ok (.agg #[x0]) W := by
  rcases h0 with rfl | ⟨_, _, rfl⟩ <;> kernel_rfl
@[go_sem ↓] theorem bd_Give (parts : Array (Nat × Value)) : Instr.build 56 parts = bdN 56 parts := rfl
@[go_sem] theorem run_bd_Give (x0 : Value) (h0 : IsI x0) (W : World) : (bdN 56 #[(0, x0)]).run Tryd.prog W = .ok (.agg #[x0]) W := by
  rcases h0 with rfl | ⟨_, _, rfl⟩ <;> kernel_rfl
@[go_sem ↓] theorem bd_Or (parts : Array (Nat × Value)) : Instr.build 58 parts = bdN 58 parts := rfl
@[go_sem] theorem run_bd_Or (x0 : ByteArray) (x1 : Value) (x2 : Value) (h1 : IsI x1) (h2 : IsI x2) (W : World) : (bdN 58 #[(0, .string x0), (1, x1), (2, x2)]).run Tryd.prog W = .ok (.agg #[.string x0, x1, x2]) W := by
  rcases h1 with rfl | ⟨_, _, rfl⟩ <;> rcases h2 with rfl | ⟨_, _, rfl⟩ <;> kernel_rfl
@[go_sem ↓] theorem bd_Scale (parts : Array (Nat × Value)) : Instr.build 62 parts = bdN 62 parts := rfl
@[go_sem] theorem run_bd_Scale (x0 : Value) (x1 : Value) (h0 : IsI x0) (h1 : IsI x1) (W : World) : (bdN 62 #[(0, x0), (1, x1)]).run Tryd.prog W = .ok (.agg #[x0, x1]) W := by
  rcases h0 with rfl | ⟨_, _, rfl⟩ <;> rcases h1 with rfl | ⟨_, _, rfl⟩ <;> kernel_rfl
@[go_sem ↓] theorem bd_When (parts : Array (Nat × Value)) : Instr.build 60 parts = bdN 60 parts := rfl
@[go_sem] theorem run_bd_When (x0 : Int) (x1 : Value) (h1 : IsI x1) (W : World) : (bdN 60 #[(0, .int .i64 x0), (1, x1)]).run Tryd.prog W = .ok (.agg #[.int .i64 x0, x1]) W := by
  rcases h1 with rfl | ⟨_, _, rfl⟩ <;> kernel_rfl
@[go_sem ↓] theorem bd_If (parts : Array (Nat × Value)) : Instr.build 66 parts = bdN 66 parts := rfl
@[go_sem] theorem run_bd_If (x0 : Value) (x1 : Value) (x2 : Value) (h0 : IsI x0) (h1 : IsI x1) (h2 : IsI x2) (W : World) : (bdN 66 #[(0, x0), (1, x1), (2, x2)]).run Tryd.prog W = .ok (.agg #[x0, x1, x2]) W := by
  rcases h0 with rfl | ⟨_, _, rfl⟩ <;> rcases h1 with rfl | ⟨_, _, rfl⟩ <;> rcases h2 with rfl | ⟨_, _, rfl⟩ <;> kernel_rfl
end Go.Proofs.YtgcglongjjpkbaaDoor
