/- Struct values of package api that hold numbers and contracts. -/
import Derived.Test.YtapbkomicihkkaaDoorObsG
namespace Go.Proofs.YtapbkomicihkkaaDoor
open Go.RowKit
set_option linter.unusedVariables false
set_option linter.unusedSimpArgs false

/-- A struct literal under a name of its own, so that the walk does not lay it open. -/
def bdN (t : TypeId) (parts : Array (Nat × Value)) : Sem Value := Instr.build t parts
@[go_sem] theorem isI_nil : IsI .nilIface := .inl rfl
@[go_sem] theorem isI_iface (t : TypeId) (x : Value) : IsI (.iface t x) := .inr ⟨t, x, rfl⟩
@[go_sem ↓] theorem bd_Add (parts : Array (Nat × Value)) : Instr.build 60 parts = bdN 60 parts := rfl
@[go_sem] theorem run_bd_Add (x0 : Value) (x1 : Value) (h0 : IsI x0) (h1 : IsI x1) (W : World) : (bdN 60 #[(0, x0), (1, x1)]).run Tryd.prog W = .ok (.agg #[x0, x1]) W := by
  rcases h0 with rfl | ⟨_, _, rfl⟩ <;> rcases h1 with rfl | ⟨_, _, rfl⟩ <;> kernel_rfl
@[go_sem ↓] theorem bd_Mul (parts : Array (Nat × Value)) : Instr.build 44 parts = bdN 44 parts := rfl
@[go_sem] theorem run_bd_Mul (x0 : Value) (x1 : Value) (h0 : IsI x0) (h1 : IsI x1) (W : World) : (bdN 44 #[(0, x0), (1, x1)]).run Tryd.prog W = .ok (.agg #[x0, x1]) W := by
  rcases h0 with rfl | ⟨_, _, rfl⟩ <;> rcases h1 with rfl | ⟨_, _, rfl⟩ <;> kernel_rfl
@[go_sem ↓] theorem bd_Max (parts : Array (Nat × Value)) : Instr.build 61 parts = bdN 61 parts := rfl
@[go_sem] theorem run_bd_Max (x0 : Value) (x1 : Value) (h0 : IsI x0) (h1 : IsI x1) (W : World) : (bdN 61 #[(0, x0), (1, x1)]).run Tryd.prog W = .ok (.agg #[x0, x1]) W := by
  rcases h0 with rfl | ⟨_, _, rfl⟩ <;> rcases h1 with rfl | ⟨_, _, rfl⟩ <;> kernel_rfl
@[go_sem ↓] theorem bd_And (parts : Array (Nat × Value)) : Instr.build 53 parts = bdN 53 parts := rfl
@[go_sem] theorem run_bd_And (x0 : Value) (x1 : Value) (h0 : IsI x0) (h1 : IsI x1) (W : World) : (bdN 53 #[(0, x0), (1, x1)]).run Tryd.prog W = .ok (.agg #[x0, x1]) W := by
  rcases h0 with rfl | ⟨_, _, rfl⟩ <;> rcases h1 with rfl | ⟨_, _, rfl⟩ <;> kernel_rfl
@[go_sem ↓] theorem bd_Neg (parts : Array (Nat × Value)) : Instr.build 42 parts = bdN 42 parts := rfl
@[go_sem] theorem run_bd_Neg (x0 : Value) (h0 : IsI x0) (W : World) : (bdN 42 #[(0, x0)]).run Tryd.prog W = .ok (.agg #[x0]) W := by
  rcases h0 with rfl | ⟨_, _, rfl⟩ <;> kernel_rfl
@[go_sem ↓] theorem bd_Give (parts : Array (Nat × Value)) : Instr.build 51 parts = bdN 51 parts := rfl
@[go_sem] theorem run_bd_Give (x0 : Value) (h0 : IsI x0) (W : World) : (bdN 51 #[(0, x0)]).run Tryd.prog W = .ok (.agg #[x0]) W := by
  rcases h0 with rfl | ⟨_, _, rfl⟩ <;> kernel_rfl
@[go_sem ↓] theorem bd_Or (parts : Array (Nat × Value)) : Instr.build 55 parts = bdN 55 parts := rfl
@[go_sem] theorem run_bd_Or (x0 : ByteArray) (x1 : Value) (x2 : Value) (h1 : IsI x1) (h2 : IsI x2) (W : World) : (bdN 55 #[(0, .string x0), (1, x1), (2, x2)]).run Tryd.prog W = .ok (.agg #[.string x0, x1, x2]) W := by
  rcases h1 with rfl | ⟨_, _, rfl⟩ <;> rcases h2 with rfl | ⟨_, _, rfl⟩ <;> kernel_rfl
@[go_sem ↓] theorem bd_Scale (parts : Array (Nat × Value)) : Instr.build 59 parts = bdN 59 parts := rfl
@[go_sem] theorem run_bd_Scale (x0 : Value) (x1 : Value) (h0 : IsI x0) (h1 : IsI x1) (W : World) : (bdN 59 #[(0, x0), (1, x1)]).run Tryd.prog W = .ok (.agg #[x0, x1]) W := by
  rcases h0 with rfl | ⟨_, _, rfl⟩ <;> rcases h1 with rfl | ⟨_, _, rfl⟩ <;> kernel_rfl
@[go_sem ↓] theorem bd_When (parts : Array (Nat × Value)) : Instr.build 57 parts = bdN 57 parts := rfl
@[go_sem] theorem run_bd_When (x0 : Int) (x1 : Value) (h1 : IsI x1) (W : World) : (bdN 57 #[(0, .int .i64 x0), (1, x1)]).run Tryd.prog W = .ok (.agg #[.int .i64 x0, x1]) W := by
  rcases h1 with rfl | ⟨_, _, rfl⟩ <;> kernel_rfl
@[go_sem ↓] theorem bd_If (parts : Array (Nat × Value)) : Instr.build 63 parts = bdN 63 parts := rfl
@[go_sem] theorem run_bd_If (x0 : Value) (x1 : Value) (x2 : Value) (h0 : IsI x0) (h1 : IsI x1) (h2 : IsI x2) (W : World) : (bdN 63 #[(0, x0), (1, x1), (2, x2)]).run Tryd.prog W = .ok (.agg #[x0, x1, x2]) W := by
  rcases h0 with rfl | ⟨_, _, rfl⟩ <;> rcases h1 with rfl | ⟨_, _, rfl⟩ <;> rcases h2 with rfl | ⟨_, _, rfl⟩ <;> kernel_rfl
end Go.Proofs.YtapbkomicihkkaaDoor
