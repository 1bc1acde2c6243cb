/- Struct values of package api that hold numbers and contracts. -/
import Derived.Test.YtnekcijganhknaaGreatDoorObsG
namespace Go.Proofs.YtnekcijganhknaaGreatDoor
open Go.RowKit
set_option linter.unusedVariables false
set_option linter.unusedSimpArgs false

/-- A struct literal under a name of its own, so that the walk does not lay it open. -/
def bdN (t : TypeId) (parts : Array (Nat × Value)) : Sem Value := Instr.build t parts
@[go_sem] theorem isI_nil : IsI .nilIface := .inl rfl
@[go_sem] theorem isI_iface (t : TypeId) (x : Value) : IsI (.iface t x) := .inr ⟨t, x, rfl⟩
@[go_sem ↓] theorem bd_Add (parts : Array (Nat × Value)) : Instr.build 168 parts = bdN 168 parts := rfl
@[go_sem] theorem run_bd_Add (x0 : Value) (x1 : Value) (h0 : IsI x0) (h1 : IsI x1) (W : World) : (bdN 168 #[(0, x0), (1, x1)]).run Tryz.prog W = .ok (.agg #[x0, x1]) W := by
  rcases h0 with rfl | ⟨_, _, rfl⟩ <;> rcases h1 with rfl | ⟨_, _, rfl⟩ <;> kernel_rfl
@[go_sem ↓] theorem bd_Mul (parts : Array (Nat × Value)) : Instr.build 36 parts = bdN 36 parts := rfl
@[go_sem] theorem run_bd_Mul (x0 : Value) (x1 : Value) (h0 : IsI x0) (h1 : IsI x1) (W : World) : (bdN 36 #[(0, x0), (1, x1)]).run Tryz.prog W = .ok (.agg #[x0, x1]) W := by
  rcases h0 with rfl | ⟨_, _, rfl⟩ <;> rcases h1 with rfl | ⟨_, _, rfl⟩ <;> kernel_rfl
@[go_sem ↓] theorem bd_Max (parts : Array (Nat × Value)) : Instr.build 171 parts = bdN 171 parts := rfl
@[go_sem] theorem run_bd_Max (x0 : Value) (x1 : Value) (h0 : IsI x0) (h1 : IsI x1) (W : World) : (bdN 171 #[(0, x0), (1, x1)]).run Tryz.prog W = .ok (.agg #[x0, x1]) W := by
  rcases h0 with rfl | ⟨_, _, rfl⟩ <;> rcases h1 with rfl | ⟨_, _, rfl⟩ <;> kernel_rfl
@[go_sem ↓] theorem bd_And (parts : Array (Nat × Value)) : Instr.build 126 parts = bdN 126 parts := rfl
@[go_sem] theorem run_bd_And (x0 : Value) (x1 : Value) (h0 : IsI x0) (h1 : IsI x1) (W : World) : (bdN 126 #[(0, x0), (1, x1)]).run Tryz.prog W = .ok (.agg #[x0, x1]) W := by
  rcases h0 with rfl | ⟨_, _, rfl⟩ <;> rcases h1 with rfl | ⟨_, _, rfl⟩ <;> kernel_rfl
@[go_sem ↓] theorem bd_Neg (parts : Array (Nat × Value)) : Instr.build 170 parts = bdN 170 parts := rfl
@[go_sem] theorem run_bd_Neg (x0 : Value) (h0 : IsI x0) (W : World) : (bdN 170 #[(0, x0)]).run Tryz.prog W = .ok (.agg #[x0]) W := by
  rcases h0 with rfl | ⟨_, _, rfl⟩ <;> kernel_rfl
@[go_sem ↓] theorem bd_Give (parts : Array (Nat × Value)) : Instr.build 93 parts = bdN 93 parts := rfl
@[go_sem] theorem run_bd_Give (x0 : Value) (h0 : IsI x0) (W : World) : (bdN 93 #[(0, x0)]).run Tryz.prog W = .ok (.agg #[x0]) W := by
  rcases h0 with rfl | ⟨_, _, rfl⟩ <;> kernel_rfl
@[go_sem ↓] theorem bd_Or (parts : Array (Nat × Value)) : Instr.build 78 parts = bdN 78 parts := rfl
@[go_sem] theorem run_bd_Or (x0 : ByteArray) (x1 : Value) (x2 : Value) (h1 : IsI x1) (h2 : IsI x2) (W : World) : (bdN 78 #[(0, .string x0), (1, x1), (2, x2)]).run Tryz.prog W = .ok (.agg #[.string x0, x1, x2]) W := by
  rcases h1 with rfl | ⟨_, _, rfl⟩ <;> rcases h2 with rfl | ⟨_, _, rfl⟩ <;> kernel_rfl
@[go_sem ↓] theorem bd_Scale (parts : Array (Nat × Value)) : Instr.build 32 parts = bdN 32 parts := rfl
@[go_sem] theorem run_bd_Scale (x0 : Value) (x1 : Value) (h0 : IsI x0) (h1 : IsI x1) (W : World) : (bdN 32 #[(0, x0), (1, x1)]).run Tryz.prog W = .ok (.agg #[x0, x1]) W := by
  rcases h0 with rfl | ⟨_, _, rfl⟩ <;> rcases h1 with rfl | ⟨_, _, rfl⟩ <;> kernel_rfl
@[go_sem ↓] theorem bd_When (parts : Array (Nat × Value)) : Instr.build 80 parts = bdN 80 parts := rfl
@[go_sem] theorem run_bd_When (x0 : Int) (x1 : Value) (h1 : IsI x1) (W : World) : (bdN 80 #[(0, .int .i64 x0), (1, x1)]).run Tryz.prog W = .ok (.agg #[.int .i64 x0, x1]) W := by
  rcases h1 with rfl | ⟨_, _, rfl⟩ <;> kernel_rfl
@[go_sem ↓] theorem bd_If (parts : Array (Nat × Value)) : Instr.build 129 parts = bdN 129 parts := rfl
@[go_sem] theorem run_bd_If (x0 : Value) (x1 : Value) (x2 : Value) (h0 : IsI x0) (h1 : IsI x1) (h2 : IsI x2) (W : World) : (bdN 129 #[(0, x0), (1, x1), (2, x2)]).run Tryz.prog W = .ok (.agg #[x0, x1, x2]) W := by
  rcases h0 with rfl | ⟨_, _, rfl⟩ <;> rcases h1 with rfl | ⟨_, _, rfl⟩ <;> rcases h2 with rfl | ⟨_, _, rfl⟩ <;> kernel_rfl
end Go.Proofs.YtnekcijganhknaaGreatDoor
