/- Events; the walks over package event: which fields a kind names; whether an event has others. -/
import Derived.Test.YtnekcijganhknaaGreatDoorWriteG
import Derived.Test.YtnekcijganhknaaGreatDoorMapIt
import Derived.Test.YtnekcijganhknaaGreatDoorBuild
namespace Go.Proofs.YtnekcijganhknaaGreatDoor
open Go.RowKit
set_option linter.unusedVariables false
set_option linter.unusedSimpArgs false

/-- An event; its term is nil, or one. -/
structure Ev where
  kind : Int
  id : ByteArray
  name : ByteArray
  label : ByteArray
  cur : ByteArray
  day : Int
  value : Int
  term : Tm
def Ev.val (e : Ev) : Value := .agg #[.int .i64 e.kind, .string e.id, .string e.name, .string e.label, .string e.cur, .int .i64 e.day, .int .i64 e.value, e.term.val]
def Ev.cells (e : Ev) : Array Value := #[.int .i64 e.kind, .string e.id, .string e.name, .string e.label, .string e.cur, .int .i64 e.day, .int .i64 e.value, e.term.val]
def IsInt64 (n : Int) : Prop := -9223372036854775808 ≤ n ∧ n < 9223372036854775808
structure Ev.ok (e : Ev) : Prop where
  kind : IsInt64 e.kind
  day : IsInt64 e.day
  value : IsInt64 e.value
  term : e.term.ok
def Tm.isNil : Tm → Bool
  | .odd .nilIface => true
  | _ => false
theorem Tm.nil_shape (t : Tm) (h : t.ok) : (t.isNil = true ∧ t.val = .nilIface) ∨ (t.isNil = false ∧ ∃ u x, t.val = .iface u x) := by
  cases t with
  | odd v =>
    rcases h with rfl | ⟨u, x, rfl, _⟩
    · exact .inl ⟨rfl, rfl⟩
    · exact .inr ⟨rfl, u, x, rfl⟩
  | _ => exact .inr ⟨rfl, _, _, rfl⟩
theorem nil_guard (t : Tm) (h : t.ok) (x : Operand) (w : World) : (eqGuard .eql 30 x (.const .nilIface) t.val .nilIface).run Tryz.prog w = .ok () w := by
  rcases t.nil_shape h with ⟨_, e⟩ | ⟨_, u, y, e⟩
  · rw [e]; simp [eqGuard]
  · rw [e]; rfl
theorem nil_eql (t : Tm) (h : t.ok) (w : World) : (binOp .eql 30 t.val .nilIface).run Tryz.prog w = .ok (.bool t.isNil) w := by
  rcases t.nil_shape h with ⟨e2, e⟩ | ⟨e2, u, y, e⟩
  · rw [e, e2]; kernel_rfl
  · rw [e, e2]; kernel_rfl
def fieldsL (k : Int) : List UInt8 :=
  if k = 1 then [] else if k = 2 then [73, 84] else if k = 3 then [78, 68, 86] else if k = 4 then [73, 76, 86] else if k = 5 then [68] else if k = 6 then [68, 67, 86] else [63]
def fieldsS (k : Int) : ByteArray := ⟨(fieldsL k).toArray⟩
theorem fields_calls (k : Int) (w : World) :
    Calls Tryz.prog 98 #[.int .i64 k] w fun e w' => e = .returned (.string (fieldsS k)) ∧ w = w' := by
  have hf : Hid (fieldsS k = ⟨(fieldsL k).toArray⟩) := rfl
  go_enter Tryz.func98, Tryz.ntmps98
  go_wp2
  all_goals go_ret
  all_goals
    refine ⟨?_, rfl⟩
    rw [hf.out]
    simp only [beq_iff_eq, beq_eq_false_iff_ne, ne_eq] at *
    first
      | (subst_vars; rfl)
      | (unfold fieldsL; simp only [*, if_false]; rfl)
def hasB (k : Int) (c : UInt8) : Bool := decide (0 ≤ Lib.indexByte (fieldsL k) c)
theorem has_calls (k : Int) (c : UInt8) (w : World) :
    Calls Tryz.prog 126 #[.int .i64 k, .string ⟨#[c]⟩] w fun e w' => e = .returned (.bool (hasB k c)) ∧ w = w' := by
  have hc := fun w => Tryz.strings_Contains_one (fieldsS k) c w
  have e : (fieldsS k).data.toList = fieldsL k := rfl
  rw [e] at hc
  have HC := Lib.hid hc
  have HB : Hid (decide (0 ≤ Lib.indexByte (fieldsL k) c) = hasB k c) := rfl
  clear hc e
  go_enter Tryz.func126, Tryz.ntmps126
  go_wp2_with fail
  refine (fields_calls k _).mono ?_
  rintro e w1 ⟨rfl, rfl⟩
  go_wp2_with fail
  refine (HC.out _).mono ?_
  rintro e w1 ⟨rfl, rfl⟩
  go_wp2_with fail
  go_ret
  exact ⟨rfl, rfl⟩
end Go.Proofs.YtnekcijganhknaaGreatDoor
