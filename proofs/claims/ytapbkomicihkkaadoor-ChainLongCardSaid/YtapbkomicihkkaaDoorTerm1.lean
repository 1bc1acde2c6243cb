/- The walks over package term: a contract's kind, what is its own, its number, its parts. -/
import Derived.Test.YtapbkomicihkkaaDoorObs3
namespace Go.Proofs.YtapbkomicihkkaaDoor
open Go.RowKit
set_option linter.unusedVariables false
set_option linter.unusedSimpArgs false

def Tm.kind : Tm → Int
  | .zero => 1
  | .one _ => 2
  | .give _ => 3
  | .and _ _ => 4
  | .or _ _ _ => 5
  | .scale _ _ => 6
  | .when_ _ _ => 7
  | .if_ _ _ _ => 8
  | .odd _ => 0
def Tm.ownS : Tm → ByteArray
  | .one s => s
  | .or s _ _ => s
  | _ => ⟨#[]⟩
def Tm.ownN : Tm → Int
  | .when_ n _ => n
  | _ => 0
def Tm.num : Tm → Option Ob
  | .scale o _ => some o
  | .if_ o _ _ => some o
  | _ => none
def numV : Option Ob → Value
  | some o => o.val
  | none => .nilIface
def Tm.kids : Tm → List Tm
  | .give t => [t]
  | .and l r => [l, r]
  | .or _ l r => [l, r]
  | .scale _ t => [t]
  | .when_ _ t => [t]
  | .if_ _ l r => [l, r]
  | _ => []
def Tm.vals (l : List Tm) : List Value := l.map Tm.val
set_option maxRecDepth 100000 in
set_option maxHeartbeats 1000000 in
theorem tkind_calls (o : Tm) (ho : o.ok) (w : World) :
    Calls Tryd.prog 64 #[o.val] w fun e w' => e = .returned (.int .i64 o.kind) ∧ Below w.heap.size w w' := by
  cases o with
  | odd v =>
    rcases ho with h | ⟨t, x, h, h1, h2, h3, h4, h5, h6, h7, h8⟩
    all_goals
      subst h
      unfold Tm.val
      go_enter Tryd.func64, Tryd.ntmps64
      go_wp2
      go_ret
      refine ⟨rfl, ?_⟩
      repeat (first | exact bl_refl _ | refine bl_alloc ?_ _ | refine bl_drew ?_ | refine bl_drewN ?_ _ | refine bl_step (by assumption) ?_)
  | _ =>
    try simp only [Tm.ok] at ho
    unfold Tm.val
    go_enter Tryd.func64, Tryd.ntmps64
    go_wp2
    try (go_quiet (fail); go_wp2)
    go_ret
    refine ⟨rfl, ?_⟩
    repeat (first | exact bl_refl _ | refine bl_alloc ?_ _ | refine bl_drew ?_ | refine bl_drewN ?_ _ | refine bl_step (by assumption) ?_)
set_option maxRecDepth 100000 in
set_option maxHeartbeats 1000000 in
theorem town_calls (o : Tm) (ho : o.ok) (w : World) :
    Calls Tryd.prog 63 #[o.val] w fun e w' => e = .returned (.tuple #[.string o.ownS, .int .i64 o.ownN]) ∧ Below w.heap.size w w' := by
  cases o with
  | odd v =>
    rcases ho with h | ⟨t, x, h, h1, h2, h3, h4, h5, h6, h7, h8⟩
    all_goals
      subst h
      unfold Tm.val
      go_enter Tryd.func63, Tryd.ntmps63
      go_wp2
      go_ret2
      refine ⟨rfl, ?_⟩
      repeat (first | exact bl_refl _ | refine bl_alloc ?_ _ | refine bl_drew ?_ | refine bl_drewN ?_ _ | refine bl_step (by assumption) ?_)
  | _ =>
    try simp only [Tm.ok] at ho
    unfold Tm.val
    go_enter Tryd.func63, Tryd.ntmps63
    go_wp2
    try (go_quiet (fail); go_wp2)
    go_ret2
    refine ⟨rfl, ?_⟩
    repeat (first | exact bl_refl _ | refine bl_alloc ?_ _ | refine bl_drew ?_ | refine bl_drewN ?_ _ | refine bl_step (by assumption) ?_)
set_option maxRecDepth 100000 in
set_option maxHeartbeats 1000000 in
theorem tnumber_calls (o : Tm) (ho : o.ok) (w : World) :
    Calls Tryd.prog 66 #[o.val] w fun e w' => e = .returned (.tuple #[numV o.num, .bool o.num.isSome]) ∧ Below w.heap.size w w' := by
  cases o with
  | odd v =>
    rcases ho with h | ⟨t, x, h, h1, h2, h3, h4, h5, h6, h7, h8⟩
    all_goals
      subst h
      unfold Tm.val
      go_enter Tryd.func66, Tryd.ntmps66
      go_wp2
      go_ret2
      refine ⟨rfl, ?_⟩
      repeat (first | exact bl_refl _ | refine bl_alloc ?_ _ | refine bl_drew ?_ | refine bl_drewN ?_ _ | refine bl_step (by assumption) ?_)
  | _ =>
    try simp only [Tm.ok] at ho
    unfold Tm.val
    go_enter Tryd.func66, Tryd.ntmps66
    go_wp2
    try (go_quiet (fail); go_wp2)
    go_ret2
    refine ⟨rfl, ?_⟩
    repeat (first | exact bl_refl _ | refine bl_alloc ?_ _ | refine bl_drew ?_ | refine bl_drewN ?_ _ | refine bl_step (by assumption) ?_)
end Go.Proofs.YtapbkomicihkkaaDoor
