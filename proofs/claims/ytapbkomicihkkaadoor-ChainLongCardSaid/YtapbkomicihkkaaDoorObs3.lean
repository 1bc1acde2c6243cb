/- Whether a number is of its form; whether two are made alike; whether one may be. -/
import Derived.Test.YtapbkomicihkkaaDoorObs2
import Derived.Test.YtapbkomicihkkaaDoorSlf
import Derived.Laws.StructEq
namespace Go.Proofs.YtapbkomicihkkaaDoor
open Go.RowKit
set_option linter.unusedVariables false
set_option linter.unusedSimpArgs false

theorem hcall_oform (args : Array Value) (W : World) : (callFunc 78 args).run Tryd.prog W = .ok (.enter 78 args) W := by kernel_rfl
def Ob.form : Ob → Bool
  | .const n => validB n
  | .fix s => nameB s
  | .add l r | .mul l r | .max l r => l.form && r.form
  | .neg o => o.form
  | .odd _ => false
def kidNot (o : Ob) (j : Nat) : Bool := match o.kids[j]? with | some k => !k.form | none => false
theorem Ob.form_kids (o : Ob) (h : o.leaf.1 = false) (h2 : o.isOdd = false) : (!anyTo (kidNot o) o.kids.length) = o.form := by
  cases o <;> simp_all [Ob.leaf, Ob.isOdd, Ob.form, anyTo, kidNot, Ob.kids, List.range_succ]
theorem Ob.form_leaf (o : Ob) (h : o.leaf.1 = true) : o.leaf.2 = o.form := by cases o <;> simp_all [Ob.leaf, Ob.form]
theorem Ob.form_odd (o : Ob) (h2 : o.isOdd = true) : o.form = false := by cases o <;> simp_all [Ob.isOdd, Ob.form]
set_option maxRecDepth 100000 in
set_option maxHeartbeats 1000000 in
theorem form_calls (B : Nat) : ∀ (o : Ob), o.meas ≤ B → o.ok → ∀ w : World,
    Calls Tryd.prog 54 #[o.val] w fun e w' => e = .returned (.bool o.form) ∧ Below w.heap.size w w' := by
  induction B with
  | zero => intro o h; cases o <;> simp [Ob.meas] at h
  | succ B ih =>
    intro o hm ho w
    have hp : ∀ W, PredOn 78 W (Ob.vals o.kids) (kidNot o) := by
      intro W j x hx W' _
      unfold Ob.vals at hx
      rw [List.getElem?_map] at hx
      obtain ⟨k, hk, rfl⟩ := Option.map_eq_some_iff.1 hx
      have hmem := List.mem_of_getElem? hk
      have h1 := ih k (by have := o.kid_meas k hmem; omega) (o.kid_ok ho k hmem)
      have h2 : kidNot o j = !k.form := by unfold kidNot; rw [hk]
      rw [h2]
      clear hx hk h2 ih hmem
      go_enter Tryd.func78, Tryd.ntmps78
      go_wp2_with (go_at_call 54; refine (h1 _).mono ?_; rintro e w1 ⟨rfl, hb1⟩)
      go_ret
      exact ⟨rfl, hb1⟩
    have HP := Lib.hid hp
    clear hp ih
    have hlen := o.kids_len
    cases hl : o.leaf.1 with
    | true =>
      have hpp : pairB o.leaf = .tuple #[.bool true, .bool o.leaf.2] := by unfold pairB; rw [hl]
      have hc := leaf_calls o ho w
      rw [hpp] at hc
      have HL := Lib.hid (o.form_leaf hl)
      clear hl hpp
      go_enter Tryd.func54, Tryd.ntmps54
      go_wp2_with (go_at_call 74; refine hc.mono ?_; rintro e w1 ⟨rfl, hb1⟩)
      go_ret
      exact ⟨ret_bool HL.out, hb1⟩
    | false =>
      have hpp : pairB o.leaf = .tuple #[.bool false, .bool o.leaf.2] := by unfold pairB; rw [hl]
      have hc := leaf_calls o ho w
      rw [hpp] at hc
      cases hodd : o.isOdd with
      | true =>
        have hn := none_calls o ho
        rw [hodd] at hn
        have HF := Lib.hid (o.form_odd hodd)
        clear hl hpp hodd
        go_enter Tryd.func54, Tryd.ntmps54
        go_wp2_with (first | (go_at_call 74; refine hc.mono ?_; rintro e w1 ⟨rfl, hb1⟩) | (go_at_call 75; refine (hn _).mono ?_; rintro e w2 ⟨rfl, hb2⟩))
        go_ret
        exact ⟨ret_bool HF.out.symm, bl_step hb2 hb1⟩
      | false =>
        have hn := none_calls o ho
        rw [hodd] at hn
        have HF := Lib.hid (o.form_kids hl hodd)
        clear hl hpp hodd
        go_enter Tryd.func54, Tryd.ntmps54
        go_wp2_with (first | (go_at_call 74; refine hc.mono ?_; rintro e w1 ⟨rfl, hb1⟩) | (go_at_call 75; refine (hn _).mono ?_; rintro e w2 ⟨rfl, hb2⟩) | (go_at_call 77; refine (obs_kids o ho _).mono ?_; intro e w3 hr; obtain ⟨A, c, rfl, hrd, hb3, hnc⟩ := hr.open_; clear hr) | (go_at_call 76; refine (obs_contains _ hcall_oform A _ c _ (by simp [Ob.vals]) (kidNot o) _ hrd (by omega) (HP.out _)).mono ?_; rintro e w4 ⟨rfl, hb4⟩))
        go_ret
        refine ⟨ret_bool HF.out, ?_⟩
        repeat (first | exact bl_refl _ | refine bl_alloc ?_ _ | refine bl_drew ?_ | refine bl_drewN ?_ _ | refine bl_step (by assumption) ?_)
def Ob.check (o : Ob) : Int := if o.form then (if 60 < o.nodes ∨ 12 < o.deep then 5 else 0) else 2
set_option maxRecDepth 100000 in
set_option maxHeartbeats 400000 in
theorem check_calls (o : Ob) (ho : o.ok) (hm : o.meas ≤ 4611686018427387904) (w : World) :
    Calls Tryd.prog 34 #[o.val] w fun e w' => e = .returned (.int .i64 o.check) ∧ Below w.heap.size w w' := by
  have hf := form_calls _ o (Nat.le_refl _) ho w
  have hs := size_calls _ o (Nat.le_refl _) ho hm
  have hc : Hid (o.check = if o.form then (if 60 < o.nodes ∨ 12 < o.deep then 5 else 0) else 2) := rfl
  cases hfo : o.form with
  | false =>
    rw [hfo] at hf hc
    have HC := Lib.hid hc.out
    clear hfo hc
    go_enter Tryd.func34, Tryd.ntmps34
    go_wp2_with (go_at_call 54; refine hf.mono ?_; rintro e w1 ⟨rfl, hb1⟩)
    go_ret
    exact ⟨by rw [HC.out]; rfl, hb1⟩
  | true =>
    rw [hfo] at hf hc
    have HC := Lib.hid hc.out
    clear hfo hc
    go_enter Tryd.func34, Tryd.ntmps34
    go_wp2_with (first | (go_at_call 54; refine hf.mono ?_; rintro e w1 ⟨rfl, hb1⟩) | (go_at_call 55; refine (hs _).mono ?_; rintro e w2 ⟨rfl, hb2⟩))
    all_goals go_ret
    all_goals
      refine ⟨ret_int ?_, bl_step hb2 hb1⟩
      simp only [HC.out, if_true]
      first | rw [if_pos (by omega)] | rw [if_neg (by omega)]
theorem eqS_of {P : Program} {d : Nat} {t : TypeId} {fs : Array Field} {xs ys : Array Value} {r : Bool} {w : World} (hu : P.underlying t = some (.struct fs)) (hp : P.stoodInHeld t = false) (h : (Op.eqFields d xs ys fs.toList).run P w = .ok r w) : (Op.equalIn (d + 1) t (.agg xs) (.agg ys)).run P w = .ok r w := by
  have hf : P.fieldsOf t = fs := by simp [Program.fieldsOf, hu]
  rw [run_equalIn_struct w d t xs ys (by rw [hf]; exact hu) hp, hf]
  exact h
theorem eqg_Const (op : BinOp) (x y : Operand) (n m : Int) (w : World) : (eqGuard op 39 x y (.agg #[.int .i64 n]) (.agg #[.int .i64 m])).run Tryd.prog w = .ok () w := run_eqGuard_agg w op _ x y _ _ (by kernel_rfl)
theorem eq_Const (n m : Int) (w : World) : (binOp .eql 39 (.agg #[.int .i64 n]) (.agg #[.int .i64 m])).run Tryd.prog w = .ok (.bool (n == m)) w := by
  rw [run_eql_struct]
  have h : (Op.equalIn 10000 39 (.agg #[.int .i64 n]) (.agg #[.int .i64 m])).run Tryd.prog w = .ok (n == m) w := eqS_of (d := 9999) Tryd.underlying39 (by kernel_rfl) (by go_simp; split <;> simp_all)
  rw [h]; rfl
theorem eqg_Fix (op : BinOp) (x y : Operand) (n m : ByteArray) (w : World) : (eqGuard op 37 x y (.agg #[.string n]) (.agg #[.string m])).run Tryd.prog w = .ok () w := run_eqGuard_agg w op _ x y _ _ (by kernel_rfl)
theorem eq_Fix (n m : ByteArray) (w : World) : (binOp .eql 37 (.agg #[.string n]) (.agg #[.string m])).run Tryd.prog w = .ok (.bool (n.toList == m.toList)) w := by
  rw [run_eql_struct]
  have h : (Op.equalIn 10000 37 (.agg #[.string n]) (.agg #[.string m])).run Tryd.prog w = .ok (n.toList == m.toList) w := eqS_of (d := 9999) Tryd.underlying37 (by kernel_rfl) (by go_simp; split <;> simp_all)
  rw [h]; rfl
attribute [go_sem high] eqg_Const eq_Const eqg_Fix eq_Fix
def Ob.same : Ob → Ob → Bool
  | .const n, .const m => n == m
  | .fix s, .fix t => s.toList == t.toList
  | .add l r, .add l' r' => l.same l' && r.same r'
  | .mul l r, .mul l' r' => l.same l' && r.same r'
  | .max l r, .max l' r' => l.same l' && r.same r'
  | .neg o, .neg o' => o.same o'
  | _, _ => false
def kidSame (o p : Ob) (j : Nat) : Bool := match o.kids[j]?, p.kids[j]? with | some k, some l => k.same l | _, _ => false
end Go.Proofs.YtapbkomicihkkaaDoor
