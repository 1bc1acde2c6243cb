/- Whether a contract is of its form. -/
import Derived.Test.YtapbkomicihkkaaDoorTerm2
namespace Go.Proofs.YtapbkomicihkkaaDoor
open Go.RowKit
set_option linter.unusedVariables false
set_option linter.unusedSimpArgs false

theorem hcall_tform (args : Array Value) (W : World) : (callFunc 69 args).run Tryd.prog W = .ok (.enter 69 args) W := by kernel_rfl
def dayB (n : Int) : Bool := decide (0 ≤ n ∧ n ≤ 10000)
def Tm.form : Tm → Bool
  | .zero => true
  | .one s => nameB s
  | .give t => t.form
  | .and l r => l.form && r.form
  | .or s l r => nameB s && (l.form && r.form)
  | .scale o t => o.form && t.form
  | .when_ n t => dayB n && t.form
  | .if_ o l r => o.form && (l.form && r.form)
  | .odd _ => false
def tkidNot (o : Tm) (j : Nat) : Bool := match o.kids[j]? with | some k => !k.form | none => false
def Tm.kidsForm (o : Tm) : Bool := !anyTo (tkidNot o) o.kids.length
theorem kind_of_one (w : World) : Calls Tryd.prog 64 #[.iface 49 (.agg #[.string ⟨#[]⟩])] w fun e w' => e = .returned (.int .i64 2) ∧ Below w.heap.size w w' := tkind_calls (.one ⟨#[]⟩) (by simp [Tm.ok]; decide) w
theorem kind_of_or (w : World) : Calls Tryd.prog 64 #[.iface 55 (.agg #[.string ⟨#[]⟩, .nilIface, .nilIface])] w fun e w' => e = .returned (.int .i64 5) ∧ Below w.heap.size w w' := tkind_calls (.or ⟨#[]⟩ (.odd .nilIface) (.odd .nilIface)) ⟨by decide, .inl rfl, .inl rfl⟩ w
theorem Ob.check_two (o : Ob) : (o.check == 2) = !o.form := by
  unfold Ob.check
  cases o.form
  · rfl
  · by_cases h : 60 < o.nodes ∨ 12 < o.deep <;> simp [h]
set_option maxRecDepth 100000 in
set_option maxHeartbeats 4000000 in
theorem tform_calls (B : Nat) : ∀ (o : Tm), o.meas ≤ B → B ≤ 4611686018427387904 → o.ok → ∀ w : World,
    Calls Tryd.prog 43 #[o.val] w fun e w' => e = .returned (.bool o.form) ∧ Below w.heap.size w w' := by
  induction B with
  | zero => intro o h; cases o <;> simp [Tm.meas] at h
  | succ B ih =>
    intro o hm hB ho w
    have hp : ∀ W, PredOn 69 W (Tm.vals o.kids) (tkidNot o) := by
      intro W j x hx W' _
      unfold Tm.vals at hx
      rw [List.getElem?_map] at hx
      obtain ⟨k, hk, rfl⟩ := Option.map_eq_some_iff.1 hx
      have hmem := List.mem_of_getElem? hk
      have h1 := ih k (by have := o.kid_meas k hmem; omega) (by omega) (o.kid_ok ho k hmem)
      have h2 : tkidNot o j = !k.form := by unfold tkidNot; rw [hk]
      rw [h2]
      clear hx hk h2 ih hmem
      go_enter Tryd.func69, Tryd.ntmps69
      go_wp2_with (go_at_call 43; refine (h1 _).mono ?_; rintro e w1 ⟨rfl, hb1⟩)
      go_ret
      exact ⟨rfl, hb1⟩
    have HP := Lib.hid hp
    clear hp
    cases o with
    | odd v =>
      have ho1 := fun w => town_calls (.odd v) ho w
      have hk1 := fun w => tkind_calls (.odd v) ho w
      have hn1 := fun w => tnumber_calls (.odd v) ho w
      have hkd := fun w => term_kids (.odd v) ho w
      have HKD := Lib.hid hkd
      clear hkd ih
      simp only [Tm.ownS, Tm.ownN, Tm.kind, Tm.num, numV, Option.isSome] at ho1 hk1 hn1
      have hb0 := bl_refl w
      go_enter Tryd.func43, Tryd.ntmps43
      go_wp2_with fail
      refine (ho1 _).mono ?_
      rintro e w1 ⟨rfl, hb1⟩
      go_wp2_with fail
      refine (hk1 _).mono ?_
      rintro e w2 ⟨rfl, hb2⟩
      go_wp2_with fail
      refine (kind_of_one _).mono ?_
      rintro e w3 ⟨rfl, hb3⟩
      go_wp2_with fail
      refine (hk1 _).mono ?_
      rintro e w4 ⟨rfl, hb4⟩
      go_wp2_with fail
      refine (kind_of_or _).mono ?_
      rintro e w5 ⟨rfl, hb5⟩
      go_wp2_with fail
      refine (hk1 _).mono ?_
      rintro e w6 ⟨rfl, hb6⟩
      go_wp2_with fail
      go_ret
      refine ⟨rfl, ?_⟩
      repeat (first | exact bl_refl _ | refine bl_alloc ?_ _ | refine bl_drew ?_ | refine bl_drewN ?_ _ | refine bl_step (by assumption) ?_)
    | zero =>
      have hf : Tm.zero.form = Tm.zero.kidsForm := by simp [Tm.form, Tm.kidsForm, Tm.kids, anyTo]
      have HF := Lib.hid hf
      clear hf
      have ho1 := fun w => town_calls .zero ho w
      have hk1 := fun w => tkind_calls .zero ho w
      have hn1 := fun w => tnumber_calls .zero ho w
      have hkd := fun w => term_kids .zero ho w
      have HKD := Lib.hid hkd
      clear hkd ih
      simp only [Tm.ownS, Tm.ownN, Tm.kind, Tm.num, numV, Option.isSome] at ho1 hk1 hn1
      have hb0 := bl_refl w
      go_enter Tryd.func43, Tryd.ntmps43
      go_wp2_with fail
      refine (ho1 _).mono ?_
      rintro e w1 ⟨rfl, hb1⟩
      go_wp2_with fail
      refine (hk1 _).mono ?_
      rintro e w2 ⟨rfl, hb2⟩
      go_wp2_with fail
      refine (kind_of_one _).mono ?_
      rintro e w3 ⟨rfl, hb3⟩
      go_wp2_with fail
      refine (hk1 _).mono ?_
      rintro e w4 ⟨rfl, hb4⟩
      go_wp2_with fail
      refine (kind_of_or _).mono ?_
      rintro e w5 ⟨rfl, hb5⟩
      go_wp2_with fail
      refine (hk1 _).mono ?_
      rintro e w6 ⟨rfl, hb6⟩
      go_wp2_with fail
      refine (hn1 _).mono ?_
      rintro e w7 ⟨rfl, hb7⟩
      go_wp2_with fail
      refine (HKD.out _).mono ?_
      intro e w8 hr; obtain ⟨A, c, rfl, hrd, hb8, hnc⟩ := hr.open_; clear hr
      have HRD := Lib.hid hrd
      clear hrd
      go_wp2_with fail
      refine (term_contains _ hcall_tform A _ c _ (by simp [Tm.vals]) _ _ HRD.out (by simp [Tm.kids]) (HP.out _)).mono ?_
      rintro e w9 ⟨rfl, hb9⟩
      go_wp2_with fail
      go_ret
      refine ⟨ret_bool ?_, ?_⟩
      · exact HF.out.symm
      repeat (first | exact bl_refl _ | refine bl_alloc ?_ _ | refine bl_drew ?_ | refine bl_drewN ?_ _ | refine bl_step (by assumption) ?_)
    | give t =>
      have hf : (Tm.give t).form = (Tm.give t).kidsForm := by simp [Tm.form, Tm.kidsForm, Tm.kids, anyTo, tkidNot, List.range_succ]
      have HF := Lib.hid hf
      clear hf
      have ho1 := fun w => town_calls (.give t) ho w
      have hk1 := fun w => tkind_calls (.give t) ho w
      have hn1 := fun w => tnumber_calls (.give t) ho w
      have hkd := fun w => term_kids (.give t) ho w
      have HKD := Lib.hid hkd
      clear hkd ih
      simp only [Tm.ownS, Tm.ownN, Tm.kind, Tm.num, numV, Option.isSome] at ho1 hk1 hn1
      have hb0 := bl_refl w
      go_enter Tryd.func43, Tryd.ntmps43
      go_wp2_with fail
      refine (ho1 _).mono ?_
      rintro e w1 ⟨rfl, hb1⟩
      go_wp2_with fail
      refine (hk1 _).mono ?_
      rintro e w2 ⟨rfl, hb2⟩
      go_wp2_with fail
      refine (kind_of_one _).mono ?_
      rintro e w3 ⟨rfl, hb3⟩
      go_wp2_with fail
      refine (hk1 _).mono ?_
      rintro e w4 ⟨rfl, hb4⟩
      go_wp2_with fail
      refine (kind_of_or _).mono ?_
      rintro e w5 ⟨rfl, hb5⟩
      go_wp2_with fail
      refine (hk1 _).mono ?_
      rintro e w6 ⟨rfl, hb6⟩
      go_wp2_with fail
      refine (hn1 _).mono ?_
      rintro e w7 ⟨rfl, hb7⟩
      go_wp2_with fail
      refine (HKD.out _).mono ?_
      intro e w8 hr; obtain ⟨A, c, rfl, hrd, hb8, hnc⟩ := hr.open_; clear hr
      have HRD := Lib.hid hrd
      clear hrd
      go_wp2_with fail
      refine (term_contains _ hcall_tform A _ c _ (by simp [Tm.vals]) _ _ HRD.out (by simp [Tm.kids]) (HP.out _)).mono ?_
      rintro e w9 ⟨rfl, hb9⟩
      go_wp2_with fail
      go_ret
      refine ⟨ret_bool ?_, ?_⟩
      · exact HF.out.symm
      repeat (first | exact bl_refl _ | refine bl_alloc ?_ _ | refine bl_drew ?_ | refine bl_drewN ?_ _ | refine bl_step (by assumption) ?_)
    | and l r =>
      have hf : (Tm.and l r).form = (Tm.and l r).kidsForm := by simp [Tm.form, Tm.kidsForm, Tm.kids, anyTo, tkidNot, List.range_succ]
      have HF := Lib.hid hf
      clear hf
      have ho1 := fun w => town_calls (.and l r) ho w
      have hk1 := fun w => tkind_calls (.and l r) ho w
      have hn1 := fun w => tnumber_calls (.and l r) ho w
      have hkd := fun w => term_kids (.and l r) ho w
      have HKD := Lib.hid hkd
      clear hkd ih
      simp only [Tm.ownS, Tm.ownN, Tm.kind, Tm.num, numV, Option.isSome] at ho1 hk1 hn1
      have hb0 := bl_refl w
      go_enter Tryd.func43, Tryd.ntmps43
      go_wp2_with fail
      refine (ho1 _).mono ?_
      rintro e w1 ⟨rfl, hb1⟩
      go_wp2_with fail
      refine (hk1 _).mono ?_
      rintro e w2 ⟨rfl, hb2⟩
      go_wp2_with fail
      refine (kind_of_one _).mono ?_
      rintro e w3 ⟨rfl, hb3⟩
      go_wp2_with fail
      refine (hk1 _).mono ?_
      rintro e w4 ⟨rfl, hb4⟩
      go_wp2_with fail
      refine (kind_of_or _).mono ?_
      rintro e w5 ⟨rfl, hb5⟩
      go_wp2_with fail
      refine (hk1 _).mono ?_
      rintro e w6 ⟨rfl, hb6⟩
      go_wp2_with fail
      refine (hn1 _).mono ?_
      rintro e w7 ⟨rfl, hb7⟩
      go_wp2_with fail
      refine (HKD.out _).mono ?_
      intro e w8 hr; obtain ⟨A, c, rfl, hrd, hb8, hnc⟩ := hr.open_; clear hr
      have HRD := Lib.hid hrd
      clear hrd
      go_wp2_with fail
      refine (term_contains _ hcall_tform A _ c _ (by simp [Tm.vals]) _ _ HRD.out (by simp [Tm.kids]) (HP.out _)).mono ?_
      rintro e w9 ⟨rfl, hb9⟩
      go_wp2_with fail
      go_ret
      refine ⟨ret_bool ?_, ?_⟩
      · exact HF.out.symm
      repeat (first | exact bl_refl _ | refine bl_alloc ?_ _ | refine bl_drew ?_ | refine bl_drewN ?_ _ | refine bl_step (by assumption) ?_)
    | one s =>
      have hnm := fun w => name_calls s w
      cases hv : nameB s with
      | false =>
        have hf : (Tm.one s).form = false := hv
        simp only [hv] at hnm
        have HF := Lib.hid hf
        clear hf hv
        have ho1 := fun w => town_calls (.one s) ho w
        have hk1 := fun w => tkind_calls (.one s) ho w
        have hn1 := fun w => tnumber_calls (.one s) ho w
        have hkd := fun w => term_kids (.one s) ho w
        have HKD := Lib.hid hkd
        clear hkd ih
        simp only [Tm.ownS, Tm.ownN, Tm.kind, Tm.num, numV, Option.isSome] at ho1 hk1 hn1
        have hb0 := bl_refl w
        go_enter Tryd.func43, Tryd.ntmps43
        go_wp2_with fail
        refine (ho1 _).mono ?_
        rintro e w1 ⟨rfl, hb1⟩
        go_wp2_with fail
        refine (hk1 _).mono ?_
        rintro e w2 ⟨rfl, hb2⟩
        go_wp2_with fail
        refine (kind_of_one _).mono ?_
        rintro e w3 ⟨rfl, hb3⟩
        go_wp2_with fail
        refine (hk1 _).mono ?_
        rintro e w4 ⟨rfl, hb4⟩
        go_wp2_with fail
        refine (hnm _).mono ?_
        rintro e w5 ⟨rfl, hb5⟩
        go_wp2_with fail
        go_ret
        refine ⟨ret_bool HF.out.symm, ?_⟩
        repeat (first | exact bl_refl _ | refine bl_alloc ?_ _ | refine bl_drew ?_ | refine bl_drewN ?_ _ | refine bl_step (by assumption) ?_)
      | true =>
        have hf : (Tm.one s).form = (Tm.one s).kidsForm := by simp [Tm.form, Tm.kidsForm, Tm.kids, anyTo, hv]
        simp only [hv] at hnm
        have HF := Lib.hid hf
        clear hf hv
        have ho1 := fun w => town_calls (.one s) ho w
        have hk1 := fun w => tkind_calls (.one s) ho w
        have hn1 := fun w => tnumber_calls (.one s) ho w
        have hkd := fun w => term_kids (.one s) ho w
        have HKD := Lib.hid hkd
        clear hkd ih
        simp only [Tm.ownS, Tm.ownN, Tm.kind, Tm.num, numV, Option.isSome] at ho1 hk1 hn1
        have hb0 := bl_refl w
        go_enter Tryd.func43, Tryd.ntmps43
        go_wp2_with fail
        refine (ho1 _).mono ?_
        rintro e w1 ⟨rfl, hb1⟩
        go_wp2_with fail
        refine (hk1 _).mono ?_
        rintro e w2 ⟨rfl, hb2⟩
        go_wp2_with fail
        refine (kind_of_one _).mono ?_
        rintro e w3 ⟨rfl, hb3⟩
        go_wp2_with fail
        refine (hk1 _).mono ?_
        rintro e w4 ⟨rfl, hb4⟩
        go_wp2_with fail
        refine (hnm _).mono ?_
        rintro e w5 ⟨rfl, hb5⟩
        go_wp2_with fail
        refine (hn1 _).mono ?_
        rintro e w7 ⟨rfl, hb7⟩
        go_wp2_with fail
        refine (HKD.out _).mono ?_
        intro e w8 hr; obtain ⟨A, c, rfl, hrd, hb8, hnc⟩ := hr.open_; clear hr
        have HRD := Lib.hid hrd
        clear hrd
        go_wp2_with fail
        refine (term_contains _ hcall_tform A _ c _ (by simp [Tm.vals]) _ _ HRD.out (by simp [Tm.kids]) (HP.out _)).mono ?_
        rintro e w9 ⟨rfl, hb9⟩
        go_wp2_with fail
        go_ret
        refine ⟨ret_bool ?_, ?_⟩
        · exact HF.out.symm
        repeat (first | exact bl_refl _ | refine bl_alloc ?_ _ | refine bl_drew ?_ | refine bl_drewN ?_ _ | refine bl_step (by assumption) ?_)
    | or s l r =>
      have hnm := fun w => name_calls s w
      cases hv : nameB s with
      | false =>
        have hf : (Tm.or s l r).form = false := by simp [Tm.form, hv]
        simp only [hv] at hnm
        have HF := Lib.hid hf
        clear hf hv
        have ho1 := fun w => town_calls (.or s l r) ho w
        have hk1 := fun w => tkind_calls (.or s l r) ho w
        have hn1 := fun w => tnumber_calls (.or s l r) ho w
        have hkd := fun w => term_kids (.or s l r) ho w
        have HKD := Lib.hid hkd
        clear hkd ih
        simp only [Tm.ownS, Tm.ownN, Tm.kind, Tm.num, numV, Option.isSome] at ho1 hk1 hn1
        have hb0 := bl_refl w
        go_enter Tryd.func43, Tryd.ntmps43
        go_wp2_with fail
        refine (ho1 _).mono ?_
        rintro e w1 ⟨rfl, hb1⟩
        go_wp2_with fail
        refine (hk1 _).mono ?_
        rintro e w2 ⟨rfl, hb2⟩
        go_wp2_with fail
        refine (kind_of_one _).mono ?_
        rintro e w3 ⟨rfl, hb3⟩
        go_wp2_with fail
        refine (hk1 _).mono ?_
        rintro e w4 ⟨rfl, hb4⟩
        go_wp2_with fail
        refine (kind_of_or _).mono ?_
        rintro e w5 ⟨rfl, hb5⟩
        go_wp2_with fail
        refine (hk1 _).mono ?_
        rintro e w6 ⟨rfl, hb6⟩
        go_wp2_with fail
        refine (hnm _).mono ?_
        rintro e w7 ⟨rfl, hb7⟩
        go_wp2_with fail
        go_ret
        refine ⟨ret_bool HF.out.symm, ?_⟩
        repeat (first | exact bl_refl _ | refine bl_alloc ?_ _ | refine bl_drew ?_ | refine bl_drewN ?_ _ | refine bl_step (by assumption) ?_)
      | true =>
        have hf : (Tm.or s l r).form = (Tm.or s l r).kidsForm := by simp [Tm.form, Tm.kidsForm, Tm.kids, anyTo, tkidNot, List.range_succ, hv]
        simp only [hv] at hnm
        have HF := Lib.hid hf
        clear hf hv
        have ho1 := fun w => town_calls (.or s l r) ho w
        have hk1 := fun w => tkind_calls (.or s l r) ho w
        have hn1 := fun w => tnumber_calls (.or s l r) ho w
        have hkd := fun w => term_kids (.or s l r) ho w
        have HKD := Lib.hid hkd
        clear hkd ih
        simp only [Tm.ownS, Tm.ownN, Tm.kind, Tm.num, numV, Option.isSome] at ho1 hk1 hn1
        have hb0 := bl_refl w
        go_enter Tryd.func43, Tryd.ntmps43
        go_wp2_with fail
        refine (ho1 _).mono ?_
        rintro e w1 ⟨rfl, hb1⟩
        go_wp2_with fail
        refine (hk1 _).mono ?_
        rintro e w2 ⟨rfl, hb2⟩
        go_wp2_with fail
        refine (kind_of_one _).mono ?_
        rintro e w3 ⟨rfl, hb3⟩
        go_wp2_with fail
        refine (hk1 _).mono ?_
        rintro e w4 ⟨rfl, hb4⟩
        go_wp2_with fail
        refine (kind_of_or _).mono ?_
        rintro e w5 ⟨rfl, hb5⟩
        go_wp2_with fail
        refine (hk1 _).mono ?_
        rintro e w6 ⟨rfl, hb6⟩
        go_wp2_with fail
        refine (hnm _).mono ?_
        rintro e w7 ⟨rfl, hb7⟩
        go_wp2_with fail
        refine (hn1 _).mono ?_
        rintro e w10 ⟨rfl, hb10⟩
        go_wp2_with fail
        refine (HKD.out _).mono ?_
        intro e w8 hr; obtain ⟨A, c, rfl, hrd, hb8, hnc⟩ := hr.open_; clear hr
        have HRD := Lib.hid hrd
        clear hrd
        go_wp2_with fail
        refine (term_contains _ hcall_tform A _ c _ (by simp [Tm.vals]) _ _ HRD.out (by simp [Tm.kids]) (HP.out _)).mono ?_
        rintro e w9 ⟨rfl, hb9⟩
        go_wp2_with fail
        go_ret
        refine ⟨ret_bool ?_, ?_⟩
        · exact HF.out.symm
        repeat (first | exact bl_refl _ | refine bl_alloc ?_ _ | refine bl_drew ?_ | refine bl_drewN ?_ _ | refine bl_step (by assumption) ?_)
    | when_ n t =>
      by_cases hv : 0 ≤ n ∧ n ≤ 10000
      · have hf : (Tm.when_ n t).form = (Tm.when_ n t).kidsForm := by simp [Tm.form, Tm.kidsForm, Tm.kids, anyTo, tkidNot, List.range_succ, dayB, hv]
        have HF := Lib.hid hf
        obtain ⟨hv0, hv1⟩ := hv
        clear hf
        have ho1 := fun w => town_calls (.when_ n t) ho w
        have hk1 := fun w => tkind_calls (.when_ n t) ho w
        have hn1 := fun w => tnumber_calls (.when_ n t) ho w
        have hkd := fun w => term_kids (.when_ n t) ho w
        have HKD := Lib.hid hkd
        clear hkd ih
        simp only [Tm.ownS, Tm.ownN, Tm.kind, Tm.num, numV, Option.isSome] at ho1 hk1 hn1
        have hb0 := bl_refl w
        go_enter Tryd.func43, Tryd.ntmps43
        go_wp2_with fail
        refine (ho1 _).mono ?_
        rintro e w1 ⟨rfl, hb1⟩
        go_wp2_with fail
        refine (hk1 _).mono ?_
        rintro e w2 ⟨rfl, hb2⟩
        go_wp2_with fail
        refine (kind_of_one _).mono ?_
        rintro e w3 ⟨rfl, hb3⟩
        go_wp2_with fail
        refine (hk1 _).mono ?_
        rintro e w4 ⟨rfl, hb4⟩
        go_wp2_with fail
        refine (kind_of_or _).mono ?_
        rintro e w5 ⟨rfl, hb5⟩
        go_wp2_with fail
        refine (hk1 _).mono ?_
        rintro e w6 ⟨rfl, hb6⟩
        go_wp2_with fail
        refine (hn1 _).mono ?_
        rintro e w7 ⟨rfl, hb7⟩
        go_wp2_with fail
        refine (HKD.out _).mono ?_
        intro e w8 hr; obtain ⟨A, c, rfl, hrd, hb8, hnc⟩ := hr.open_; clear hr
        have HRD := Lib.hid hrd
        clear hrd
        go_wp2_with fail
        refine (term_contains _ hcall_tform A _ c _ (by simp [Tm.vals]) _ _ HRD.out (by simp [Tm.kids]) (HP.out _)).mono ?_
        rintro e w9 ⟨rfl, hb9⟩
        go_wp2_with fail
        go_ret
        refine ⟨ret_bool ?_, ?_⟩
        · exact HF.out.symm
        repeat (first | exact bl_refl _ | refine bl_alloc ?_ _ | refine bl_drew ?_ | refine bl_drewN ?_ _ | refine bl_step (by assumption) ?_)
      · have hf : (Tm.when_ n t).form = false := by simp [Tm.form, dayB]; intro h1 h2; exact absurd ⟨h1, h2⟩ hv
        have HF := Lib.hid hf
        have HV := Lib.hid hv
        clear hf hv
        have ho1 := fun w => town_calls (.when_ n t) ho w
        have hk1 := fun w => tkind_calls (.when_ n t) ho w
        have hn1 := fun w => tnumber_calls (.when_ n t) ho w
        have hkd := fun w => term_kids (.when_ n t) ho w
        have HKD := Lib.hid hkd
        clear hkd ih
        simp only [Tm.ownS, Tm.ownN, Tm.kind, Tm.num, numV, Option.isSome] at ho1 hk1 hn1
        have hb0 := bl_refl w
        go_enter Tryd.func43, Tryd.ntmps43
        go_wp2_with fail
        refine (ho1 _).mono ?_
        rintro e w1 ⟨rfl, hb1⟩
        go_wp2_with fail
        refine (hk1 _).mono ?_
        rintro e w2 ⟨rfl, hb2⟩
        go_wp2_with fail
        refine (kind_of_one _).mono ?_
        rintro e w3 ⟨rfl, hb3⟩
        go_wp2_with fail
        refine (hk1 _).mono ?_
        rintro e w4 ⟨rfl, hb4⟩
        go_wp2_with fail
        refine (kind_of_or _).mono ?_
        rintro e w5 ⟨rfl, hb5⟩
        go_wp2_with fail
        refine (hk1 _).mono ?_
        rintro e w6 ⟨rfl, hb6⟩
        by_cases hv0 : n < 0
        · go_wp2_with fail
          go_ret
          refine ⟨ret_bool HF.out.symm, ?_⟩
          repeat (first | exact bl_refl _ | refine bl_alloc ?_ _ | refine bl_drew ?_ | refine bl_drewN ?_ _ | refine bl_step (by assumption) ?_)
        · have hv1 : 10000 < n := by have := HV.out; omega
          go_wp2_with fail
          go_ret
          refine ⟨ret_bool HF.out.symm, ?_⟩
          repeat (first | exact bl_refl _ | refine bl_alloc ?_ _ | refine bl_drew ?_ | refine bl_drewN ?_ _ | refine bl_step (by assumption) ?_)
    | scale q t =>
      have hck := fun w => check_calls q ho.1 (by simp only [Tm.meas] at hm; omega) w
      have hc2 := q.check_two
      cases hv : q.form with
      | false =>
        have hf : (Tm.scale q t).form = false := by simp [Tm.form, hv]
        have HF := Lib.hid hf
        rw [hv] at hc2
        simp only [Bool.not_true, Bool.not_false] at hc2
        clear hf hv
        have ho1 := fun w => town_calls (.scale q t) ho w
        have hk1 := fun w => tkind_calls (.scale q t) ho w
        have hn1 := fun w => tnumber_calls (.scale q t) ho w
        have hkd := fun w => term_kids (.scale q t) ho w
        have HKD := Lib.hid hkd
        clear hkd ih
        simp only [Tm.ownS, Tm.ownN, Tm.kind, Tm.num, numV, Option.isSome] at ho1 hk1 hn1
        generalize q.check = qc at *
        have hb0 := bl_refl w
        go_enter Tryd.func43, Tryd.ntmps43
        go_wp2_with fail
        refine (ho1 _).mono ?_
        rintro e w1 ⟨rfl, hb1⟩
        go_wp2_with fail
        refine (hk1 _).mono ?_
        rintro e w2 ⟨rfl, hb2⟩
        go_wp2_with fail
        refine (kind_of_one _).mono ?_
        rintro e w3 ⟨rfl, hb3⟩
        go_wp2_with fail
        refine (hk1 _).mono ?_
        rintro e w4 ⟨rfl, hb4⟩
        go_wp2_with fail
        refine (kind_of_or _).mono ?_
        rintro e w5 ⟨rfl, hb5⟩
        go_wp2_with fail
        refine (hk1 _).mono ?_
        rintro e w6 ⟨rfl, hb6⟩
        go_wp2_with fail
        refine (hn1 _).mono ?_
        rintro e w7 ⟨rfl, hb7⟩
        go_wp2_with fail
        refine (hck _).mono ?_
        rintro e w10 ⟨rfl, hb10⟩
        go_wp2_with fail
        go_ret
        refine ⟨ret_bool HF.out.symm, ?_⟩
        repeat (first | exact bl_refl _ | refine bl_alloc ?_ _ | refine bl_drew ?_ | refine bl_drewN ?_ _ | refine bl_step (by assumption) ?_)
      | true =>
        have hf : (Tm.scale q t).form = (Tm.scale q t).kidsForm := by simp [Tm.form, Tm.kidsForm, Tm.kids, anyTo, tkidNot, List.range_succ, hv]
        have HF := Lib.hid hf
        rw [hv] at hc2
        simp only [Bool.not_true, Bool.not_false] at hc2
        clear hf hv
        have ho1 := fun w => town_calls (.scale q t) ho w
        have hk1 := fun w => tkind_calls (.scale q t) ho w
        have hn1 := fun w => tnumber_calls (.scale q t) ho w
        have hkd := fun w => term_kids (.scale q t) ho w
        have HKD := Lib.hid hkd
        clear hkd ih
        simp only [Tm.ownS, Tm.ownN, Tm.kind, Tm.num, numV, Option.isSome] at ho1 hk1 hn1
        generalize q.check = qc at *
        have hb0 := bl_refl w
        go_enter Tryd.func43, Tryd.ntmps43
        go_wp2_with fail
        refine (ho1 _).mono ?_
        rintro e w1 ⟨rfl, hb1⟩
        go_wp2_with fail
        refine (hk1 _).mono ?_
        rintro e w2 ⟨rfl, hb2⟩
        go_wp2_with fail
        refine (kind_of_one _).mono ?_
        rintro e w3 ⟨rfl, hb3⟩
        go_wp2_with fail
        refine (hk1 _).mono ?_
        rintro e w4 ⟨rfl, hb4⟩
        go_wp2_with fail
        refine (kind_of_or _).mono ?_
        rintro e w5 ⟨rfl, hb5⟩
        go_wp2_with fail
        refine (hk1 _).mono ?_
        rintro e w6 ⟨rfl, hb6⟩
        go_wp2_with fail
        refine (hn1 _).mono ?_
        rintro e w7 ⟨rfl, hb7⟩
        go_wp2_with fail
        refine (hck _).mono ?_
        rintro e w10 ⟨rfl, hb10⟩
        go_wp2_with fail
        refine (HKD.out _).mono ?_
        intro e w8 hr; obtain ⟨A, c, rfl, hrd, hb8, hnc⟩ := hr.open_; clear hr
        have HRD := Lib.hid hrd
        clear hrd
        go_wp2_with fail
        refine (term_contains _ hcall_tform A _ c _ (by simp [Tm.vals]) _ _ HRD.out (by simp [Tm.kids]) (HP.out _)).mono ?_
        rintro e w9 ⟨rfl, hb9⟩
        go_wp2_with fail
        go_ret
        refine ⟨ret_bool ?_, ?_⟩
        · exact HF.out.symm
        repeat (first | exact bl_refl _ | refine bl_alloc ?_ _ | refine bl_drew ?_ | refine bl_drewN ?_ _ | refine bl_step (by assumption) ?_)
    | if_ q l r =>
      have hck := fun w => check_calls q ho.1 (by simp only [Tm.meas] at hm; omega) w
      have hc2 := q.check_two
      cases hv : q.form with
      | false =>
        have hf : (Tm.if_ q l r).form = false := by simp [Tm.form, hv]
        have HF := Lib.hid hf
        rw [hv] at hc2
        simp only [Bool.not_true, Bool.not_false] at hc2
        clear hf hv
        have ho1 := fun w => town_calls (.if_ q l r) ho w
        have hk1 := fun w => tkind_calls (.if_ q l r) ho w
        have hn1 := fun w => tnumber_calls (.if_ q l r) ho w
        have hkd := fun w => term_kids (.if_ q l r) ho w
        have HKD := Lib.hid hkd
        clear hkd ih
        simp only [Tm.ownS, Tm.ownN, Tm.kind, Tm.num, numV, Option.isSome] at ho1 hk1 hn1
        generalize q.check = qc at *
        have hb0 := bl_refl w
        go_enter Tryd.func43, Tryd.ntmps43
        go_wp2_with fail
        refine (ho1 _).mono ?_
        rintro e w1 ⟨rfl, hb1⟩
        go_wp2_with fail
        refine (hk1 _).mono ?_
        rintro e w2 ⟨rfl, hb2⟩
        go_wp2_with fail
        refine (kind_of_one _).mono ?_
        rintro e w3 ⟨rfl, hb3⟩
        go_wp2_with fail
        refine (hk1 _).mono ?_
        rintro e w4 ⟨rfl, hb4⟩
        go_wp2_with fail
        refine (kind_of_or _).mono ?_
        rintro e w5 ⟨rfl, hb5⟩
        go_wp2_with fail
        refine (hk1 _).mono ?_
        rintro e w6 ⟨rfl, hb6⟩
        go_wp2_with fail
        refine (hn1 _).mono ?_
        rintro e w7 ⟨rfl, hb7⟩
        go_wp2_with fail
        refine (hck _).mono ?_
        rintro e w10 ⟨rfl, hb10⟩
        go_wp2_with fail
        go_ret
        refine ⟨ret_bool HF.out.symm, ?_⟩
        repeat (first | exact bl_refl _ | refine bl_alloc ?_ _ | refine bl_drew ?_ | refine bl_drewN ?_ _ | refine bl_step (by assumption) ?_)
      | true =>
        have hf : (Tm.if_ q l r).form = (Tm.if_ q l r).kidsForm := by simp [Tm.form, Tm.kidsForm, Tm.kids, anyTo, tkidNot, List.range_succ, hv]
        have HF := Lib.hid hf
        rw [hv] at hc2
        simp only [Bool.not_true, Bool.not_false] at hc2
        clear hf hv
        have ho1 := fun w => town_calls (.if_ q l r) ho w
        have hk1 := fun w => tkind_calls (.if_ q l r) ho w
        have hn1 := fun w => tnumber_calls (.if_ q l r) ho w
        have hkd := fun w => term_kids (.if_ q l r) ho w
        have HKD := Lib.hid hkd
        clear hkd ih
        simp only [Tm.ownS, Tm.ownN, Tm.kind, Tm.num, numV, Option.isSome] at ho1 hk1 hn1
        generalize q.check = qc at *
        have hb0 := bl_refl w
        go_enter Tryd.func43, Tryd.ntmps43
        go_wp2_with fail
        refine (ho1 _).mono ?_
        rintro e w1 ⟨rfl, hb1⟩
        go_wp2_with fail
        refine (hk1 _).mono ?_
        rintro e w2 ⟨rfl, hb2⟩
        go_wp2_with fail
        refine (kind_of_one _).mono ?_
        rintro e w3 ⟨rfl, hb3⟩
        go_wp2_with fail
        refine (hk1 _).mono ?_
        rintro e w4 ⟨rfl, hb4⟩
        go_wp2_with fail
        refine (kind_of_or _).mono ?_
        rintro e w5 ⟨rfl, hb5⟩
        go_wp2_with fail
        refine (hk1 _).mono ?_
        rintro e w6 ⟨rfl, hb6⟩
        go_wp2_with fail
        refine (hn1 _).mono ?_
        rintro e w7 ⟨rfl, hb7⟩
        go_wp2_with fail
        refine (hck _).mono ?_
        rintro e w10 ⟨rfl, hb10⟩
        go_wp2_with fail
        refine (HKD.out _).mono ?_
        intro e w8 hr; obtain ⟨A, c, rfl, hrd, hb8, hnc⟩ := hr.open_; clear hr
        have HRD := Lib.hid hrd
        clear hrd
        go_wp2_with fail
        refine (term_contains _ hcall_tform A _ c _ (by simp [Tm.vals]) _ _ HRD.out (by simp [Tm.kids]) (HP.out _)).mono ?_
        rintro e w9 ⟨rfl, hb9⟩
        go_wp2_with fail
        go_ret
        refine ⟨ret_bool ?_, ?_⟩
        · exact HF.out.symm
        repeat (first | exact bl_refl _ | refine bl_alloc ?_ _ | refine bl_drew ?_ | refine bl_drewN ?_ _ | refine bl_step (by assumption) ?_)
end Go.Proofs.YtapbkomicihkkaaDoor
