/- The walks over package obs: the parts of a number, whether it is a leaf. -/
import Derived.Test.YtapbkomicihkkaaDoorTree
import Derived.Test.YtapbkomicihkkaaDoorRd
import Derived.Test.YtapbkomicihkkaaDoorRunes
namespace Go.Proofs.YtapbkomicihkkaaDoor
open Go.RowKit
set_option linter.unusedVariables false
set_option linter.unusedSimpArgs false

/-- An interface value. -/
def IsI (x : Value) : Prop := x = .nilIface ∨ ∃ t a, x = .iface t a
theorem Ob.isI (o : Ob) (h : o.ok) : IsI o.val := o.shape h
theorem Tm.isI (o : Tm) (h : o.ok) : IsI o.val := o.shape h
/-- A slice literal under a name of its own, so that the walk does not lay it open. -/
def bsN (t : TypeId) (n : Nat) (parts : Array (Nat × Value)) : Sem Value := Instr.buildSlice t n parts
theorem bs_obs (n : Nat) (parts : Array (Nat × Value)) : Instr.buildSlice 159 n parts = bsN 159 n parts := rfl
theorem run_bs1_obs (x : Value) (hx : IsI x) (W : World) : (bsN 159 1 #[(0, x)]).run Tryd.prog W = .ok (.slice (some ⟨W.heap.size, 0, none⟩) 1 1) (W.alloc (.cells #[x] 40)) := by
  rcases hx with rfl | ⟨_, _, rfl⟩ <;> kernel_rfl
theorem run_bs2_obs (x y : Value) (hx : IsI x) (hy : IsI y) (W : World) : (bsN 159 2 #[(0, x), (1, y)]).run Tryd.prog W = .ok (.slice (some ⟨W.heap.size, 0, none⟩) 2 2) (W.alloc (.cells #[x, y] 40)) := by
  rcases hx with rfl | ⟨_, _, rfl⟩ <;> rcases hy with rfl | ⟨_, _, rfl⟩ <;> kernel_rfl
attribute [go_sem ↓] bs_obs
attribute [go_sem] run_bs1_obs run_bs2_obs

theorem Rd_new (W : World) (cs : Array Value) (t : TypeId) (g : Nat) (xs : List Value) (hx : cs.toList = xs) (hg : g = W.heap.size) : Rd (W.alloc (.cells cs t)) (some ⟨g, 0, none⟩) xs := by
  subst hx hg; exact (Blk.new W cs t).rd
/-- It returns a slice that reads so. -/
def RetRd (w : World) (n : Nat) (xs : List Value) (en : Ending) (w' : World) : Prop := ∃ A c, en = .returned (.slice A n c) ∧ Rd w' A xs ∧ Below w.heap.size w w' ∧ n ≤ c
def Ob.vals (l : List Ob) : List Value := l.map Ob.val

set_option maxRecDepth 100000 in
set_option maxHeartbeats 1000000 in
theorem obs_kids (o : Ob) (ho : o.ok) (w : World) :
    Calls Tryd.prog 77 #[o.val] w (RetRd w o.kids.length (Ob.vals o.kids)) := by
  have nilcase : ∀ w', Below w.heap.size w w' → RetRd w 0 [] (.returned (.slice none 0 0)) w' := fun w' hb => ⟨none, 0, rfl, Rd.nil _ _, hb, Nat.le_refl _⟩
  cases o with
  | odd v =>
    rcases ho with h | ⟨t, x, h, h1, h2, h3, h4, h5, h6⟩
    · subst h
      unfold Ob.val
      go_enter Tryd.func77, Tryd.ntmps77
      go_wp2
      go_ret
      refine nilcase _ ?_
      repeat (first | exact bl_refl _ | refine bl_alloc ?_ _ | refine bl_drew ?_ | refine bl_drewN ?_ _ | refine bl_step (by assumption) ?_)
    · subst h
      unfold Ob.val
      go_enter Tryd.func77, Tryd.ntmps77
      go_wp2
      go_ret
      refine nilcase _ ?_
      repeat (first | exact bl_refl _ | refine bl_alloc ?_ _ | refine bl_drew ?_ | refine bl_drewN ?_ _ | refine bl_step (by assumption) ?_)
  | const n =>
    unfold Ob.val
    go_enter Tryd.func77, Tryd.ntmps77
    go_wp2
    go_ret
    refine nilcase _ ?_
    repeat (first | exact bl_refl _ | refine bl_alloc ?_ _ | refine bl_drew ?_ | refine bl_drewN ?_ _ | refine bl_step (by assumption) ?_)
  | fix s =>
    unfold Ob.val
    go_enter Tryd.func77, Tryd.ntmps77
    go_wp2
    go_ret
    refine nilcase _ ?_
    repeat (first | exact bl_refl _ | refine bl_alloc ?_ _ | refine bl_drew ?_ | refine bl_drewN ?_ _ | refine bl_step (by assumption) ?_)
  | neg o =>
    have ho' : o.ok := ho
    have hb := o.isI ho'
    unfold Ob.val
    go_enter Tryd.func77, Tryd.ntmps77
    go_wp2
    go_ret
    refine ⟨_, _, rfl, Rd_new _ _ _ _ _ rfl (by simp), ?_, Nat.le_refl _⟩
    repeat (first | exact bl_refl _ | refine bl_alloc ?_ _ | refine bl_drew ?_ | refine bl_drewN ?_ _ | refine bl_step (by assumption) ?_)
  | add l r =>
    obtain ⟨hl, hr⟩ : l.ok ∧ r.ok := ho
    have hb := l.isI hl
    have hc := r.isI hr
    unfold Ob.val
    go_enter Tryd.func77, Tryd.ntmps77
    go_wp2
    go_ret
    refine ⟨_, _, rfl, Rd_new _ _ _ _ _ rfl (by simp), ?_, Nat.le_refl _⟩
    repeat (first | exact bl_refl _ | refine bl_alloc ?_ _ | refine bl_drew ?_ | refine bl_drewN ?_ _ | refine bl_step (by assumption) ?_)
  | mul l r =>
    obtain ⟨hl, hr⟩ : l.ok ∧ r.ok := ho
    have hb := l.isI hl
    have hc := r.isI hr
    unfold Ob.val
    go_enter Tryd.func77, Tryd.ntmps77
    go_wp2
    go_ret
    refine ⟨_, _, rfl, Rd_new _ _ _ _ _ rfl (by simp), ?_, Nat.le_refl _⟩
    repeat (first | exact bl_refl _ | refine bl_alloc ?_ _ | refine bl_drew ?_ | refine bl_drewN ?_ _ | refine bl_step (by assumption) ?_)
  | max l r =>
    obtain ⟨hl, hr⟩ : l.ok ∧ r.ok := ho
    have hb := l.isI hl
    have hc := r.isI hr
    unfold Ob.val
    go_enter Tryd.func77, Tryd.ntmps77
    go_wp2
    go_ret
    refine ⟨_, _, rfl, Rd_new _ _ _ _ _ rfl (by simp), ?_, Nat.le_refl _⟩
    repeat (first | exact bl_refl _ | refine bl_alloc ?_ _ | refine bl_drew ?_ | refine bl_drewN ?_ _ | refine bl_step (by assumption) ?_)

def validB (n : Int) : Bool := decide (-1000000000000 ≤ n ∧ n ≤ 1000000000000)
theorem valid_calls (n : Int) (w : World) :
    Calls Tryd.prog 92 #[.int .i64 n] w fun e w' => e = .returned (.bool (validB n)) ∧ w' = w := by
  go_enter Tryd.func92, Tryd.ntmps92
  go_wp2
  all_goals go_ret
  all_goals
    refine ⟨ret_bool ?_, rfl⟩
    rw [Bool.eq_iff_iff]
    simp [validB] at *
    try omega
def Ob.leaf : Ob → Bool × Bool
  | .const n => (true, validB n)
  | .fix s => (true, nameB s)
  | _ => (false, false)
def Ob.isOdd : Ob → Bool
  | .odd _ => true
  | _ => false
def pairB (p : Bool × Bool) : Value := .tuple #[.bool p.1, .bool p.2]
set_option maxRecDepth 100000 in
set_option maxHeartbeats 400000 in
theorem leaf_calls (o : Ob) (ho : o.ok) (w : World) :
    Calls Tryd.prog 74 #[o.val] w fun e w' => e = .returned (pairB o.leaf) ∧ Below w.heap.size w w' := by
  cases o with
  | const n =>
    unfold Ob.val
    go_enter Tryd.func74, Tryd.ntmps74
    go_wp2_with (go_at_call 92; refine (valid_calls _ _).mono ?_; rintro e w' ⟨rfl, rfl⟩)
    go_ret2
    refine ⟨rfl, ?_⟩
    repeat (first | exact bl_refl _ | refine bl_alloc ?_ _ | refine bl_drew ?_ | refine bl_drewN ?_ _ | refine bl_step (by assumption) ?_)
  | fix s =>
    unfold Ob.val
    go_enter Tryd.func74, Tryd.ntmps74
    go_wp2_with (go_at_call 65; refine (name_calls _ _).mono ?_; rintro e w1 ⟨rfl, hb1⟩)
    go_ret2
    refine ⟨rfl, ?_⟩
    repeat (first | exact bl_refl _ | refine bl_alloc ?_ _ | refine bl_drew ?_ | refine bl_drewN ?_ _ | refine bl_step (by assumption) ?_)
  | odd v =>
    rcases ho with h | ⟨t, x, h, h1, h2, h3, h4, h5, h6⟩
    all_goals
      subst h
      unfold Ob.val
      go_enter Tryd.func74, Tryd.ntmps74
      go_wp2
      go_ret2
      refine ⟨rfl, ?_⟩
      repeat (first | exact bl_refl _ | refine bl_alloc ?_ _ | refine bl_drew ?_ | refine bl_drewN ?_ _ | refine bl_step (by assumption) ?_)
  | _ =>
    unfold Ob.val
    go_enter Tryd.func74, Tryd.ntmps74
    go_wp2
    go_ret2
    refine ⟨rfl, ?_⟩
    repeat (first | exact bl_refl _ | refine bl_alloc ?_ _ | refine bl_drew ?_ | refine bl_drewN ?_ _ | refine bl_step (by assumption) ?_)
theorem RetRd.open_ {w : World} {n : Nat} {xs : List Value} {en : Ending} {w' : World} (h : RetRd w n xs en w') : ∃ A c, en = .returned (.slice A n c) ∧ Rd w' A xs ∧ Below w.heap.size w w' ∧ n ≤ c := h
theorem Ob.kids_none (o : Ob) : (!o.leaf.1 && decide (o.kids.length = 0)) = o.isOdd := by cases o <;> rfl
set_option maxRecDepth 100000 in
set_option maxHeartbeats 400000 in
theorem none_calls (o : Ob) (ho : o.ok) (w : World) :
    Calls Tryd.prog 75 #[o.val] w fun e w' => e = .returned (.bool o.isOdd) ∧ Below w.heap.size w w' := by
  have hk := o.kids_none
  have HK := Lib.hid hk
  clear hk
  cases hl : o.leaf.1 with
  | true =>
    have hp : pairB o.leaf = .tuple #[.bool true, .bool o.leaf.2] := by unfold pairB; rw [hl]
    have hc := leaf_calls o ho w
    rw [hp] at hc
    have HL := Lib.hid hl
    clear hl hp
    go_enter Tryd.func75, Tryd.ntmps75
    go_wp2_with (go_at_call 74; refine hc.mono ?_; rintro e w1 ⟨rfl, hb1⟩)
    go_ret
    refine ⟨ret_bool ?_, ?_⟩
    · rw [← HK.out, HL.out]; rfl
    repeat (first | exact bl_refl _ | refine bl_alloc ?_ _ | refine bl_drew ?_ | refine bl_drewN ?_ _ | refine bl_step (by assumption) ?_)
  | false =>
    have hp : pairB o.leaf = .tuple #[.bool false, .bool o.leaf.2] := by unfold pairB; rw [hl]
    have hc := leaf_calls o ho w
    rw [hp] at hc
    have HL := Lib.hid hl
    clear hl hp
    go_enter Tryd.func75, Tryd.ntmps75
    go_wp2_with (first | (go_at_call 74; refine hc.mono ?_; rintro e w1 ⟨rfl, hb1⟩) | (go_at_call 77; refine (obs_kids o ho _).mono ?_; intro e w2 hr; obtain ⟨A, c, rfl, hrd, hb2, hnc⟩ := hr.open_; clear hr))
    go_ret
    refine ⟨ret_bool ?_, ?_⟩
    · rw [← HK.out, HL.out, Bool.eq_iff_iff]; simp
    repeat (first | exact bl_refl _ | refine bl_alloc ?_ _ | refine bl_drew ?_ | refine bl_drewN ?_ _ | refine bl_step (by assumption) ?_)
end Go.Proofs.YtapbkomicihkkaaDoor
