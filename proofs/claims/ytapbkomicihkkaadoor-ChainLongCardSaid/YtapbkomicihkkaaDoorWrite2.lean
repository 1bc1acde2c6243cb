/- The walks over package write: a contract's text; the texts of any contract, of any number, or why there is none. -/
import Derived.Test.YtapbkomicihkkaaDoorWrite1
namespace Go.Proofs.YtapbkomicihkkaaDoor
open Go.RowKit
set_option linter.unusedVariables false
set_option linter.unusedSimpArgs false

def Tm.plain : Tm → Prop
  | .zero | .one _ => True
  | .give t | .when_ _ t => t.plain
  | .and l r | .or _ l r => l.plain ∧ r.plain
  | .scale o t => o.plain ∧ t.plain
  | .if_ o l r => o.plain ∧ l.plain ∧ r.plain
  | .odd _ => False
theorem Tm.form_plain : ∀ o : Tm, o.form = true → o.plain
  | .zero, _ | .one _, _ => trivial
  | .give t, h => t.form_plain h
  | .when_ _ t, h => by
    simp only [Tm.form, Bool.and_eq_true] at h
    exact t.form_plain h.2
  | .and l r, h => by
    simp only [Tm.form, Bool.and_eq_true] at h
    exact ⟨l.form_plain h.1, r.form_plain h.2⟩
  | .or _ l r, h => by
    simp only [Tm.form, Bool.and_eq_true] at h
    exact ⟨l.form_plain h.2.1, r.form_plain h.2.2⟩
  | .scale o t, h => by
    simp only [Tm.form, Bool.and_eq_true] at h
    exact ⟨o.form_plain h.1, t.form_plain h.2⟩
  | .if_ o l r, h => by
    simp only [Tm.form, Bool.and_eq_true] at h
    exact ⟨o.form_plain h.1, l.form_plain h.2.1, r.form_plain h.2.2⟩
  | .odd _, h => by cases h
def Tm.text : Tm → ByteArray
  | .zero => ⟨#[122, 101, 114, 111]⟩
  | .one s => callS ⟨#[111, 110, 101]⟩ [s]
  | .give t => callS ⟨#[103, 105, 118, 101]⟩ [t.text]
  | .and l r => callS ⟨#[97, 110, 100]⟩ [l.text, r.text]
  | .or s l r => callS ⟨#[111, 114]⟩ [s, l.text, r.text]
  | .scale o t => callS ⟨#[115, 99, 97, 108, 101]⟩ [o.text, t.text]
  | .when_ n t => callS ⟨#[119, 104, 101, 110]⟩ [itoaS n, t.text]
  | .if_ o l r => callS ⟨#[105, 102]⟩ [o.text, l.text, r.text]
  | .odd _ => ⟨#[]⟩
set_option maxRecDepth 100000 in
set_option maxHeartbeats 8000000 in
theorem contract_calls (o : Tm) (ho : o.ok) (hp : o.plain) (hs : o.text.size ≤ 1099511627000) : ∀ (w : World), TabOk w →
    Calls Tryd.prog 27 #[o.val] w fun e w' => e = .returned (.string o.text) ∧ Below w.heap.size w w' := by
  induction o with
  | odd v => exact hp.elim
  | zero =>
    intro w ht
    unfold Tm.val
    go_enter Tryd.func27, Tryd.ntmps27
    go_wp2_with fail
    go_ret
    refine ⟨rfl, ?_⟩
    repeat (first | exact bl_refl _ | refine bl_alloc ?_ _ | refine bl_drew ?_ | refine bl_drewN ?_ _ | refine bl_step (by assumption) ?_)
  | one s =>
    intro w ht
    have e : (Tm.one s).text = callS ⟨#[111, 110, 101]⟩ [s] := rfl
    rw [e] at hs ⊢
    rw [callS_one] at hs
    have hbs := bs_str1
    unfold Tm.val
    go_enter Tryd.func27, Tryd.ntmps27
    go_wp2_with fail
    refine (call_one _ _ _ (by decide) (by omega) _ (by simp)).mono ?_
    rintro e w1 ⟨rfl, hb1⟩
    go_wp2_with fail
    go_ret
    refine ⟨rfl, ?_⟩
    repeat (first | exact bl_refl _ | refine bl_alloc ?_ _ | refine bl_drew ?_ | refine bl_drewN ?_ _ | refine bl_step (by assumption) ?_)
  | give t ih =>
    intro w ht
    have hl0 : t.ok := ho
    have e : (Tm.give t).text = callS ⟨#[103, 105, 118, 101]⟩ [t.text] := rfl
    rw [e] at hs ⊢
    rw [callS_one] at hs
    have hbs := bs_str1
    have hl := ih hl0 hp (by omega)
    clear ih
    generalize t.text = s at *
    unfold Tm.val
    go_enter Tryd.func27, Tryd.ntmps27
    go_wp2_with fail
    refine (hl _ (ht.below ?_)).mono ?_
    ·
      repeat (first | exact bl_refl _ | refine bl_alloc ?_ _ | refine bl_drew ?_ | refine bl_drewN ?_ _ | refine bl_step (by assumption) ?_)
    rintro e w1 ⟨rfl, hb1⟩
    go_wp2_with fail
    refine (call_one _ _ _ (by decide) (by omega) _ (by simp)).mono ?_
    rintro e w2 ⟨rfl, hb2⟩
    go_wp2_with fail
    go_ret
    refine ⟨rfl, ?_⟩
    repeat (first | exact bl_refl _ | refine bl_alloc ?_ _ | refine bl_drew ?_ | refine bl_drewN ?_ _ | refine bl_step (by assumption) ?_)
  | and l r ihl ihr =>
    intro w ht
    obtain ⟨hl0, hr0⟩ : l.ok ∧ r.ok := ho
    have e : (Tm.and l r).text = callS ⟨#[97, 110, 100]⟩ [l.text, r.text] := rfl
    rw [e] at hs ⊢
    rw [callS_two] at hs
    have hbs := bs_str2
    have hl := ihl hl0 hp.1 (by omega)
    have hr := ihr hr0 hp.2 (by omega)
    clear ihl ihr e hp
    generalize l.text = s at *
    generalize r.text = t at *
    unfold Tm.val
    go_enter Tryd.func27, Tryd.ntmps27
    go_wp2_with fail
    have hbA := bl_alloc (bl_refl w) (.cells #[l.val, r.val] 53)
    have hc0 := alloc_cell w #[l.val, r.val] 53 0 (l.val) rfl
    have hc1 := alloc_cell w #[l.val, r.val] 53 1 (r.val) rfl
    have hlt := alloc_lt w (.cells #[l.val, r.val] 53)
    change Code.wp _ _ _ _ (w.alloc (.cells #[l.val, r.val] 53))
    generalize (w.alloc (.cells #[l.val, r.val] 53)) = W1 at *
    have htA := ht.below hbA
    clear ht
    go_region_held3 (fun w' => w'.cell? ⟨w.heap.size, 0, none⟩ = some l.val ∧ w'.cell? ⟨w.heap.size, 1, none⟩ = some r.val) (first | go_keep | (go_split_ands; constructor <;> (refine cell_belowB (by assumption) (by simp; omega) ?_; assumption))) (first | (go_at_call_of 27 (l.val); refine (hl _ (htA.below (by repeat (first | exact bl_refl _ | refine bl_alloc ?_ _ | refine bl_drew ?_ | refine bl_drewN ?_ _ | refine bl_step (by assumption) ?_)))).mono ?_; rintro e w1 ⟨rfl, hb1⟩; have hlt1 := Nat.lt_of_lt_of_le hlt hb1.size) | (go_at_call_of 27 (r.val); refine (hr _ (htA.below (by repeat (first | exact bl_refl _ | refine bl_alloc ?_ _ | refine bl_drew ?_ | refine bl_drewN ?_ _ | refine bl_step (by assumption) ?_)))).mono ?_; rintro e w2 ⟨rfl, hb2⟩; have hlt2 := Nat.lt_of_lt_of_le hlt1 hb2.size) | (go_at_call 47; refine (call_two _ _ _ _ (by decide) (by omega) _ (by simp)).mono ?_; rintro e w3 ⟨rfl, hb3⟩))
    go_wp2_with fail
    go_ret
    refine ⟨rfl, bl_step (w := w) (W := W1) ?_ hbA⟩
    repeat (first | exact bl_refl _ | refine bl_alloc ?_ _ | refine bl_drew ?_ | refine bl_drewN ?_ _ | refine bl_step (by assumption) ?_)
  | scale q r ihr =>
    intro w ht
    obtain ⟨hl0, hr0⟩ : q.ok ∧ r.ok := ho
    have e : (Tm.scale q r).text = callS ⟨#[115, 99, 97, 108, 101]⟩ [q.text, r.text] := rfl
    rw [e] at hs ⊢
    rw [callS_two] at hs
    have hbs := bs_str2
    have hl := number_calls q hl0 hp.1 (by omega)
    have hr := ihr hr0 hp.2 (by omega)
    clear ihr e hp
    generalize q.text = s at *
    generalize r.text = t at *
    unfold Tm.val
    go_enter Tryd.func27, Tryd.ntmps27
    go_wp2_with fail
    have hbA := bl_alloc (bl_refl w) (.cells #[q.val, r.val] 59)
    have hc0 := alloc_cell w #[q.val, r.val] 59 0 (q.val) rfl
    have hc1 := alloc_cell w #[q.val, r.val] 59 1 (r.val) rfl
    have hlt := alloc_lt w (.cells #[q.val, r.val] 59)
    change Code.wp _ _ _ _ (w.alloc (.cells #[q.val, r.val] 59))
    generalize (w.alloc (.cells #[q.val, r.val] 59)) = W1 at *
    have htA := ht.below hbA
    clear ht
    go_region_held3 (fun w' => w'.cell? ⟨w.heap.size, 0, none⟩ = some q.val ∧ w'.cell? ⟨w.heap.size, 1, none⟩ = some r.val) (first | go_keep | (go_split_ands; constructor <;> (refine cell_belowB (by assumption) (by simp; omega) ?_; assumption))) (first | (go_at_call_of 35 (q.val); refine (hl _ (htA.below (by repeat (first | exact bl_refl _ | refine bl_alloc ?_ _ | refine bl_drew ?_ | refine bl_drewN ?_ _ | refine bl_step (by assumption) ?_)))).mono ?_; rintro e w1 ⟨rfl, hb1⟩; have hlt1 := Nat.lt_of_lt_of_le hlt hb1.size) | (go_at_call_of 27 (r.val); refine (hr _ (htA.below (by repeat (first | exact bl_refl _ | refine bl_alloc ?_ _ | refine bl_drew ?_ | refine bl_drewN ?_ _ | refine bl_step (by assumption) ?_)))).mono ?_; rintro e w2 ⟨rfl, hb2⟩; have hlt2 := Nat.lt_of_lt_of_le hlt1 hb2.size) | (go_at_call 47; refine (call_two _ _ _ _ (by decide) (by omega) _ (by simp)).mono ?_; rintro e w3 ⟨rfl, hb3⟩))
    go_wp2_with fail
    go_ret
    refine ⟨rfl, bl_step (w := w) (W := W1) ?_ hbA⟩
    repeat (first | exact bl_refl _ | refine bl_alloc ?_ _ | refine bl_drew ?_ | refine bl_drewN ?_ _ | refine bl_step (by assumption) ?_)
  | when_ n r ihr =>
    intro w ht
    obtain ⟨hl0, hr0⟩ : (-9223372036854775808 ≤ n ∧ n < 9223372036854775808) ∧ r.ok := ho
    have e : (Tm.when_ n r).text = callS ⟨#[119, 104, 101, 110]⟩ [itoaS n, r.text] := rfl
    rw [e] at hs ⊢
    rw [callS_two] at hs
    have hbs := bs_str2
    have hl := fun w ht => itoa_calls n hl0.1 hl0.2 w ht
    have hr := ihr hr0 hp (by omega)
    clear ihr e hp
    generalize itoaS n = s at *
    generalize r.text = t at *
    unfold Tm.val
    go_enter Tryd.func27, Tryd.ntmps27
    go_wp2_with fail
    have hbA := bl_alloc (bl_refl w) (.cells #[.int .i64 n, r.val] 57)
    have hc0 := alloc_cell w #[.int .i64 n, r.val] 57 0 (.int .i64 n) rfl
    have hc1 := alloc_cell w #[.int .i64 n, r.val] 57 1 (r.val) rfl
    have hlt := alloc_lt w (.cells #[.int .i64 n, r.val] 57)
    change Code.wp _ _ _ _ (w.alloc (.cells #[.int .i64 n, r.val] 57))
    generalize (w.alloc (.cells #[.int .i64 n, r.val] 57)) = W1 at *
    have htA := ht.below hbA
    clear ht
    go_region_held3 (fun w' => w'.cell? ⟨w.heap.size, 0, none⟩ = some (.int .i64 n) ∧ w'.cell? ⟨w.heap.size, 1, none⟩ = some r.val) (first | go_keep | (go_split_ands; constructor <;> (refine cell_belowB (by assumption) (by simp; omega) ?_; assumption))) (first | (go_at_call_of 48 ((Value.int .i64 n)); refine (hl _ (htA.below (by repeat (first | exact bl_refl _ | refine bl_alloc ?_ _ | refine bl_drew ?_ | refine bl_drewN ?_ _ | refine bl_step (by assumption) ?_)))).mono ?_; rintro e w1 ⟨rfl, hb1⟩; have hlt1 := Nat.lt_of_lt_of_le hlt hb1.size) | (go_at_call_of 27 (r.val); refine (hr _ (htA.below (by repeat (first | exact bl_refl _ | refine bl_alloc ?_ _ | refine bl_drew ?_ | refine bl_drewN ?_ _ | refine bl_step (by assumption) ?_)))).mono ?_; rintro e w2 ⟨rfl, hb2⟩; have hlt2 := Nat.lt_of_lt_of_le hlt1 hb2.size) | (go_at_call 47; refine (call_two _ _ _ _ (by decide) (by omega) _ (by simp)).mono ?_; rintro e w3 ⟨rfl, hb3⟩))
    go_wp2_with fail
    go_ret
    refine ⟨rfl, bl_step (w := w) (W := W1) ?_ hbA⟩
    repeat (first | exact bl_refl _ | refine bl_alloc ?_ _ | refine bl_drew ?_ | refine bl_drewN ?_ _ | refine bl_step (by assumption) ?_)
  | or u l r ihl ihr =>
    intro w ht
    obtain ⟨_, hl0, hr0⟩ : _ ∧ l.ok ∧ r.ok := ho
    have e : (Tm.or u l r).text = callS ⟨#[111, 114]⟩ [u, l.text, r.text] := rfl
    rw [e] at hs ⊢
    rw [callS_three] at hs
    have hbs := bs_str3
    have hl := ihl hl0 hp.1 (by omega)
    have hr := ihr hr0 hp.2 (by omega)
    clear ihl ihr e hp
    generalize l.text = s at *
    generalize r.text = t at *
    unfold Tm.val
    go_enter Tryd.func27, Tryd.ntmps27
    go_wp2_with fail
    have hbA := bl_alloc (bl_refl w) (.cells #[.string u, l.val, r.val] 55)
    have hc0 := alloc_cell w #[.string u, l.val, r.val] 55 0 (.string u) rfl
    have hc1 := alloc_cell w #[.string u, l.val, r.val] 55 1 (l.val) rfl
    have hc2 := alloc_cell w #[.string u, l.val, r.val] 55 2 (r.val) rfl
    have hlt := alloc_lt w (.cells #[.string u, l.val, r.val] 55)
    change Code.wp _ _ _ _ (w.alloc (.cells #[.string u, l.val, r.val] 55))
    generalize (w.alloc (.cells #[.string u, l.val, r.val] 55)) = W1 at *
    have htA := ht.below hbA
    clear ht
    go_region_held3 (fun w' => w'.cell? ⟨w.heap.size, 0, none⟩ = some (.string u) ∧ w'.cell? ⟨w.heap.size, 1, none⟩ = some l.val ∧ w'.cell? ⟨w.heap.size, 2, none⟩ = some r.val) (first | go_keep | (go_split_ands; refine ⟨?_, ?_, ?_⟩ <;> (refine cell_belowB (by assumption) (by simp; omega) ?_; assumption))) (first | (go_at_call_of 27 (l.val); refine (hl _ (htA.below (by repeat (first | exact bl_refl _ | refine bl_alloc ?_ _ | refine bl_drew ?_ | refine bl_drewN ?_ _ | refine bl_step (by assumption) ?_)))).mono ?_; rintro e w1 ⟨rfl, hb1⟩; have hlt1 := Nat.lt_of_lt_of_le hlt hb1.size) | (go_at_call_of 27 (r.val); refine (hr _ (htA.below (by repeat (first | exact bl_refl _ | refine bl_alloc ?_ _ | refine bl_drew ?_ | refine bl_drewN ?_ _ | refine bl_step (by assumption) ?_)))).mono ?_; rintro e w2 ⟨rfl, hb2⟩; have hlt2 := Nat.lt_of_lt_of_le hlt1 hb2.size) | (go_at_call 47; refine (call_three _ _ _ _ _ (by decide) (by omega) _ (by simp)).mono ?_; rintro e w3 ⟨rfl, hb3⟩))
    go_wp2_with fail
    go_ret
    refine ⟨rfl, bl_step (w := w) (W := W1) ?_ hbA⟩
    repeat (first | exact bl_refl _ | refine bl_alloc ?_ _ | refine bl_drew ?_ | refine bl_drewN ?_ _ | refine bl_step (by assumption) ?_)
  | if_ q l r ihl ihr =>
    intro w ht
    obtain ⟨hq0, hl0, hr0⟩ : q.ok ∧ l.ok ∧ r.ok := ho
    have e : (Tm.if_ q l r).text = callS ⟨#[105, 102]⟩ [q.text, l.text, r.text] := rfl
    rw [e] at hs ⊢
    rw [callS_three] at hs
    have hbs := bs_str3
    have hq := number_calls q hq0 hp.1 (by omega)
    have hl := ihl hl0 hp.2.1 (by omega)
    have hr := ihr hr0 hp.2.2 (by omega)
    clear ihl ihr e hp
    generalize q.text = u at *
    generalize l.text = s at *
    generalize r.text = t at *
    unfold Tm.val
    go_enter Tryd.func27, Tryd.ntmps27
    go_wp2_with fail
    have hbA := bl_alloc (bl_refl w) (.cells #[q.val, l.val, r.val] 63)
    have hc0 := alloc_cell w #[q.val, l.val, r.val] 63 0 (q.val) rfl
    have hc1 := alloc_cell w #[q.val, l.val, r.val] 63 1 (l.val) rfl
    have hc2 := alloc_cell w #[q.val, l.val, r.val] 63 2 (r.val) rfl
    have hlt := alloc_lt w (.cells #[q.val, l.val, r.val] 63)
    change Code.wp _ _ _ _ (w.alloc (.cells #[q.val, l.val, r.val] 63))
    generalize (w.alloc (.cells #[q.val, l.val, r.val] 63)) = W1 at *
    have htA := ht.below hbA
    clear ht
    go_region_held3 (fun w' => w'.cell? ⟨w.heap.size, 0, none⟩ = some q.val ∧ w'.cell? ⟨w.heap.size, 1, none⟩ = some l.val ∧ w'.cell? ⟨w.heap.size, 2, none⟩ = some r.val) (first | go_keep | (go_split_ands; refine ⟨?_, ?_, ?_⟩ <;> (refine cell_belowB (by assumption) (by simp; omega) ?_; assumption))) (first | (go_at_call_of 35 (q.val); refine (hq _ (htA.below (by repeat (first | exact bl_refl _ | refine bl_alloc ?_ _ | refine bl_drew ?_ | refine bl_drewN ?_ _ | refine bl_step (by assumption) ?_)))).mono ?_; rintro e w1 ⟨rfl, hb1⟩; have hlt1 := Nat.lt_of_lt_of_le hlt hb1.size) | (go_at_call_of 27 (l.val); refine (hl _ (htA.below (by repeat (first | exact bl_refl _ | refine bl_alloc ?_ _ | refine bl_drew ?_ | refine bl_drewN ?_ _ | refine bl_step (by assumption) ?_)))).mono ?_; rintro e w2 ⟨rfl, hb2⟩; have hlt2 := Nat.lt_of_lt_of_le hlt1 hb2.size) | (go_at_call_of 27 (r.val); refine (hr _ (htA.below (by repeat (first | exact bl_refl _ | refine bl_alloc ?_ _ | refine bl_drew ?_ | refine bl_drewN ?_ _ | refine bl_step (by assumption) ?_)))).mono ?_; rintro e w4 ⟨rfl, hb4⟩; have hlt4 := Nat.lt_of_lt_of_le hlt2 hb4.size) | (go_at_call 47; refine (call_three _ _ _ _ _ (by decide) (by omega) _ (by simp)).mono ?_; rintro e w3 ⟨rfl, hb3⟩))
    go_wp2_with fail
    go_ret
    refine ⟨rfl, bl_step (w := w) (W := W1) ?_ hbA⟩
    repeat (first | exact bl_refl _ | refine bl_alloc ?_ _ | refine bl_drew ?_ | refine bl_drewN ?_ _ | refine bl_step (by assumption) ?_)
end Go.Proofs.YtapbkomicihkkaaDoor
