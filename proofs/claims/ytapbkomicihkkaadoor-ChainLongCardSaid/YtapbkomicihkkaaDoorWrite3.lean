/- The texts of any contract, of any number, or why there is none. -/
import Derived.Test.YtapbkomicihkkaaDoorWrite2
import Derived.Lib.ItoaLen
namespace Go.Proofs.YtapbkomicihkkaaDoor
open Go.RowKit
set_option linter.unusedVariables false
set_option linter.unusedSimpArgs false

/-! How long a text may be. -/
theorem decode_wide (s : ByteArray) (i : Nat) : (Utf8.decode s i).2 ≤ 4 := by
  simp only [Utf8.decode]
  repeat' split
  all_goals simp
theorem runesF_cover (s : ByteArray) : ∀ b pos, s.size ≤ pos + b → s.size ≤ pos + 4 * (runesF s b pos).length
  | 0, pos, h => by simp [runesF]; omega
  | b + 1, pos, h => by
    by_cases hp : pos < s.size
    · rw [runesF_step s b pos hp]
      have h1 := width_pos s pos hp
      have h2 := decode_wide s pos
      have := runesF_cover s b (pos + (Utf8.decode s pos).2) (by omega)
      simp only [List.length_cons]; omega
    · omega
theorem nameF_len : ∀ (l : List Int) (n : Nat), n ≤ 12 → nameF n l = true → n + l.length ≤ 12
  | [], n, h, _ => by simpa using h
  | r :: l, n, h, hn => by
    unfold nameF at hn
    split at hn
    · cases hn
    · rename_i hc
      have h13 : ¬ 12 < n + 1 := fun h => hc (by simp [h])
      have := nameF_len l (n + 1) (by omega) hn
      simp only [List.length_cons]; omega
theorem name_size (s : ByteArray) (h : nameB s = true) : s.size ≤ 48 := by
  have h1 := nameF_len (runesL s) 0 (by omega) h
  have h2 := runesF_cover s s.size 0 (by omega)
  unfold runesL at h1
  omega
theorem itoaS_size (n : Int) (h0 : -9223372036854775808 ≤ n) (h1 : n < 9223372036854775808) : (itoaS n).size ≤ 21 := by
  unfold itoaS
  rw [ba_size]
  exact Lib.itoa_length_le n h0 (by omega)
theorem Ob.text_size : ∀ o : Ob, o.ok → o.form = true → o.text.size ≤ 60 * o.nodes
  | .const n, ho, _ => by have := itoaS_size n ho.1 ho.2; simp only [Ob.text, Ob.nodes]; omega
  | .fix s, _, h => by have := name_size s h; simp only [Ob.text, Ob.nodes, callS_one]; have e : (⟨#[102, 105, 120]⟩ : ByteArray).size = 3 := rfl; omega
  | .add l r, ho, h | .mul l r, ho, h | .max l r, ho, h => by
    simp only [Ob.form, Bool.and_eq_true] at h
    have h1 := l.text_size ho.1 h.1; have h2 := r.text_size ho.2 h.2
    simp only [Ob.text, Ob.nodes, callS_two]
    have e : (⟨#[97, 100, 100]⟩ : ByteArray).size = 3 := rfl
    have e : (⟨#[109, 117, 108]⟩ : ByteArray).size = 3 := rfl
    have e : (⟨#[109, 97, 120]⟩ : ByteArray).size = 3 := rfl
    omega
  | .neg o, ho, h => by
    have h1 := o.text_size ho h
    simp only [Ob.text, Ob.nodes, callS_one]
    have e : (⟨#[110, 101, 103]⟩ : ByteArray).size = 3 := rfl
    omega
  | .odd _, _, h => by cases h
theorem Tm.text_size : ∀ o : Tm, o.ok → o.form = true → o.text.size ≤ 60 * o.nodes
  | .zero, _, _ => by simp only [Tm.text, Tm.nodes]; have e : (⟨#[122, 101, 114, 111]⟩ : ByteArray).size = 4 := rfl; omega
  | .one s, _, h => by have := name_size s h; simp only [Tm.text, Tm.nodes, callS_one]; have e : (⟨#[111, 110, 101]⟩ : ByteArray).size = 3 := rfl; omega
  | .give t, ho, h => by
    have h1 := t.text_size ho h
    simp only [Tm.text, Tm.nodes, callS_one]
    have e : (⟨#[103, 105, 118, 101]⟩ : ByteArray).size = 4 := rfl
    omega
  | .and l r, ho, h => by
    simp only [Tm.form, Bool.and_eq_true] at h
    have h1 := l.text_size ho.1 h.1; have h2 := r.text_size ho.2 h.2
    simp only [Tm.text, Tm.nodes, callS_two]
    have e : (⟨#[97, 110, 100]⟩ : ByteArray).size = 3 := rfl
    omega
  | .or s l r, ho, h => by
    simp only [Tm.form, Bool.and_eq_true] at h
    have h0 := name_size s h.1
    have h1 := l.text_size ho.2.1 h.2.1; have h2 := r.text_size ho.2.2 h.2.2
    simp only [Tm.text, Tm.nodes, callS_three]
    have e : (⟨#[111, 114]⟩ : ByteArray).size = 2 := rfl
    omega
  | .scale o t, ho, h => by
    simp only [Tm.form, Bool.and_eq_true] at h
    have h1 := o.text_size ho.1 h.1; have h2 := t.text_size ho.2 h.2
    simp only [Tm.text, Tm.nodes, callS_two]
    have e : (⟨#[115, 99, 97, 108, 101]⟩ : ByteArray).size = 5 := rfl
    omega
  | .when_ n t, ho, h => by
    simp only [Tm.form, Bool.and_eq_true] at h
    have h1 := itoaS_size n ho.1.1 ho.1.2; have h2 := t.text_size ho.2 h.2
    simp only [Tm.text, Tm.nodes, callS_two]
    have e : (⟨#[119, 104, 101, 110]⟩ : ByteArray).size = 4 := rfl
    omega
  | .if_ o l r, ho, h => by
    simp only [Tm.form, Bool.and_eq_true] at h
    have h0 := o.text_size ho.1 h.1
    have h1 := l.text_size ho.2.1 h.2.1; have h2 := r.text_size ho.2.2 h.2.2
    simp only [Tm.text, Tm.nodes, callS_three]
    have e : (⟨#[105, 102]⟩ : ByteArray).size = 2 := rfl
    omega
  | .odd _, _, h => by cases h
theorem Ob.check_zero (o : Ob) (h : o.check = 0) : o.form = true ∧ o.nodes ≤ 60 ∧ o.deep ≤ 12 := by
  unfold Ob.check at h
  cases hf : o.form with
  | false => rw [hf] at h; simp at h
  | true =>
    rw [hf] at h
    simp only [if_true] at h
    split at h
    · cases h
    · exact ⟨rfl, by omega, by omega⟩
theorem Tm.check_zero (o : Tm) (h : o.check = 0) : o.form = true ∧ o.nodes ≤ 60 ∧ o.deep ≤ 12 ∧ dupL o.labels = false := by
  unfold Tm.check at h
  cases hf : o.form with
  | false => rw [hf] at h; simp at h
  | true =>
    rw [hf] at h
    simp only [if_true] at h
    split at h
    · cases h
    · split at h
      · cases h
      · rename_i hd; exact ⟨rfl, by omega, by omega, by simpa using hd⟩

/-- A text, if it is not too long. -/
def toldS (s : ByteArray) : ByteArray × Int := if 1000 < s.size then (⟨#[]⟩, 5) else (s, 0)
def pairS (p : ByteArray × Int) : Value := .tuple #[.string p.1, .int .i64 p.2]
theorem told_calls (s : ByteArray) (hs : s.size ≤ 1099511627776) (w : World) :
    Calls Tryd.prog 26 #[.string s] w fun e w' => e = .returned (.tuple #[.string (toldS s).1, .int .i64 (toldS s).2]) ∧ w = w' := by
  by_cases h : 1000 < s.size
  · have e : toldS s = (⟨#[]⟩, 5) := if_pos h
    rw [e]
    clear e
    go_enter Tryd.func26, Tryd.ntmps26
    go_wp2_with fail
    go_ret2
    exact ⟨rfl, rfl⟩
  · have e : toldS s = (s, 0) := if_neg h
    have h' : s.size ≤ 1000 := by omega
    rw [e]
    clear e
    go_enter Tryd.func26, Tryd.ntmps26
    go_wp2_with fail
    go_ret2
    exact ⟨rfl, rfl⟩
def Tm.write (t : Tm) : ByteArray × Int := if t.check = 0 then toldS t.text else (⟨#[]⟩, t.check)
def Ob.write (t : Ob) : ByteArray × Int := if t.check = 0 then toldS t.text else (⟨#[]⟩, t.check)
set_option maxRecDepth 100000 in
set_option maxHeartbeats 1000000 in
theorem twrite_calls (o : Tm) (ho : o.ok) (hm : o.meas ≤ 1099511627776) (w : World) (ht : TabOk w) :
    Calls Tryd.prog 8 #[o.val] w fun e w' => e = .returned (.tuple #[.string o.write.1, .int .i64 o.write.2]) ∧ Below w.heap.size w w' := by
  have hck := tcheck_calls o ho hm
  by_cases h : o.check = 0
  · have e : o.write = toldS o.text := if_pos h
    have hz := o.check_zero h
    have hts := o.text_size ho hz.1
    have hcc := contract_calls o ho (o.form_plain hz.1) (by omega)
    have htd := told_calls o.text (by omega)
    rw [h] at hck
    rw [e]
    generalize toldS o.text = ts at *
    generalize o.text = s at *
    clear e h hz
    go_enter Tryd.func8, Tryd.ntmps8
    go_wp2_with fail
    refine (hck _).mono ?_
    rintro e w1 ⟨rfl, hb1⟩
    go_wp2_with fail
    refine (hcc _ (ht.below hb1)).mono ?_
    rintro e w2 ⟨rfl, hb2⟩
    go_wp2_with fail
    refine (htd _).mono ?_
    rintro e w3 ⟨rfl, rfl⟩
    go_wp2_with fail
    go_ret2
    exact ⟨rfl, bl_step hb2 hb1⟩
  · have e : o.write = (⟨#[]⟩, o.check) := if_neg h
    have h' : (o.check != 0) = true := by simp [h]
    rw [e]
    clear e
    generalize o.check = c at *
    clear h
    go_enter Tryd.func8, Tryd.ntmps8
    go_wp2_with fail
    refine (hck _).mono ?_
    rintro e w1 ⟨rfl, hb1⟩
    go_wp2_with fail
    go_ret2
    exact ⟨rfl, hb1⟩
end Go.Proofs.YtapbkomicihkkaaDoor
