/- The texts of WriteForms. -/
import Derived.Test.YtapbkomicihkkaaDoorRight
import Derived.Test.YtapbkomicihkkaaDoorLawETerms
namespace Go.Proofs.YtapbkomicihkkaaDoor
open Go.RowKit
set_option linter.unusedVariables false
set_option linter.unusedSimpArgs false

theorem ba_ext {a b : ByteArray} (h : a.data.toList = b.data.toList) : a = b := by
  cases a; cases b
  simp only at h
  rw [Array.toList_inj.1 h]
/-- A part takes few bytes. -/
theorem Ob.text_short : ∀ o : Ob, o.fine → o.text.size ≤ 26 * o.parts
  | .const n, h => by
    have := itoaS_size n (by unfold Ob.fine at h; omega) (by unfold Ob.fine at h; omega)
    simp only [Ob.text, Ob.parts]; omega
  | .fix s, h => by unfold Ob.fine at h; simp only [Ob.text, Ob.parts, callS_one]; have : (⟨#[102, 105, 120]⟩ : ByteArray).size = 3 := rfl; omega
  | .add l r, h => by have := l.text_short h.1; have := r.text_short h.2; simp only [Ob.text, Ob.parts, callS_two]; have : (⟨#[97, 100, 100]⟩ : ByteArray).size = 3 := rfl; omega
  | .mul l r, h => by have := l.text_short h.1; have := r.text_short h.2; simp only [Ob.text, Ob.parts, callS_two]; have : (⟨#[109, 117, 108]⟩ : ByteArray).size = 3 := rfl; omega
  | .max l r, h => by have := l.text_short h.1; have := r.text_short h.2; simp only [Ob.text, Ob.parts, callS_two]; have : (⟨#[109, 97, 120]⟩ : ByteArray).size = 3 := rfl; omega
  | .neg o, h => by have := o.text_short h; simp only [Ob.text, Ob.parts, callS_one]; have : (⟨#[110, 101, 103]⟩ : ByteArray).size = 3 := rfl; omega
  | .odd _, h => h.elim
theorem Tm.text_short : ∀ o : Tm, o.fine → o.text.size ≤ 29 * o.parts
  | .zero, _ => by decide
  | .one s, h => by unfold Tm.fine at h; simp only [Tm.text, Tm.parts, callS_one]; have : (⟨#[111, 110, 101]⟩ : ByteArray).size = 3 := rfl; omega
  | .give t, h => by have := t.text_short h; simp only [Tm.text, Tm.parts, callS_one]; have : (⟨#[103, 105, 118, 101]⟩ : ByteArray).size = 4 := rfl; omega
  | .and l r, h => by have := l.text_short h.1; have := r.text_short h.2; simp only [Tm.text, Tm.parts, callS_two]; have : (⟨#[97, 110, 100]⟩ : ByteArray).size = 3 := rfl; omega
  | .or s l r, h => by have := l.text_short h.2.1; have := r.text_short h.2.2; have := h.1; simp only [Tm.text, Tm.parts, callS_three]; have : (⟨#[111, 114]⟩ : ByteArray).size = 2 := rfl; omega
  | .scale o t, h => by have := o.text_short h.1; have := t.text_short h.2; simp only [Tm.text, Tm.parts, callS_two]; have : (⟨#[115, 99, 97, 108, 101]⟩ : ByteArray).size = 5 := rfl; omega
  | .when_ n t, h => by
    have := t.text_short h.2; have := itoaS_size n (by have := h.1; omega) (by have := h.1; omega)
    simp only [Tm.text, Tm.parts, callS_two]; have : (⟨#[119, 104, 101, 110]⟩ : ByteArray).size = 4 := rfl; omega
  | .if_ o l r, h => by have := o.text_short h.1; have := l.text_short h.2.1; have := r.text_short h.2.2; simp only [Tm.text, Tm.parts, callS_three]; have : (⟨#[105, 102]⟩ : ByteArray).size = 2 := rfl; omega
  | .odd _, h => h.elim
/-- A right contract of a plan has a text. -/
theorem Tm.write_short (t : Tm) (h : t.fine) (hp : t.parts ≤ 34) (hc : t.check = 0) : t.write = (t.text, 0) := by
  have := t.text_short h
  unfold Tm.write toldS
  rw [if_pos hc, if_neg (by omega)]
/-- What has the form has its text, or none for its size or its labels. -/
theorem Tm.write_form (t : Tm) (h : t.form = true) : t.write = (t.text, 0) ∨ t.write = (⟨#[]⟩, 5) ∨ t.write = (⟨#[]⟩, 4) := by
  unfold Tm.write Tm.check toldS
  rw [h]
  simp only [if_true]
  by_cases h1 : 60 < t.nodes ∨ 12 < t.deep
  · rw [if_pos h1]; exact .inr (.inl rfl)
  · rw [if_neg h1]
    cases h2 : dupL t.labels with
    | true => exact .inr (.inr rfl)
    | false =>
      by_cases h3 : 1000 < t.text.size
      · exact .inr (.inl (by simp [h3]))
      · exact .inl (by simp [h3])
def olS : ByteArray := ⟨#[195, 182, 108]⟩
def newS : ByteArray := ⟨#[110, 101, 119]⟩
def eur3 : ByteArray := ⟨#[101, 117, 114]⟩
def dgS (d : Nat) : ByteArray := ⟨#[UInt8.ofNat (48 + d)]⟩
def oF (d : Nat) : Ob := .mul (.fix olS) (.neg (.const (-(d : Int))))
def mF (d : Nat) : Ob := .max (oF d) (.add (.const 1) (oF d))
def wS (d : Nat) : ByteArray := if d = 0 then ⟨#[109, 117, 108, 40, 102, 105, 120, 40, 195, 182, 108, 41, 44, 110, 101, 103, 40, 48, 41, 41]⟩ else (⟨#[109, 117, 108, 40, 102, 105, 120, 40, 195, 182, 108, 41, 44, 110, 101, 103, 40, 45]⟩ ++ dgS d) ++ ⟨#[41, 41]⟩
/-- The eight forms. -/
def frmT (d : Nat) (x y : Tm) : Nat → Tm
  | 0 => .zero
  | 1 => .one eur3
  | 2 => .give x
  | 3 => .and x y
  | 4 => .or newS x y
  | 5 => .when_ d y
  | 6 => .scale (oF d) x
  | _ => .if_ (mF d) x y
def cmS : ByteArray := ⟨#[44]⟩
def clS : ByteArray := ⟨#[41]⟩
def frmS (d : Nat) (a b : ByteArray) : Nat → ByteArray
  | 0 => ⟨#[122, 101, 114, 111]⟩
  | 1 => ⟨#[111, 110, 101, 40, 101, 117, 114, 41]⟩
  | 2 => ⟨#[103, 105, 118, 101, 40]⟩ ++ a ++ ⟨#[41]⟩
  | 3 => ⟨#[97, 110, 100, 40]⟩ ++ a ++ ⟨#[44]⟩ ++ b ++ ⟨#[41]⟩
  | 4 => ⟨#[111, 114, 40, 110, 101, 119, 44]⟩ ++ a ++ ⟨#[44]⟩ ++ b ++ ⟨#[41]⟩
  | 5 => ⟨#[119, 104, 101, 110, 40]⟩ ++ dgS d ++ ⟨#[44]⟩ ++ b ++ ⟨#[41]⟩
  | 6 => ⟨#[115, 99, 97, 108, 101, 40]⟩ ++ wS d ++ ⟨#[44]⟩ ++ a ++ ⟨#[41]⟩
  | _ => ⟨#[105, 102, 40, 109, 97, 120, 40]⟩ ++ wS d ++ ⟨#[44, 97, 100, 100, 40, 49, 44]⟩ ++ wS d ++ ⟨#[41, 41, 44]⟩ ++ a ++ ⟨#[44]⟩ ++ b ++ ⟨#[41]⟩
theorem oF_text : ∀ d : Nat, d < 10 → (oF d).text = wS d := by decide +kernel
theorem dg_text : ∀ d : Nat, d < 10 → itoaS (d : Int) = dgS d := by decide +kernel
theorem dg_slice : ∀ d : Nat, d < 10 → ((⟨#[48, 49, 50, 51, 52, 53, 54, 55, 56, 57]⟩ : ByteArray).extract d 10).extract 0 1 = dgS d := by decide +kernel
theorem one_text : itoaS 1 = ⟨#[49]⟩ := by decide +kernel
theorem oF_form : ∀ d : Nat, d < 10 → (oF d).form = true ∧ (mF d).form = true ∧ dayB (d : Int) = true := by decide +kernel
theorem eur3_name : nameB eur3 = true := by decide +kernel
theorem newS_name : nameB newS = true := by decide +kernel
theorem frm_form (d : Nat) (hd : d < 10) (x y : Tm) (hx : x.form = true) (hy : y.form = true) (k : Nat) : (frmT d x y k).form = true := by
  obtain ⟨h1, h2, h3⟩ := oF_form d hd
  unfold frmT
  split <;> simp [Tm.form, hx, hy, h1, h2, h3, eur3_name, newS_name]
theorem frm_text (d : Nat) (hd : d < 10) (x y : Tm) (k : Nat) : (frmT d x y k).text = frmS d x.text y.text k := by
  have h1 := oF_text d hd
  have h2 := dg_text d hd
  unfold frmT frmS
  split
  · rfl
  · decide +kernel
  · apply ba_ext; simp [Tm.text, callS_list, Lib.join_one]
  · apply ba_ext; simp [Tm.text, callS_list, Lib.join_cons, Lib.joinTail]
  · apply ba_ext; simp [Tm.text, callS_list, Lib.join_cons, Lib.joinTail, newS]
  · apply ba_ext; simp [Tm.text, callS_list, Lib.join_cons, Lib.joinTail, h2]
  · apply ba_ext; simp [Tm.text, callS_list, Lib.join_cons, Lib.joinTail, h1]
  · apply ba_ext; simp [Tm.text, Ob.text, mF, callS_list, Lib.join_cons, Lib.joinTail, h1, one_text]
theorem frm_ok (d : Nat) (hd : d < 10) (x y : Tm) (hx : x.ok) (hy : y.ok) (k : Nat) : (frmT d x y k).ok := by
  have ho : (oF d).ok := ⟨by show olS.size ≤ _; decide, by show _ ∧ _; omega⟩
  have hm : (mF d).ok := ⟨ho, by show _ ∧ _; decide, ho⟩
  unfold frmT
  split
  · trivial
  · show eur3.size ≤ _; decide
  · exact hx
  · exact ⟨hx, hy⟩
  · exact ⟨by show newS.size ≤ _; decide, hx, hy⟩
  · exact ⟨by omega, hy⟩
  · exact ⟨ho, hx⟩
  · exact ⟨hm, hx, hy⟩
theorem frm_meas (d : Nat) (x y : Tm) (hx : x.meas ≤ 34) (hy : y.meas ≤ 34) (k : Nat) : (frmT d x y k).meas ≤ 200 := by
  unfold frmT mF oF
  split <;> simp only [Tm.meas, Ob.meas] <;> omega
end Go.Proofs.YtapbkomicihkkaaDoor
