/- 'EventSame', the plain law: an event with one thing turned is another one. -/
import Derived.Test.YtapbkomicihkkaaGreatDoorPlan1
import Derived.Test.YtapbkomicihkkaaGreatDoorDoAG
import Derived.Test.YtapbkomicihkkaaGreatDoorEventG
namespace Go.Proofs.YtapbkomicihkkaaGreatDoor
open Go.RowKit
set_option linter.unusedVariables false
set_option linter.unusedSimpArgs false

theorem Ob.fine_meas : ∀ (o : Ob), o.fine → o.meas = o.parts
  | .const _, _ => rfl
  | .fix _, _ => rfl
  | .add l r, h => by have := l.fine_meas h.1; have := r.fine_meas h.2; simp only [Ob.meas, Ob.parts]; omega
  | .mul l r, h => by have := l.fine_meas h.1; have := r.fine_meas h.2; simp only [Ob.meas, Ob.parts]; omega
  | .max l r, h => by have := l.fine_meas h.1; have := r.fine_meas h.2; simp only [Ob.meas, Ob.parts]; omega
  | .neg o, h => by have := o.fine_meas h; simp only [Ob.meas, Ob.parts]; omega
  | .odd _, h => h.elim
theorem Tm.fine_meas : ∀ (o : Tm), o.fine → o.meas = o.parts
  | .zero, _ => rfl
  | .one _, _ => rfl
  | .give t, h => by have := t.fine_meas h; simp only [Tm.meas, Tm.parts]; omega
  | .and l r, h => by have := l.fine_meas h.1; have := r.fine_meas h.2; simp only [Tm.meas, Tm.parts]; omega
  | .or _ l r, h => by have := l.fine_meas h.2.1; have := r.fine_meas h.2.2; simp only [Tm.meas, Tm.parts]; omega
  | .scale o t, h => by have := o.fine_meas h.1; have := t.fine_meas h.2; simp only [Tm.meas, Tm.parts]; omega
  | .when_ _ t, h => by have := t.fine_meas h.2; simp only [Tm.meas, Tm.parts]; omega
  | .if_ o l r, h => by have := o.fine_meas h.1; have := l.fine_meas h.2.1; have := r.fine_meas h.2.2; simp only [Tm.meas, Tm.parts]; omega
  | .odd _, h => h.elim
theorem Ob.same_self : ∀ (o : Ob), o.fine → o.same o = true
  | .const _, _ => by simp [Ob.same]
  | .fix _, _ => by simp [Ob.same]
  | .add l r, h => by simp [Ob.same, l.same_self h.1, r.same_self h.2]
  | .mul l r, h => by simp [Ob.same, l.same_self h.1, r.same_self h.2]
  | .max l r, h => by simp [Ob.same, l.same_self h.1, r.same_self h.2]
  | .neg o, h => by simp [Ob.same, o.same_self h]
  | .odd _, h => h.elim
theorem Tm.same_self : ∀ (o : Tm), o.fine → o.same o = true
  | .zero, _ => by simp [Tm.same]
  | .one _, _ => by simp [Tm.same]
  | .give t, h => by simp [Tm.same, t.same_self h]
  | .and l r, h => by simp [Tm.same, l.same_self h.1, r.same_self h.2]
  | .or _ l r, h => by simp [Tm.same, l.same_self h.2.1, r.same_self h.2.2]
  | .scale o t, h => by simp [Tm.same, o.same_self h.1, t.same_self h.2]
  | .when_ _ t, h => by simp [Tm.same, t.same_self h.2]
  | .if_ o l r, h => by simp [Tm.same, o.same_self h.1, l.same_self h.2.1, r.same_self h.2.2]
  | .odd _, h => h.elim
theorem Ob.same_meas : ∀ (o p : Ob), o.same p = true → o.meas = p.meas := by
  intro o
  induction o with
  | const _ => intro p h; cases p <;> simp_all [Ob.same, Ob.meas]
  | fix _ => intro p h; cases p <;> simp_all [Ob.same, Ob.meas]
  | odd _ => intro p h; cases p <;> simp_all [Ob.same, Ob.meas]
  | neg o ih => intro p h; cases p <;> simp [Ob.same] at h; simp only [Ob.meas]; rw [ih _ h]
  | add l r h1 h2 => intro p h; cases p <;> simp [Ob.same] at h; simp only [Ob.meas]; rw [h1 _ h.1, h2 _ h.2]
  | mul l r h1 h2 => intro p h; cases p <;> simp [Ob.same] at h; simp only [Ob.meas]; rw [h1 _ h.1, h2 _ h.2]
  | max l r h1 h2 => intro p h; cases p <;> simp [Ob.same] at h; simp only [Ob.meas]; rw [h1 _ h.1, h2 _ h.2]
theorem Tm.same_meas : ∀ (o p : Tm), o.same p = true → o.meas = p.meas := by
  intro o
  induction o with
  | zero => intro p h; cases p <;> simp_all [Tm.same, Tm.meas]
  | one _ => intro p h; cases p <;> simp_all [Tm.same, Tm.meas]
  | odd _ => intro p h; cases p <;> simp_all [Tm.same, Tm.meas]
  | give o ih => intro p h; cases p <;> simp [Tm.same] at h; simp only [Tm.meas]; rw [ih _ h]
  | and l r h1 h2 => intro p h; cases p <;> simp [Tm.same] at h; simp only [Tm.meas]; rw [h1 _ h.1, h2 _ h.2]
  | or s l r h1 h2 => intro p h; cases p <;> simp [Tm.same] at h; simp only [Tm.meas]; rw [h1 _ h.2.1, h2 _ h.2.2]
  | scale o t h2 => intro p h; cases p <;> simp [Tm.same] at h; simp only [Tm.meas]; rw [Ob.same_meas _ _ h.1, h2 _ h.2]
  | when_ n t h2 => intro p h; cases p <;> simp [Tm.same] at h; simp only [Tm.meas]; rw [h2 _ h.2]
  | if_ o l r h1 h2 => intro p h; cases p <;> simp [Tm.same] at h; simp only [Tm.meas]; rw [Ob.same_meas _ _ h.1, h1 _ h.2.1, h2 _ h.2.2]
theorem Tm.same_give (t : Tm) : t.same (.give t) = false := by
  cases h : t.same (.give t) with
  | false => rfl
  | true => have := t.same_meas _ h; simp only [Tm.meas] at this; omega
end Go.Proofs.YtapbkomicihkkaaGreatDoor
namespace Go.Proofs.YtapbkomicihkkaaGreatDoor
open Go.RowKit
set_option linter.unusedVariables false
set_option linter.unusedSimpArgs false

theorem Ev.same_of_rest {a b : Ev} (h : a.rest b = false) : a.same b = false := by unfold Ev.same; rw [h]; simp
theorem ba_longer (s t : ByteArray) (h : 0 < t.size) : (s.toList == (s ++ t).toList) = false ∧ ((s ++ t).toList == s.toList) = false := by
  have hne : s.toList ≠ (s ++ t).toList := by
    intro e
    have e2 := congrArg List.length e
    rw [ByteArray.toList_eq, ByteArray.toList_eq, ba_append, List.length_append, ba_len, ba_len] at e2
    omega
  exact ⟨by simpa using hne, by simpa using fun e => hne e.symm⟩
theorem xor_one (n : Int) (h : IsInt64 n) : bits .xor .i64 n 1 ≠ n ∧ IsInt64 (bits .xor .i64 n 1) := by
  have hb : bits .xor .i64 n 1 = IntKind.i64.wrap ((BitVec.ofInt 64 n ^^^ BitVec.ofInt 64 1).toNat : Int) := rfl
  have hw : ∀ r : BitVec 64, IntKind.i64.wrap (r.toNat : Int) = r.toInt := by
    intro r
    have h1 := r.isLt
    rw [BitVec.toInt_eq_toNat_cond]
    rw [IntKind.wrap_i64]
    split <;> omega
  rw [hb, hw]
  unfold IsInt64 at *
  refine ⟨fun e => ?_, ?_⟩
  · have hn : (BitVec.ofInt 64 n).toInt = n := by
      rw [BitVec.toInt_ofInt]
      exact Int.bmod_eq_of_le (by omega) (by omega)
    have h2 : BitVec.ofInt 64 n ^^^ BitVec.ofInt 64 1 = BitVec.ofInt 64 n := BitVec.eq_of_toInt_eq (by rw [e, hn])
    have h3 := congrArg (fun z => BitVec.ofInt 64 n ^^^ z) h2
    simp [← BitVec.xor_assoc] at h3
  · generalize BitVec.ofInt 64 n ^^^ BitVec.ofInt 64 1 = r
    have h1 := BitVec.toInt_lt (x := r)
    have h2 := BitVec.le_toInt (x := r)
    simp at h1 h2
    omega
/-- One thing of an event turned. -/
def turnX (x : Ev) : Nat → Ev
  | 0 => { x with kind := x.kind + 1 }
  | 1 => { x with id := x.id ++ ⟨#[120]⟩ }
  | 2 => { x with name := x.name ++ ⟨#[120]⟩ }
  | 3 => { x with label := x.label ++ ⟨#[120]⟩ }
  | 4 => { x with cur := x.cur ++ ⟨#[120]⟩ }
  | 5 => { x with day := bits .xor .i64 x.day 1 }
  | 6 => { x with value := bits .xor .i64 x.value 1 }
  | _ => { x with term := if x.term.isNil then .zero else .odd .nilIface }
theorem turnX_ok (x : Ev) (h : x.fit) (k : Nat) : (turnX x k).ok := by
  have hk : IsInt64 x.kind := by have := h.kind; unfold IsInt64; omega
  have hk1 : IsInt64 (x.kind + 1) := by have := h.kind; unfold IsInt64; omega
  unfold turnX
  split
  · exact ⟨hk1, h.day, h.value, h.term.ok⟩
  · exact ⟨hk, h.day, h.value, h.term.ok⟩
  · exact ⟨hk, h.day, h.value, h.term.ok⟩
  · exact ⟨hk, h.day, h.value, h.term.ok⟩
  · exact ⟨hk, h.day, h.value, h.term.ok⟩
  · exact ⟨hk, (xor_one _ h.day).2, h.value, h.term.ok⟩
  · exact ⟨hk, h.day, (xor_one _ h.value).2, h.term.ok⟩
  · refine ⟨hk, h.day, h.value, ?_⟩
    show Tm.ok (if _ then _ else _)
    split
    · trivial
    · exact .inl rfl
theorem fit_ok {x : Ev} (h : x.fit) : x.ok := ⟨by have := h.kind; unfold IsInt64; omega, h.day, h.value, h.term.ok⟩
theorem beq_succ (n : Int) : (n == n + 1) = false ∧ (n + 1 == n) = false := by constructor <;> simp <;> omega
theorem turnX_same (x : Ev) (h : x.fit) (k : Nat) : x.same (turnX x k) = false ∧ (turnX x k).same x = false := by
  unfold turnX
  split
  · obtain ⟨h1, h2⟩ := beq_succ x.kind; exact ⟨Ev.same_of_rest (by simp only [Ev.rest, h1]; simp), Ev.same_of_rest (by simp only [Ev.rest, h2]; simp)⟩
  · obtain ⟨h1, h2⟩ := ba_longer x.id ⟨#[120]⟩ (by decide); exact ⟨Ev.same_of_rest (by simp only [Ev.rest, h1, h2]; simp), Ev.same_of_rest (by simp only [Ev.rest, h1, h2]; simp)⟩
  · obtain ⟨h1, h2⟩ := ba_longer x.name ⟨#[120]⟩ (by decide); exact ⟨Ev.same_of_rest (by simp only [Ev.rest, h1, h2]; simp), Ev.same_of_rest (by simp only [Ev.rest, h1, h2]; simp)⟩
  · obtain ⟨h1, h2⟩ := ba_longer x.label ⟨#[120]⟩ (by decide); exact ⟨Ev.same_of_rest (by simp only [Ev.rest, h1, h2]; simp), Ev.same_of_rest (by simp only [Ev.rest, h1, h2]; simp)⟩
  · obtain ⟨h1, h2⟩ := ba_longer x.cur ⟨#[120]⟩ (by decide); exact ⟨Ev.same_of_rest (by simp only [Ev.rest, h1, h2]; simp), Ev.same_of_rest (by simp only [Ev.rest, h1, h2]; simp)⟩
  · have h1 := (xor_one _ h.day).1
    have e1 : (bits .xor .i64 x.day 1 == x.day) = false := by simpa using h1
    have e2 : (x.day == bits .xor .i64 x.day 1) = false := by simpa using fun e => h1 e.symm
    exact ⟨Ev.same_of_rest (by simp only [Ev.rest, e1, e2]; simp), Ev.same_of_rest (by simp only [Ev.rest, e1, e2]; simp)⟩
  · have h1 := (xor_one _ h.value).1
    have e1 : (bits .xor .i64 x.value 1 == x.value) = false := by simpa using h1
    have e2 : (x.value == bits .xor .i64 x.value 1) = false := by simpa using fun e => h1 e.symm
    exact ⟨Ev.same_of_rest (by simp only [Ev.rest, e1, e2]; simp), Ev.same_of_rest (by simp only [Ev.rest, e1, e2]; simp)⟩
  · have hf := h.term
    rcases hf with e | hf
    · have en : x.term.isNil = true := by rw [e]; rfl
      have h1 : x.terms { x with term := .zero } = false := by unfold Ev.terms; rw [e]; rfl
      have h2 : Ev.terms { x with term := .zero } x = false := by unfold Ev.terms; rw [e]; rfl
      rw [en]
      exact ⟨by simp only [if_true, Ev.same, h1]; rfl, by simp only [if_true, Ev.same, h2]; rfl⟩
    · have en : x.term.isNil = false := by
        cases hx : x.term with
        | odd v => rw [hx] at hf; exact hf.1.elim
        | _ => rfl
      have hs1 : x.term.same (.odd .nilIface) = false := by cases hx : x.term <;> simp [Tm.same]
      have hs2 : (Tm.odd .nilIface).same x.term = false := by cases hx : x.term <;> simp [Tm.same]
      rw [en]
      refine ⟨?_, ?_⟩
      · show (((x.term.isNil && _) || x.term.same (.odd .nilIface)) && _) = false
        rw [en, hs1]; rfl
      · show (((_ && x.term.isNil) || (Tm.odd .nilIface).same x.term) && _) = false
        rw [en, hs2]; rfl
theorem fit_same {x : Ev} (h : x.fit) : x.same x = true := by
  have ht : x.terms x = true := by
    unfold Ev.terms
    rcases h.term with e | hf
    · rw [e]; rfl
    · rw [x.term.same_self hf.1]; simp
  unfold Ev.same
  rw [ht]
  simp [Ev.rest]
end Go.Proofs.YtapbkomicihkkaaGreatDoor
