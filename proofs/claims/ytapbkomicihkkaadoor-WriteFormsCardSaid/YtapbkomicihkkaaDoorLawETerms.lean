/- 'EventTerms': what it computes answers as it says. -/
import Derived.Test.YtapbkomicihkkaaDoorPlan1
namespace Go.Proofs.YtapbkomicihkkaaDoor
open Go.RowKit
set_option linter.unusedVariables false
set_option linter.unusedSimpArgs false

theorem Ob.fine_meas : ∀ (o : Ob), o.fine → o.meas = o.parts
  | .const _, _ => rfl
  | .fix _, _ => rfl
  | .add l r, h => by have := l.fine_meas h.1; have := r.fine_meas h.2; simp only [Ob.meas, Ob.parts]; omega
  | .mul l r, h => by have := l.fine_meas h.1; have := r.fine_meas h.2; simp only [Ob.meas, Ob.parts]; omega
  | .max l r, h => by have := l.fine_meas h.1; have := r.fine_meas h.2; simp only [Ob.meas, Ob.parts]; omega
  | .neg o, h => by have := o.fine_meas h; simp only [Ob.meas, Ob.parts]; omega
  | .odd _, h => h.elim
theorem Tm.fine_meas : ∀ (o : Tm), o.fine → o.meas = o.parts
  | .zero, _ => rfl
  | .one _, _ => rfl
  | .give t, h => by have := t.fine_meas h; simp only [Tm.meas, Tm.parts]; omega
  | .and l r, h => by have := l.fine_meas h.1; have := r.fine_meas h.2; simp only [Tm.meas, Tm.parts]; omega
  | .or _ l r, h => by have := l.fine_meas h.2.1; have := r.fine_meas h.2.2; simp only [Tm.meas, Tm.parts]; omega
  | .scale o t, h => by have := o.fine_meas h.1; have := t.fine_meas h.2; simp only [Tm.meas, Tm.parts]; omega
  | .when_ _ t, h => by have := t.fine_meas h.2; simp only [Tm.meas, Tm.parts]; omega
  | .if_ o l r, h => by have := o.fine_meas h.1; have := l.fine_meas h.2.1; have := r.fine_meas h.2.2; simp only [Tm.meas, Tm.parts]; omega
  | .odd _, h => h.elim
theorem Ob.same_self : ∀ (o : Ob), o.fine → o.same o = true
  | .const _, _ => by simp [Ob.same]
  | .fix _, _ => by simp [Ob.same]
  | .add l r, h => by simp [Ob.same, l.same_self h.1, r.same_self h.2]
  | .mul l r, h => by simp [Ob.same, l.same_self h.1, r.same_self h.2]
  | .max l r, h => by simp [Ob.same, l.same_self h.1, r.same_self h.2]
  | .neg o, h => by simp [Ob.same, o.same_self h]
  | .odd _, h => h.elim
theorem Tm.same_self : ∀ (o : Tm), o.fine → o.same o = true
  | .zero, _ => by simp [Tm.same]
  | .one _, _ => by simp [Tm.same]
  | .give t, h => by simp [Tm.same, t.same_self h]
  | .and l r, h => by simp [Tm.same, l.same_self h.1, r.same_self h.2]
  | .or _ l r, h => by simp [Tm.same, l.same_self h.2.1, r.same_self h.2.2]
  | .scale o t, h => by simp [Tm.same, o.same_self h.1, t.same_self h.2]
  | .when_ _ t, h => by simp [Tm.same, t.same_self h.2]
  | .if_ o l r, h => by simp [Tm.same, o.same_self h.1, l.same_self h.2.1, r.same_self h.2.2]
  | .odd _, h => h.elim
theorem Ob.same_meas : ∀ (o p : Ob), o.same p = true → o.meas = p.meas := by
  intro o
  induction o with
  | const _ => intro p h; cases p <;> simp_all [Ob.same, Ob.meas]
  | fix _ => intro p h; cases p <;> simp_all [Ob.same, Ob.meas]
  | odd _ => intro p h; cases p <;> simp_all [Ob.same, Ob.meas]
  | neg o ih => intro p h; cases p <;> simp [Ob.same] at h; simp only [Ob.meas]; rw [ih _ h]
  | add l r h1 h2 => intro p h; cases p <;> simp [Ob.same] at h; simp only [Ob.meas]; rw [h1 _ h.1, h2 _ h.2]
  | mul l r h1 h2 => intro p h; cases p <;> simp [Ob.same] at h; simp only [Ob.meas]; rw [h1 _ h.1, h2 _ h.2]
  | max l r h1 h2 => intro p h; cases p <;> simp [Ob.same] at h; simp only [Ob.meas]; rw [h1 _ h.1, h2 _ h.2]
theorem Tm.same_meas : ∀ (o p : Tm), o.same p = true → o.meas = p.meas := by
  intro o
  induction o with
  | zero => intro p h; cases p <;> simp_all [Tm.same, Tm.meas]
  | one _ => intro p h; cases p <;> simp_all [Tm.same, Tm.meas]
  | odd _ => intro p h; cases p <;> simp_all [Tm.same, Tm.meas]
  | give o ih => intro p h; cases p <;> simp [Tm.same] at h; simp only [Tm.meas]; rw [ih _ h]
  | and l r h1 h2 => intro p h; cases p <;> simp [Tm.same] at h; simp only [Tm.meas]; rw [h1 _ h.1, h2 _ h.2]
  | or s l r h1 h2 => intro p h; cases p <;> simp [Tm.same] at h; simp only [Tm.meas]; rw [h1 _ h.2.1, h2 _ h.2.2]
  | scale o t h2 => intro p h; cases p <;> simp [Tm.same] at h; simp only [Tm.meas]; rw [Ob.same_meas _ _ h.1, h2 _ h.2]
  | when_ n t h2 => intro p h; cases p <;> simp [Tm.same] at h; simp only [Tm.meas]; rw [h2 _ h.2]
  | if_ o l r h1 h2 => intro p h; cases p <;> simp [Tm.same] at h; simp only [Tm.meas]; rw [Ob.same_meas _ _ h.1, h1 _ h.2.1, h2 _ h.2.2]
theorem Tm.same_give (t : Tm) : t.same (.give t) = false := by
  cases h : t.same (.give t) with
  | false => rfl
  | true => have := t.same_meas _ h; simp only [Tm.meas] at this; omega
end Go.Proofs.YtapbkomicihkkaaDoor
