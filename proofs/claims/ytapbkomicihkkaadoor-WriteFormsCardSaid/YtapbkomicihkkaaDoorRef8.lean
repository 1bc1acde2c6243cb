/- The tree of a contract may be just if the contract may. -/
import Derived.Test.YtapbkomicihkkaaDoorRefB
namespace Go.Proofs.YtapbkomicihkkaaDoor
open Go.RowKit
set_option linter.unusedVariables false
set_option linter.unusedSimpArgs false

theorem ownF_two (s : ByteArray) (n : Int) : ownF 2 s n = nameB s := by unfold ownF; rw [if_neg (by decide), if_pos (by decide)]
theorem ownF_five (s : ByteArray) (n : Int) : ownF 5 s n = nameB s := by unfold ownF; rw [if_neg (by decide), if_pos (by decide)]
theorem ownF_12 (s : ByteArray) (n : Int) : ownF 12 s n = nameB s := by unfold ownF; rw [if_neg (by decide), if_pos (by decide)]
theorem ownF_7 (s : ByteArray) (n : Int) : ownF 7 s n = dayB n := by unfold ownF; rw [if_neg (by decide), if_neg (by decide), if_pos rfl]
theorem ownF_11 (s : ByteArray) (n : Int) : ownF 11 s n = validB n := by unfold ownF; rw [if_neg (by decide), if_neg (by decide), if_neg (by decide), if_pos rfl]
theorem ownF_any (k : Int) (s : ByteArray) (n : Int) (h : k = 1 ∨ k = 3 ∨ k = 4 ∨ k = 14 ∨ k = 13 ∨ k = 15 ∨ k = 16 ∨ k = 6 ∨ k = 8) : ownF k s n = true := by unfold ownF; rw [if_pos h]
theorem Ob.tr_form : ∀ (o : Ob), o.fine → o.tr.form true = o.form
  | .const n, _ => by unfold Ob.tr Tr.form; rw [ownF_11]; simp [Tr.formAll, Ob.form]
  | .fix s, _ => by unfold Ob.tr Tr.form; rw [ownF_12]; simp [Tr.formAll, Ob.form]
  | .neg o, h => by unfold Ob.tr Tr.form; rw [ownF_any _ _ _ (by decide)]; simp [Tr.formAll, Ob.form, flagF, o.tr_form h]
  | .add l r, h => by unfold Ob.tr Tr.form; rw [ownF_any _ _ _ (by decide)]; simp [Tr.formAll, Ob.form, flagF, l.tr_form h.1, r.tr_form h.2]
  | .mul l r, h => by unfold Ob.tr Tr.form; rw [ownF_any _ _ _ (by decide)]; simp [Tr.formAll, Ob.form, flagF, l.tr_form h.1, r.tr_form h.2]
  | .max l r, h => by unfold Ob.tr Tr.form; rw [ownF_any _ _ _ (by decide)]; simp [Tr.formAll, Ob.form, flagF, l.tr_form h.1, r.tr_form h.2]
  | .odd _, h => h.elim
theorem Tm.tr_form : ∀ (o : Tm), o.fine → o.tr.form false = o.form
  | .zero, _ => by unfold Tm.tr Tr.form; rw [ownF_any _ _ _ (by decide)]; simp [Tr.formAll, Tm.form]
  | .one s, _ => by unfold Tm.tr Tr.form; rw [ownF_two]; simp [Tr.formAll, Tm.form]
  | .give t, h => by unfold Tm.tr Tr.form; rw [ownF_any _ _ _ (by decide)]; simp [Tr.formAll, Tm.form, flagF, t.tr_form h]
  | .and l r, h => by unfold Tm.tr Tr.form; rw [ownF_any _ _ _ (by decide)]; simp [Tr.formAll, Tm.form, flagF, l.tr_form h.1, r.tr_form h.2]
  | .or s l r, h => by unfold Tm.tr Tr.form; rw [ownF_five]; simp [Tr.formAll, Tm.form, flagF, l.tr_form h.2.1, r.tr_form h.2.2]
  | .scale o t, h => by unfold Tm.tr Tr.form; rw [ownF_any _ _ _ (by decide)]; simp [Tr.formAll, Tm.form, flagF, o.tr_form h.1, t.tr_form h.2]
  | .when_ n t, h => by unfold Tm.tr Tr.form; rw [ownF_7]; simp [Tr.formAll, Tm.form, flagF, t.tr_form h.2]
  | .if_ o l r, h => by unfold Tm.tr Tr.form; rw [ownF_any _ _ _ (by decide)]; simp [Tr.formAll, Tm.form, flagF, o.tr_form h.1, l.tr_form h.2.1, r.tr_form h.2.2]
  | .odd _, h => h.elim
theorem Ob.tr_nodes : ∀ (o : Ob), o.fine → o.tr.nodes = o.nodes
  | .const n, _ => by simp [Ob.tr, Tr.nodes, Tr.nodesAll, Ob.nodes]
  | .fix s, _ => by simp [Ob.tr, Tr.nodes, Tr.nodesAll, Ob.nodes]
  | .neg o, h => by simp [Ob.tr, Tr.nodes, Tr.nodesAll, Ob.nodes, o.tr_nodes h]; try omega
  | .add l r, h => by simp [Ob.tr, Tr.nodes, Tr.nodesAll, Ob.nodes, l.tr_nodes h.1, r.tr_nodes h.2]; try omega
  | .mul l r, h => by simp [Ob.tr, Tr.nodes, Tr.nodesAll, Ob.nodes, l.tr_nodes h.1, r.tr_nodes h.2]; try omega
  | .max l r, h => by simp [Ob.tr, Tr.nodes, Tr.nodesAll, Ob.nodes, l.tr_nodes h.1, r.tr_nodes h.2]; try omega
  | .odd _, h => h.elim
theorem Tm.tr_nodes : ∀ (o : Tm), o.fine → o.tr.nodes = o.nodes
  | .zero, _ => by simp [Tm.tr, Tr.nodes, Tr.nodesAll, Tm.nodes]
  | .one s, _ => by simp [Tm.tr, Tr.nodes, Tr.nodesAll, Tm.nodes]
  | .give t, h => by simp [Tm.tr, Tr.nodes, Tr.nodesAll, Tm.nodes, t.tr_nodes h]; try omega
  | .and l r, h => by simp [Tm.tr, Tr.nodes, Tr.nodesAll, Tm.nodes, l.tr_nodes h.1, r.tr_nodes h.2]; try omega
  | .or s l r, h => by simp [Tm.tr, Tr.nodes, Tr.nodesAll, Tm.nodes, l.tr_nodes h.2.1, r.tr_nodes h.2.2]; try omega
  | .scale o t, h => by simp [Tm.tr, Tr.nodes, Tr.nodesAll, Tm.nodes, o.tr_nodes h.1, t.tr_nodes h.2]; try omega
  | .when_ n t, h => by simp [Tm.tr, Tr.nodes, Tr.nodesAll, Tm.nodes, t.tr_nodes h.2]; try omega
  | .if_ o l r, h => by simp [Tm.tr, Tr.nodes, Tr.nodesAll, Tm.nodes, o.tr_nodes h.1, l.tr_nodes h.2.1, r.tr_nodes h.2.2]; try omega
  | .odd _, h => h.elim
theorem Ob.tr_deep : ∀ (o : Ob), o.fine → o.tr.deep = o.deep
  | .const n, _ => by simp [Ob.tr, Tr.deep, Tr.deepAll, Ob.deep]
  | .fix s, _ => by simp [Ob.tr, Tr.deep, Tr.deepAll, Ob.deep]
  | .neg o, h => by simp [Ob.tr, Tr.deep, Tr.deepAll, Ob.deep, o.tr_deep h]; try (first | omega | exact Nat.add_comm _ _)
  | .add l r, h => by simp [Ob.tr, Tr.deep, Tr.deepAll, Ob.deep, l.tr_deep h.1, r.tr_deep h.2]; try (first | omega | exact Nat.add_comm _ _)
  | .mul l r, h => by simp [Ob.tr, Tr.deep, Tr.deepAll, Ob.deep, l.tr_deep h.1, r.tr_deep h.2]; try (first | omega | exact Nat.add_comm _ _)
  | .max l r, h => by simp [Ob.tr, Tr.deep, Tr.deepAll, Ob.deep, l.tr_deep h.1, r.tr_deep h.2]; try (first | omega | exact Nat.add_comm _ _)
  | .odd _, h => h.elim
theorem Tm.tr_deep : ∀ (o : Tm), o.fine → o.tr.deep = o.deep
  | .zero, _ => by simp [Tm.tr, Tr.deep, Tr.deepAll, Tm.deep]
  | .one s, _ => by simp [Tm.tr, Tr.deep, Tr.deepAll, Tm.deep]
  | .give t, h => by simp [Tm.tr, Tr.deep, Tr.deepAll, Tm.deep, t.tr_deep h]; try (first | omega | exact Nat.add_comm _ _)
  | .and l r, h => by simp [Tm.tr, Tr.deep, Tr.deepAll, Tm.deep, l.tr_deep h.1, r.tr_deep h.2]; try (first | omega | exact Nat.add_comm _ _)
  | .or s l r, h => by simp [Tm.tr, Tr.deep, Tr.deepAll, Tm.deep, l.tr_deep h.2.1, r.tr_deep h.2.2]; try (first | omega | exact Nat.add_comm _ _)
  | .scale o t, h => by simp [Tm.tr, Tr.deep, Tr.deepAll, Tm.deep, o.tr_deep h.1, t.tr_deep h.2]; try (first | omega | exact Nat.add_comm _ _)
  | .when_ n t, h => by simp [Tm.tr, Tr.deep, Tr.deepAll, Tm.deep, t.tr_deep h.2]; try (first | omega | exact Nat.add_comm _ _)
  | .if_ o l r, h => by simp [Tm.tr, Tr.deep, Tr.deepAll, Tm.deep, o.tr_deep h.1, l.tr_deep h.2.1, r.tr_deep h.2.2]; try (first | omega | exact Nat.add_comm _ _)
  | .odd _, h => h.elim
theorem Ob.tr_labels : ∀ (o : Ob), o.fine → o.tr.labels = []
  | .const n, _ => by simp [Ob.tr, Tr.labels, Tr.labelsAll]
  | .fix s, _ => by simp [Ob.tr, Tr.labels, Tr.labelsAll]
  | .neg o, h => by simp [Ob.tr, Tr.labels, Tr.labelsAll, o.tr_labels h]
  | .add l r, h => by simp [Ob.tr, Tr.labels, Tr.labelsAll, l.tr_labels h.1, r.tr_labels h.2]
  | .mul l r, h => by simp [Ob.tr, Tr.labels, Tr.labelsAll, l.tr_labels h.1, r.tr_labels h.2]
  | .max l r, h => by simp [Ob.tr, Tr.labels, Tr.labelsAll, l.tr_labels h.1, r.tr_labels h.2]
  | .odd _, h => h.elim
theorem Tm.tr_labels : ∀ (o : Tm), o.fine → o.tr.labels = o.labels
  | .zero, _ => by simp [Tm.tr, Tr.labels, Tr.labelsAll, Tm.labels]
  | .one s, _ => by simp [Tm.tr, Tr.labels, Tr.labelsAll, Tm.labels]
  | .give t, h => by simp [Tm.tr, Tr.labels, Tr.labelsAll, Tm.labels, t.tr_labels h]
  | .and l r, h => by simp [Tm.tr, Tr.labels, Tr.labelsAll, Tm.labels, l.tr_labels h.1, r.tr_labels h.2]
  | .or s l r, h => by simp [Tm.tr, Tr.labels, Tr.labelsAll, Tm.labels, l.tr_labels h.2.1, r.tr_labels h.2.2]
  | .scale o t, h => by simp [Tm.tr, Tr.labels, Tr.labelsAll, Tm.labels, o.tr_labels h.1, t.tr_labels h.2]
  | .when_ n t, h => by simp [Tm.tr, Tr.labels, Tr.labelsAll, Tm.labels, t.tr_labels h.2]
  | .if_ o l r, h => by simp [Tm.tr, Tr.labels, Tr.labelsAll, Tm.labels, o.tr_labels h.1, l.tr_labels h.2.1, r.tr_labels h.2.2]
  | .odd _, h => h.elim
theorem Tm.tr_check (t : Tm) (h : t.fine) : t.tr.check false = t.check := by
  unfold Tr.check Tm.check
  rw [t.tr_form h, t.tr_nodes h, t.tr_deep h, t.tr_labels h]
theorem Ob.tr_size : ∀ (o : Ob), o.fine → o.tr.size = o.parts
  | .const n, _ => by simp [Ob.tr, Tr.size, Tr.sizeAll, Ob.parts]
  | .fix s, _ => by simp [Ob.tr, Tr.size, Tr.sizeAll, Ob.parts]
  | .neg o, h => by simp [Ob.tr, Tr.size, Tr.sizeAll, Ob.parts, o.tr_size h]; try omega
  | .add l r, h => by simp [Ob.tr, Tr.size, Tr.sizeAll, Ob.parts, l.tr_size h.1, r.tr_size h.2]; try omega
  | .mul l r, h => by simp [Ob.tr, Tr.size, Tr.sizeAll, Ob.parts, l.tr_size h.1, r.tr_size h.2]; try omega
  | .max l r, h => by simp [Ob.tr, Tr.size, Tr.sizeAll, Ob.parts, l.tr_size h.1, r.tr_size h.2]; try omega
  | .odd _, h => h.elim
theorem Tm.tr_size : ∀ (o : Tm), o.fine → o.tr.size = o.parts
  | .zero, _ => by simp [Tm.tr, Tr.size, Tr.sizeAll, Tm.parts]
  | .one s, _ => by simp [Tm.tr, Tr.size, Tr.sizeAll, Tm.parts]
  | .give t, h => by simp [Tm.tr, Tr.size, Tr.sizeAll, Tm.parts, t.tr_size h]; try omega
  | .and l r, h => by simp [Tm.tr, Tr.size, Tr.sizeAll, Tm.parts, l.tr_size h.1, r.tr_size h.2]; try omega
  | .or s l r, h => by simp [Tm.tr, Tr.size, Tr.sizeAll, Tm.parts, l.tr_size h.2.1, r.tr_size h.2.2]; try omega
  | .scale o t, h => by simp [Tm.tr, Tr.size, Tr.sizeAll, Tm.parts, o.tr_size h.1, t.tr_size h.2]; try omega
  | .when_ n t, h => by simp [Tm.tr, Tr.size, Tr.sizeAll, Tm.parts, t.tr_size h.2]; try omega
  | .if_ o l r, h => by simp [Tm.tr, Tr.size, Tr.sizeAll, Tm.parts, o.tr_size h.1, l.tr_size h.2.1, r.tr_size h.2.2]; try omega
  | .odd _, h => h.elim
theorem nodeOk_small (k : Int) (s : ByteArray) (n : Int) (hk : 0 ≤ k ∧ k ≤ 20) (hs : s.size ≤ 14) (hn : -1000000000000 ≤ n ∧ n ≤ 1000000000000) : nodeOk k s n := ⟨by omega, by omega, by omega⟩
theorem Ob.tr_ok : ∀ (o : Ob), o.fine → o.tr.ok
  | .const n, h => by unfold Ob.tr Tr.ok Tr.okAll; exact ⟨nodeOk_small _ _ _ (by omega) (by decide) h, trivial⟩
  | .fix s, h => by unfold Ob.tr Tr.ok Tr.okAll; exact ⟨nodeOk_small _ _ _ (by omega) h (by omega), trivial⟩
  | .neg o, h => by unfold Ob.tr Tr.ok Tr.okAll Tr.okAll; exact ⟨nodeOk_small _ _ _ (by omega) (by decide) (by omega), o.tr_ok h, trivial⟩
  | .add l r, h => by unfold Ob.tr Tr.ok Tr.okAll Tr.okAll Tr.okAll; exact ⟨nodeOk_small _ _ _ (by omega) (by decide) (by omega), l.tr_ok h.1, r.tr_ok h.2, trivial⟩
  | .mul l r, h => by unfold Ob.tr Tr.ok Tr.okAll Tr.okAll Tr.okAll; exact ⟨nodeOk_small _ _ _ (by omega) (by decide) (by omega), l.tr_ok h.1, r.tr_ok h.2, trivial⟩
  | .max l r, h => by unfold Ob.tr Tr.ok Tr.okAll Tr.okAll Tr.okAll; exact ⟨nodeOk_small _ _ _ (by omega) (by decide) (by omega), l.tr_ok h.1, r.tr_ok h.2, trivial⟩
  | .odd _, h => h.elim
theorem Tm.tr_ok : ∀ (o : Tm), o.fine → o.tr.ok
  | .zero, h => by unfold Tm.tr Tr.ok Tr.okAll; exact ⟨nodeOk_small _ _ _ (by omega) (by decide) (by omega), trivial⟩
  | .one s, h => by unfold Tm.tr Tr.ok Tr.okAll; exact ⟨nodeOk_small _ _ _ (by omega) h (by omega), trivial⟩
  | .give t, h => by unfold Tm.tr Tr.ok Tr.okAll Tr.okAll; exact ⟨nodeOk_small _ _ _ (by omega) (by decide) (by omega), t.tr_ok h, trivial⟩
  | .and l r, h => by unfold Tm.tr Tr.ok Tr.okAll Tr.okAll Tr.okAll; exact ⟨nodeOk_small _ _ _ (by omega) (by decide) (by omega), l.tr_ok h.1, r.tr_ok h.2, trivial⟩
  | .or s l r, h => by unfold Tm.tr Tr.ok Tr.okAll Tr.okAll Tr.okAll; exact ⟨nodeOk_small _ _ _ (by omega) h.1 (by omega), l.tr_ok h.2.1, r.tr_ok h.2.2, trivial⟩
  | .scale o t, h => by unfold Tm.tr Tr.ok Tr.okAll Tr.okAll Tr.okAll; exact ⟨nodeOk_small _ _ _ (by omega) (by decide) (by omega), o.tr_ok h.1, t.tr_ok h.2, trivial⟩
  | .when_ n t, h => by unfold Tm.tr Tr.ok Tr.okAll Tr.okAll; exact ⟨nodeOk_small _ _ _ (by omega) (by decide) (by have := h.1; omega), t.tr_ok h.2, trivial⟩
  | .if_ o l r, h => by unfold Tm.tr Tr.ok Tr.okAll Tr.okAll Tr.okAll Tr.okAll; exact ⟨nodeOk_small _ _ _ (by omega) (by decide) (by omega), o.tr_ok h.1, l.tr_ok h.2.1, r.tr_ok h.2.2, trivial⟩
  | .odd _, h => h.elim
end Go.Proofs.YtapbkomicihkkaaDoor
