/- A drawn region that writes what it has loaded: what is held of the world may hang on which operations have come up. -/
import Derived.Test.YtapbkomicihkkaaDoorSpar
import Derived.Deep.RegionHeld
namespace Go.Proofs.YtapbkomicihkkaaDoor
open Go.RowKit
set_option linter.unusedVariables false
set_option linter.unusedSimpArgs false

section
variable {P : Program} {ops : Array Oper} {Q : Exit → Act → World → Prop} {md : Region.Mode} {S : Array Bool → World → Prop}
/-- Whatever order is picked from here on; behind each operation S holds of those that have come up, and of the world. -/
def wpAnyG (P : Program) (md : Region.Mode) (ops : Array Oper) (Q : Exit → Act → World → Prop) (S : Array Bool → World → Prop) : Nat → Array Bool → Act → World → Prop
  | 0, l, a, w => Region.ready md ops l = [] ∧ Q .normal a w
  | n + 1, l, a, w => (Region.ready md ops l = [] → Q .normal a w) ∧
    ∀ i ∈ Region.ready md ops l, wpOp P ops Q i (fun a' w' => S (l.setIfInBounds i true) w' ∧ wpAnyG P md ops Q S n (l.setIfInBounds i true) a' w') a w
theorem wpAny_of_gated : ∀ (n : Nat) (l : Array Bool) (a : Act) (w : World), wpAnyG P md ops Q S n l a w → wpAny P md ops Q n l a w
  | 0, _, _, _, h => h
  | n + 1, _, _, _, h => ⟨h.1, fun i hi => wpOp_mono (fun a' w' k => wpAny_of_gated n _ a' w' k.2) (h.2 i hi)⟩
theorem wpAnyG_first {i : Nat} {oi : Oper} {v : Value} {S0 : World → Prop} {R : Array Bool → Prop} (hi : ops[i]? = some oi) (hsel : ∀ (j : Nat) (o : Oper) cs b, ops[j]? = some o → o.op ≠ .select cs b)
    (hQ : ∀ c a w, Q (.panic c) (a.put oi.dst v) w → Q (.panic c) a w)
    (hS0 : ∀ (l : Array Bool) w, R l → S (l.setIfInBounds i true) w → S0 w) (hSi : ∀ (l : Array Bool) w, S (l.setIfInBounds i true) w → S l w)
    (hRs : ∀ l j, i ∈ Region.ready md ops l → j ∈ Region.ready md ops l → j ≠ i → R l → R (l.setIfInBounds j true)) :
    ∀ (n : Nat) (l : Array Bool) (a : Act) (w : World),
      (∀ j oj, ops[j]? = some oj → j ≠ i → l.getD j true = false → (∀ e ∈ oj.after, Region.binds md e = true → e.on ≠ i) → oi.apart ops oj = true) →
      i ∈ Region.ready md ops l → R l → YieldsIf P ops S0 oi v a → S (l.setIfInBounds i true) w →
      wpAnyG P md ops Q S n (l.setIfInBounds i true) (a.put oi.dst v) w → wpAnyG P md ops Q S (n + 1) l a w := by
  intro n
  induction n with
  | zero =>
    intro l a w _ hr hR hy hS H
    refine ⟨fun h => (by rw [h] at hr; cases hr), fun j hj => ?_⟩
    by_cases hji : j = i
    · subst hji; exact hy.wpOp hi (hS0 l w hR hS) ⟨hS, H⟩
    · have := ready_mono hj hji
      rw [H.1] at this
      cases this
  | succ n ih =>
    intro l a w hfree hr hR hy hS H
    refine ⟨fun h => (by rw [h] at hr; cases hr), fun j hj => ?_⟩
    by_cases hji : j = i
    · subst hji; exact hy.wpOp hi (hS0 l w hR hS) ⟨hS, H⟩
    · have h1 := H.2 j (ready_mono hj hji)
      obtain ⟨hjun, oj, hoj, hall⟩ := mem_ready.1 hj
      have hnot : ∀ e ∈ oj.after, Region.binds md e = true → e.on ≠ i := fun e he hb heq => by
        have k1 := hall e he hb
        have k0 := (mem_ready.1 hr).1
        rw [heq] at k1
        rcases Nat.lt_or_ge i l.size with h' | h'
        · simp [h'] at k0 k1; rw [k0] at k1; cases k1
        · simp [Array.getElem?_eq_none h'] at k1
      have h2 := wpOp_putIf hoj (hfree j oj hoj hji hjun hnot) (fun cs b => hsel i oi cs b hi) (fun cs b => hsel j oj cs b hoj) hQ hy h1
      have hfree' : ∀ k ok, ops[k]? = some ok → k ≠ i → (l.setIfInBounds j true).getD k true = false →
          (∀ e ∈ ok.after, Region.binds md e = true → e.on ≠ i) → oi.apart ops ok = true := fun k ok hk hki hun hno => by
        refine hfree k ok hk hki ?_ hno
        by_cases hjk : j = k
        · subst hjk; exact hjun
        · rw [getD_set_ne true hjk] at hun; exact hun
      refine wpOp_mono (fun a' w' h3 => ?_) h2
      have hS' : S ((l.setIfInBounds j true).setIfInBounds i true) w' := by rw [Array.setIfInBounds_comm _ _ hji]; exact h3.2.1
      refine ⟨hSi _ _ hS', ih (l.setIfInBounds j true) a' w' hfree' (ready_mono hr (Ne.symm hji)) (hRs l j hr hj hji hR) h3.1 hS' ?_⟩
      rw [Array.setIfInBounds_comm _ _ hji]
      exact h3.2.2
/-- Number k waits for number i. -/
def waitsB (md : Region.Mode) (ops : Array Oper) (i k : Nat) : Bool :=
  match ops[k]? with
  | some o => o.after.any (fun e => Region.binds md e && e.on == i)
  | none => false
theorem waits_ready {i k : Nat} (h : waitsB md ops i k = true) {l : Array Bool} (hi : i ∈ Region.ready md ops l) : k ∉ Region.ready md ops l := by
  intro hk
  obtain ⟨_, ok, hok, hall⟩ := mem_ready.1 hk
  unfold waitsB at h
  rw [hok] at h
  simp only [Array.any_eq_true', Bool.and_eq_true, beq_iff_eq] at h
  obtain ⟨e, he, hb, heq⟩ := h
  have k1 := hall e he hb
  have k0 := (mem_ready.1 hi).1
  rw [heq] at k1
  rcases Nat.lt_or_ge i l.size with h' | h'
  · simp [h'] at k0 k1; rw [k0] at k1; cases k1
  · simp [Array.getElem?_eq_none h'] at k1
/-- A load is taken first; what it reads is held until number k, which waits for it, comes up. -/
theorem wpAnyG_load {i k : Nat} {oi : Oper} {v : Value} {S0 : World → Prop} {n : Nat} {l : Array Bool} {a : Act} {w : World} (hi : ops[i]? = some oi)
    (hs : Region.noSelect ops = true) (hf : Region.free md ops l i = true) (hr : (Region.ready md ops l).contains i = true) (hQ : ∀ c a w, Q (.panic c) (a.put oi.dst v) w → Q (.panic c) a w)
    (hw : waitsB md ops i k = true) (hk : l.getD k true = false) (hki : i ≠ k)
    (hS0 : ∀ (l : Array Bool) w, (l.setIfInBounds i true).getD k true = false → S (l.setIfInBounds i true) w → S0 w) (hSi : ∀ (l : Array Bool) w, S (l.setIfInBounds i true) w → S l w)
    (hy : YieldsIf P ops S0 oi v a) (hS : S (l.setIfInBounds i true) w) (h : wpAnyG P md ops Q S n (l.setIfInBounds i true) (a.put oi.dst v) w) : wpAnyG P md ops Q S (n + 1) l a w :=
  wpAnyG_first (R := fun l => l.getD k true = false) hi (Region.noSelect_spec hs) hQ (fun l w hR hS => hS0 l w (by rw [getD_set_ne true hki]; exact hR) hS) hSi
    (fun l j hi hj hne hR => by
      have : j ≠ k := fun e => waits_ready hw hi (e ▸ hj)
      rw [getD_set_ne true this]; exact hR)
    n l a w (Region.free_spec hi hf) (by simpa using hr) hk hy hS h
/-- What yields in whatever world is taken first. -/
theorem wpAnyG_pure {i : Nat} {oi : Oper} {v : Value} {n : Nat} {l : Array Bool} {a : Act} {w : World} (hi : ops[i]? = some oi)
    (hs : Region.noSelect ops = true) (hf : Region.free md ops l i = true) (hr : (Region.ready md ops l).contains i = true) (hQ : ∀ c a w, Q (.panic c) (a.put oi.dst v) w → Q (.panic c) a w)
    (hSi : ∀ (l : Array Bool) w, S (l.setIfInBounds i true) w → S l w)
    (hy : YieldsIf P ops (fun _ => True) oi v a) (hS : S (l.setIfInBounds i true) w) (h : wpAnyG P md ops Q S n (l.setIfInBounds i true) (a.put oi.dst v) w) : wpAnyG P md ops Q S (n + 1) l a w :=
  wpAnyG_first (R := fun _ => True) hi (Region.noSelect_spec hs) hQ (fun _ _ _ _ => trivial) hSi (fun _ _ _ _ _ _ => trivial) n l a w (Region.free_spec hi hf) (by simpa using hr) trivial hy hS h
def AllReadyG (P : Program) (md : Region.Mode) (ops : Array Oper) (Q : Exit → Act → World → Prop) (S : Array Bool → World → Prop) (n : Nat) (l : Array Bool) (a : Act) (w : World) (rs : List Nat) : Prop :=
  ∀ i ∈ rs, wpOp P ops Q i (fun a' w' => S (l.setIfInBounds i true) w' ∧ wpAnyG P md ops Q S n (l.setIfInBounds i true) a' w') a w
theorem AllReadyG.nil {n : Nat} {l : Array Bool} {a : Act} {w : World} : AllReadyG P md ops Q S n l a w [] := fun _ h => by cases h
theorem AllReadyG.cons {n : Nat} {l : Array Bool} {a : Act} {w : World} {i : Nat} {o : Oper} {rs : List Nat} (ho : ops[i]? = some o)
    (h : ∀ K : Act → World → Prop, Shut (∀ a w, S (l.setIfInBounds i true) w → wpAnyG P md ops Q S n (l.setIfInBounds i true) a w → K a w) → if Region.wanted o (yielded ops a.tmps) = true then Oper.wp P o a w K Q else K (a.put o.dst undef) w)
    (hs : AllReadyG P md ops Q S n l a w rs) : AllReadyG P md ops Q S n l a w (i :: rs) := fun j hj => by
  rcases List.mem_cons.1 hj with rfl | hj
  · exact wpOp_step ho (fun K hK => h K (fun a w hS hW => hK a w ⟨hS, hW⟩))
  · exact hs j hj
theorem wpAnyG_ready {rs : List Nat} {n : Nat} {l : Array Bool} {a : Act} {w : World} (hr : Region.ready md ops l = rs) (hne : rs ≠ []) (h : AllReadyG P md ops Q S n l a w rs) : wpAnyG P md ops Q S (n + 1) l a w :=
  ⟨fun h0 => absurd (hr ▸ h0) hne, hr ▸ h⟩
theorem wpAnyG_done {l : Array Bool} {a : Act} {w : World} (hr : Region.ready md ops l = []) (h : Q .normal a w) : ∀ n, wpAnyG P md ops Q S n l a w
  | 0 => ⟨hr, h⟩
  | _ + 1 => ⟨fun _ => h, by rw [hr]; simp⟩
theorem wp_region_gated {id : Nat} {a : Act} {w : World} (hm : P.follows .mixedOrders = true) (h : wpAnyG P .any ops Q S ops.size (Array.replicate ops.size false) a w.drew) : (Code.region id ops true).wp P Q a w :=
  wp_region_any hm (wpAny_of_gated _ _ _ _ h)
theorem wpAnyG_world {n : Nat} {l : Array Bool} {a : Act} {w : World} (T : World → Prop) (hT : T w) (h : ∀ w, T w → wpAnyG P md ops Q S n l a w) : wpAnyG P md ops Q S n l a w := h w hT
theorem wpAnyG_named {n : Nat} {l : Array Bool} {a : Act} {w : World} (h : ∀ A, A = a → wpAnyG P md ops Q S n l A w) : wpAnyG P md ops Q S n l a w := h a rfl
theorem wpAnyG_put {A0 A : Act} {ds : List Nat} {n m : Nat} {k : List (Nat × Value)} {d : Nat} {v : Value} {l : Array Bool} {w : World} (hO : Off A0 A ds) (hn : A0.tmps.size = n) (hN : Kn A k) (hd : ds.contains d = true) (hs : Nat.blt d n = true) (hl : offK d k = true)
    (h : ∀ A, Off A0 A ds → Kn A ((d, v) :: k) → wpAnyG P md ops Q S m l A w) : wpAnyG P md ops Q S m l (A.put (some d) v) w :=
  h _ (hO.put d v hd) (hN.put hl (by rw [hO.size, hn]; have := hs; simp [Nat.blt] at this; omega))
end
/-- A new block; its place and its world are letters. -/
theorem gen_alloc {W : World} {cs : Array Value} {t : TypeId} {M : World → Nat → Prop} (h : ∀ W' b, Below W.heap.size W W' → Blk W' b cs t → W.heap.size ≤ b → M W' b) : M (W.alloc (.cells cs t)) W.heap.size :=
  h _ _ (bl_alloc (bl_refl W) _) (Blk.new W cs t) (Nat.le_refl _)
end Go.Proofs.YtapbkomicihkkaaDoor
