/- A drawn region walked over a frame of which few slots are known. -/
import Derived.Test.YtapbkomicihkkaaDoorSets
namespace Go.Proofs.YtapbkomicihkkaaDoor
open Go.RowKit
set_option linter.unusedVariables false
set_option linter.unusedSimpArgs false

theorem Act.put_no (a : Act) (v : Value) : a.put none v = a := rfl
/-- A frame that parts from another in some slots alone. -/
structure Off (A0 A : Act) (ds : List Nat) : Prop where
  size : A.tmps.size = A0.tmps.size
  defers : A.defers = A0.defers
  same : ∀ k : Nat, k ∉ ds → A.tmps[k]? = A0.tmps[k]?
theorem Off.refl (A : Act) (ds : List Nat) : Off A A ds := ⟨rfl, rfl, fun _ _ => rfl⟩
theorem Off.put {A0 A : Act} {ds : List Nat} (h : Off A0 A ds) (d : Nat) (v : Value) (hd : ds.contains d = true) : Off A0 (A.put (some d) v) ds := by
  refine ⟨?_, h.defers, fun k hk => ?_⟩
  · rw [← h.size]; simp [Act.put]
  · have hne : d ≠ k := fun e => hk (e ▸ (by simpa using hd))
    rw [← h.same k hk]
    simp [Act.put, Array.getElem?_setIfInBounds_ne hne]
/-- What the slots of a list hold is put back into the frame. -/
def putBack (A : Act) : List Nat → Array Value → Array Value
  | [], t => t
  | d :: ds, t => putBack A ds (t.setIfInBounds d (A.tmps[d]?.getD undef))
theorem putBack_size (A : Act) : ∀ (ds : List Nat) (t : Array Value), (putBack A ds t).size = t.size
  | [], _ => rfl
  | d :: ds, t => (putBack_size A ds _).trans (by simp)
theorem putBack_get (A : Act) (k : Nat) : ∀ (ds : List Nat) (t : Array Value), A.tmps.size = t.size → (k ∉ ds → A.tmps[k]? = t[k]?) → (putBack A ds t)[k]? = A.tmps[k]?
  | [], t, _, h => (h (by simp)).symm
  | d :: ds, t, hs, h => by
    refine putBack_get A k ds _ (by simpa using hs) (fun hk => ?_)
    by_cases e : d = k
    · subst e
      rcases Nat.lt_or_ge d t.size with hl | hl
      · rw [Array.getElem?_setIfInBounds_self_of_lt hl, Array.getElem?_eq_getElem (by omega)]; rfl
      · rw [Array.getElem?_eq_none (by omega), Array.getElem?_eq_none (by simpa using hl)]
    · rw [Array.getElem?_setIfInBounds_ne e]
      exact h (by simp only [List.mem_cons, not_or]; exact ⟨fun e' => e e'.symm, hk⟩)
theorem Off.eq {A0 A : Act} {ds : List Nat} (h : Off A0 A ds) : A = { tmps := putBack A ds A0.tmps, defers := A0.defers } := by
  have hs := h.size
  have ht : A.tmps = putBack A ds A0.tmps := by
    refine Array.ext_getElem? fun k => ?_
    exact (putBack_get A k ds A0.tmps hs (h.same k)).symm
  have hd := h.defers
  cases A
  simp only at ht hd ⊢
  rw [← ht, hd]
/-- A list's slots are put into a frame. -/
def putF (f : Nat → Value) : List Nat → Array Value → Array Value
  | [], t => t
  | d :: ds, t => putF f ds (t.setIfInBounds d (f d))
theorem putF_eq (A : Act) : ∀ (ds : List Nat) (t : Array Value), putBack A ds t = putF (fun d => A.tmps[d]?.getD undef) ds t
  | [], _ => rfl
  | d :: ds, t => putF_eq A ds _
theorem Off.ex {A0 A : Act} {ds : List Nat} (h : Off A0 A ds) : ∃ f : Nat → Value, A = { tmps := putF f ds A0.tmps, defers := A0.defers } :=
  ⟨fun d => A.tmps[d]?.getD undef, by rw [← putF_eq]; exact h.eq⟩
def putL (f : Nat → Value) : List Nat → List Value → List Value
  | [], t => t
  | d :: ds, t => putL f ds (t.set d (f d))
theorem putF_list (f : Nat → Value) : ∀ (ds : List Nat) (l : List Value), putF f ds l.toArray = (putL f ds l).toArray
  | [], _ => rfl
  | d :: ds, l => by
    show putF f ds (l.toArray.setIfInBounds d (f d)) = (putL f ds (l.set d (f d))).toArray
    rw [List.setIfInBounds_toArray]
    exact putF_list f ds _
theorem Off.lit {A0 A : Act} {ds : List Nat} (h : Off A0 A ds) {l : List Value} {df : List Deferred} (h0 : A0 = { tmps := l.toArray, defers := df }) : ∃ f : Nat → Value, A = { tmps := (putL f ds l).toArray, defers := df } := by
  obtain ⟨f, hf⟩ := h.ex
  subst h0
  exact ⟨f, by rw [hf, ← putF_list]⟩
/-- What is known of a frame's slots. -/
def Kn (A : Act) : List (Nat × Value) → Prop
  | [] => True
  | p :: l => A.tmps[p.1]?.getD undef = p.2 ∧ Kn A l
/-- A slot's value in a list. -/
def atK (k : Nat) : List (Nat × Value) → Option Value
  | [] => none
  | p :: l => bif Nat.beq k p.1 then some p.2 else atK k l
theorem Kn.get {A : Act} (k : Nat) {v : Value} : ∀ {l : List (Nat × Value)}, Kn A l → atK k l = some v → A.tmps[k]?.getD undef = v
  | [], _, e => by cases e
  | p :: l, h, e => by
    unfold atK at e
    cases hk : (Nat.beq k p.1) with
    | true => rw [hk] at e; cases e; rw [(Nat.eq_of_beq_eq_true hk : k = p.1)]; exact h.1
    | false => rw [hk] at e; exact Kn.get k h.2 e
/-- No row of the list speaks of the slot. -/
def offK (k : Nat) : List (Nat × Value) → Bool
  | [] => true
  | p :: l => bif Nat.beq k p.1 then false else offK k l
theorem Kn.far {A : Act} {d : Nat} {v : Value} : ∀ {l : List (Nat × Value)}, Kn A l → offK d l = true → Kn (A.put (some d) v) l
  | [], _, _ => trivial
  | p :: l, h, e => by
    unfold offK at e
    cases hk : (Nat.beq d p.1) with
    | true => rw [hk] at e; cases e
    | false =>
      rw [hk] at e
      refine ⟨?_, h.2.far e⟩
      rw [← h.1]
      have hne : d ≠ p.1 := Nat.ne_of_beq_eq_false hk
      simp [Act.put, Array.getElem?_setIfInBounds_ne hne]
theorem Kn.put {A : Act} {d : Nat} {v : Value} {l : List (Nat × Value)} (h : Kn A l) (e : offK d l = true) (hs : d < A.tmps.size) : Kn (A.put (some d) v) ((d, v) :: l) := by
  refine ⟨?_, h.far e⟩
  simp [Act.put, hs]
/-- A list's rows all stand in another one. -/
def subK (l : List (Nat × Value)) : List (Nat × Value) → Prop
  | [] => True
  | p :: r => atK p.1 l = some p.2 ∧ subK l r
theorem Kn.sub {A : Act} {l : List (Nat × Value)} (h : Kn A l) : ∀ {r : List (Nat × Value)}, subK l r → Kn A r
  | [], _ => trivial
  | p :: r, e => ⟨h.get p.1 e.1, h.sub e.2⟩
section
variable {P : Program} {ops : Array Oper} {Q : Exit → Act → World → Prop} {md : Region.Mode} {S : World → Prop} {fuel : Nat} {listed : Array Bool} {a : Act} {w : World}
theorem wpAnyH_named (h : ∀ A, A = a → wpAnyH P md ops Q S fuel listed A w) : wpAnyH P md ops Q S fuel listed a w := h a rfl
theorem wpAnyH_act (T : Act → Prop) (hT : T a) (h : ∀ A, T A → wpAnyH P md ops Q S fuel listed A w) : wpAnyH P md ops Q S fuel listed a w := h a hT
/-- Behind an operation: the frame is a letter again. -/
theorem wpAnyH_put {A0 A : Act} {ds : List Nat} {n : Nat} {l : List (Nat × Value)} {d : Nat} {v : Value} (hO : Off A0 A ds) (hn : A0.tmps.size = n) (hN : Kn A l) (hd : ds.contains d = true) (hs : Nat.blt d n = true) (hl : offK d l = true)
    (h : ∀ A, Off A0 A ds → Kn A ((d, v) :: l) → wpAnyH P md ops Q S fuel listed A w) : wpAnyH P md ops Q S fuel listed (A.put (some d) v) w :=
  h _ (hO.put d v hd) (hN.put hl (by rw [hO.size, hn]; have := hs; simp [Nat.blt] at this; omega))
/-- The same, the slot's value not told. -/
theorem wpAnyH_lose {A0 A : Act} {ds : List Nat} {l : List (Nat × Value)} {d : Nat} {v : Value} (hO : Off A0 A ds) (hN : Kn A l) (hd : ds.contains d = true) (hl : offK d l = true)
    (h : ∀ A, Off A0 A ds → Kn A l → wpAnyH P md ops Q S fuel listed A w) : wpAnyH P md ops Q S fuel listed (A.put (some d) v) w :=
  h _ (hO.put d v hd) (hN.far hl)
end
/-- Several ways through a drawn region meet, their frames too. -/
theorem join3 {P : Nat → Act → World → Prop} {G : Prop} (T : Nat → Act → World → Prop) (main : (∀ q A W, T q A W → P q A W) → G) (kp : ∀ q A W, T q A W → P q A W) : G := main kp
end Go.Proofs.YtapbkomicihkkaaDoor
