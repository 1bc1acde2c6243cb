/- A drawn region whose last store writes what it has loaded, walked over the few slots that it knows: what is held of the world lapses with that store. -/
import Derived.Test.YtnekcijganhknaaGreatDoorOwn
import Derived.Deep.RegionHeld3
import Derived.Deep.RegionWith
import Derived.Deep.RegionHeld
import Derived.Test.YtnekcijganhknaaGreatDoorRw
import Derived.Deep.DeepCutAuto
import Derived.Deep.CutBlock
namespace Go.Proofs.YtnekcijganhknaaGreatDoor
open Go.RowKit
set_option linter.unusedVariables false
set_option linter.unusedSimpArgs false

def wsets (w : World) (r : Nat) (l : List (Nat × Value)) : World := l.foldl (fun w p => w.setCell ⟨r, p.1, none⟩ p.2) w
theorem gb_sets (r : Nat) : ∀ (l : List (Nat × Value)) (w : World), w.grownBy (wsets w r l) (some r)
  | [], w => gb_refl w _
  | p :: l, w => gb_trans (gb_set p.1 p.2) (gb_sets r l _)
theorem wsets_size (r : Nat) : ∀ (l : List (Nat × Value)) (w : World), (wsets w r l).heap.size = w.heap.size
  | [], w => rfl
  | p :: l, w => (wsets_size r l _).trans (by simp [World.setCell])
theorem Blk.sets {r : Nat} {t : TypeId} : ∀ (l : List (Nat × Value)) {w : World} {cs : Array Value}, Blk w r cs t → Blk (wsets w r l) r (l.foldl (fun c p => c.setIfInBounds p.1 p.2) cs) t
  | [], w, cs, h => h
  | p :: l, w, cs, h => Blk.sets l (h.set p.1 p.2)
theorem Blk.sets_far {r g : Nat} {t : TypeId} {cs : Array Value} {w : World} (l : List (Nat × Value)) (h : Blk w g cs t) (hne : g ≠ r) : Blk (wsets w r l) g cs t := h.grown (gb_sets r l w) (fun e => hne (by injection e with e; exact e.symm))
theorem bl_sets {w W : World} (h : Below w.heap.size w W) (r : Nat) (hr : w.heap.size ≤ r) (l : List (Nat × Value)) : Below w.heap.size w (wsets W r l) := bl_grown h (gb_sets r l W) hr
theorem bl_grownB {B : Nat} {w W w' : World} {g : Nat} (h : Below B w W) (k : W.grownBy w' (some g)) (hg : B ≤ g) (hs : B ≤ W.heap.size) : Below B w w' :=
  h.grown k hs (fun j hj => by cases hj; exact hg)
theorem Blk.alloc {w : World} {g : Nat} {cs : Array Value} {t : TypeId} (h : Blk w g cs t) (o : Obj) : Blk (w.alloc o) g cs t := h.below (bl_alloc (bl_refl w) o)
theorem Blk.setE {w : World} {g j : Nat} {cs cs' : Array Value} {t : TypeId} {v : Value} (h : Blk w g cs t) (e : cs.setIfInBounds j v = cs') : Blk (w.setCell ⟨g, j, none⟩ v) g cs' t := e ▸ h.set j v
theorem bl_setJ {w W : World} {g j : Nat} {v : Value} (h : Below w.heap.size w W) (hg : w.heap.size ≤ g) : Below w.heap.size w (W.setCell ⟨g, j, none⟩ v) := bl_grown h (gb_set j v) hg
/-- A world in the midst of a drawn region, known by what stands in it alone. -/
theorem wpAnyH_world {P : Program} {ops : Array Oper} {Q : Exit → Act → World → Prop} {md : Region.Mode} {S : World → Prop} {fuel : Nat} {listed : Array Bool} {a : Act} {w : World} (T : World → Prop) (hT : T w) (h : ∀ w, T w → wpAnyH P md ops Q S fuel listed a w) : wpAnyH P md ops Q S fuel listed a w := h w hT
/-- Several ways through a drawn region meet: what is left is shown once. -/
theorem join2 {P : Nat → World → Prop} {G : Prop} (T : Nat → World → Prop) (main : (∀ q W, T q W → P q W) → G) (kp : ∀ q W, T q W → P q W) : G := main kp
end Go.Proofs.YtnekcijganhknaaGreatDoor
namespace Go.Proofs.YtnekcijganhknaaGreatDoor
open Go.RowKit
set_option linter.unusedVariables false
set_option linter.unusedSimpArgs false

theorem Act.put_no (a : Act) (v : Value) : a.put none v = a := rfl
/-- A frame that parts from another in some slots alone. -/
structure Off (A0 A : Act) (ds : List Nat) : Prop where
  size : A.tmps.size = A0.tmps.size
  defers : A.defers = A0.defers
  same : ∀ k : Nat, k ∉ ds → A.tmps[k]? = A0.tmps[k]?
theorem Off.refl (A : Act) (ds : List Nat) : Off A A ds := ⟨rfl, rfl, fun _ _ => rfl⟩
theorem Off.put {A0 A : Act} {ds : List Nat} (h : Off A0 A ds) (d : Nat) (v : Value) (hd : ds.contains d = true) : Off A0 (A.put (some d) v) ds := by
  refine ⟨?_, h.defers, fun k hk => ?_⟩
  · rw [← h.size]; simp [Act.put]
  · have hne : d ≠ k := fun e => hk (e ▸ (by simpa using hd))
    rw [← h.same k hk]
    simp [Act.put, Array.getElem?_setIfInBounds_ne hne]
/-- What the slots of a list hold is put back into the frame. -/
def putBack (A : Act) : List Nat → Array Value → Array Value
  | [], t => t
  | d :: ds, t => putBack A ds (t.setIfInBounds d (A.tmps[d]?.getD undef))
theorem putBack_size (A : Act) : ∀ (ds : List Nat) (t : Array Value), (putBack A ds t).size = t.size
  | [], _ => rfl
  | d :: ds, t => (putBack_size A ds _).trans (by simp)
theorem putBack_get (A : Act) (k : Nat) : ∀ (ds : List Nat) (t : Array Value), A.tmps.size = t.size → (k ∉ ds → A.tmps[k]? = t[k]?) → (putBack A ds t)[k]? = A.tmps[k]?
  | [], t, _, h => (h (by simp)).symm
  | d :: ds, t, hs, h => by
    refine putBack_get A k ds _ (by simpa using hs) (fun hk => ?_)
    by_cases e : d = k
    · subst e
      rcases Nat.lt_or_ge d t.size with hl | hl
      · rw [Array.getElem?_setIfInBounds_self_of_lt hl, Array.getElem?_eq_getElem (by omega)]; rfl
      · rw [Array.getElem?_eq_none (by omega), Array.getElem?_eq_none (by simpa using hl)]
    · rw [Array.getElem?_setIfInBounds_ne e]
      exact h (by simp only [List.mem_cons, not_or]; exact ⟨fun e' => e e'.symm, hk⟩)
theorem Off.eq {A0 A : Act} {ds : List Nat} (h : Off A0 A ds) : A = { tmps := putBack A ds A0.tmps, defers := A0.defers } := by
  have hs := h.size
  have ht : A.tmps = putBack A ds A0.tmps := by
    refine Array.ext_getElem? fun k => ?_
    exact (putBack_get A k ds A0.tmps hs (h.same k)).symm
  have hd := h.defers
  cases A
  simp only at ht hd ⊢
  rw [← ht, hd]
/-- A list's slots are put into a frame. -/
def putF (f : Nat → Value) : List Nat → Array Value → Array Value
  | [], t => t
  | d :: ds, t => putF f ds (t.setIfInBounds d (f d))
theorem putF_eq (A : Act) : ∀ (ds : List Nat) (t : Array Value), putBack A ds t = putF (fun d => A.tmps[d]?.getD undef) ds t
  | [], _ => rfl
  | d :: ds, t => putF_eq A ds _
theorem Off.ex {A0 A : Act} {ds : List Nat} (h : Off A0 A ds) : ∃ f : Nat → Value, A = { tmps := putF f ds A0.tmps, defers := A0.defers } :=
  ⟨fun d => A.tmps[d]?.getD undef, by rw [← putF_eq]; exact h.eq⟩
def putL (f : Nat → Value) : List Nat → List Value → List Value
  | [], t => t
  | d :: ds, t => putL f ds (t.set d (f d))
theorem putF_list (f : Nat → Value) : ∀ (ds : List Nat) (l : List Value), putF f ds l.toArray = (putL f ds l).toArray
  | [], _ => rfl
  | d :: ds, l => by
    show putF f ds (l.toArray.setIfInBounds d (f d)) = (putL f ds (l.set d (f d))).toArray
    rw [List.setIfInBounds_toArray]
    exact putF_list f ds _
theorem Off.lit {A0 A : Act} {ds : List Nat} (h : Off A0 A ds) {l : List Value} {df : List Deferred} (h0 : A0 = { tmps := l.toArray, defers := df }) : ∃ f : Nat → Value, A = { tmps := (putL f ds l).toArray, defers := df } := by
  obtain ⟨f, hf⟩ := h.ex
  subst h0
  exact ⟨f, by rw [hf, ← putF_list]⟩
/-- What is known of a frame's slots. -/
def Kn (A : Act) : List (Nat × Value) → Prop
  | [] => True
  | p :: l => A.tmps[p.1]?.getD undef = p.2 ∧ Kn A l
/-- A slot's value in a list. -/
def atK (k : Nat) : List (Nat × Value) → Option Value
  | [] => none
  | p :: l => bif Nat.beq k p.1 then some p.2 else atK k l
theorem Kn.get {A : Act} (k : Nat) {v : Value} : ∀ {l : List (Nat × Value)}, Kn A l → atK k l = some v → A.tmps[k]?.getD undef = v
  | [], _, e => by cases e
  | p :: l, h, e => by
    unfold atK at e
    cases hk : (Nat.beq k p.1) with
    | true => rw [hk] at e; cases e; rw [(Nat.eq_of_beq_eq_true hk : k = p.1)]; exact h.1
    | false => rw [hk] at e; exact Kn.get k h.2 e
/-- No row of the list speaks of the slot. -/
def offK (k : Nat) : List (Nat × Value) → Bool
  | [] => true
  | p :: l => bif Nat.beq k p.1 then false else offK k l
theorem Kn.far {A : Act} {d : Nat} {v : Value} : ∀ {l : List (Nat × Value)}, Kn A l → offK d l = true → Kn (A.put (some d) v) l
  | [], _, _ => trivial
  | p :: l, h, e => by
    unfold offK at e
    cases hk : (Nat.beq d p.1) with
    | true => rw [hk] at e; cases e
    | false =>
      rw [hk] at e
      refine ⟨?_, h.2.far e⟩
      rw [← h.1]
      have hne : d ≠ p.1 := Nat.ne_of_beq_eq_false hk
      simp [Act.put, Array.getElem?_setIfInBounds_ne hne]
theorem Kn.put {A : Act} {d : Nat} {v : Value} {l : List (Nat × Value)} (h : Kn A l) (e : offK d l = true) (hs : d < A.tmps.size) : Kn (A.put (some d) v) ((d, v) :: l) := by
  refine ⟨?_, h.far e⟩
  simp [Act.put, hs]
/-- A list's rows all stand in another one. -/
def subK (l : List (Nat × Value)) : List (Nat × Value) → Prop
  | [] => True
  | p :: r => atK p.1 l = some p.2 ∧ subK l r
theorem Kn.sub {A : Act} {l : List (Nat × Value)} (h : Kn A l) : ∀ {r : List (Nat × Value)}, subK l r → Kn A r
  | [], _ => trivial
  | p :: r, e => ⟨h.get p.1 e.1, h.sub e.2⟩
section
variable {P : Program} {ops : Array Oper} {Q : Exit → Act → World → Prop} {md : Region.Mode} {S : World → Prop} {fuel : Nat} {listed : Array Bool} {a : Act} {w : World}
theorem wpAnyH_named (h : ∀ A, A = a → wpAnyH P md ops Q S fuel listed A w) : wpAnyH P md ops Q S fuel listed a w := h a rfl
theorem wpAnyH_act (T : Act → Prop) (hT : T a) (h : ∀ A, T A → wpAnyH P md ops Q S fuel listed A w) : wpAnyH P md ops Q S fuel listed a w := h a hT
/-- Behind an operation: the frame is a letter again. -/
theorem wpAnyH_put {A0 A : Act} {ds : List Nat} {n : Nat} {l : List (Nat × Value)} {d : Nat} {v : Value} (hO : Off A0 A ds) (hn : A0.tmps.size = n) (hN : Kn A l) (hd : ds.contains d = true) (hs : Nat.blt d n = true) (hl : offK d l = true)
    (h : ∀ A, Off A0 A ds → Kn A ((d, v) :: l) → wpAnyH P md ops Q S fuel listed A w) : wpAnyH P md ops Q S fuel listed (A.put (some d) v) w :=
  h _ (hO.put d v hd) (hN.put hl (by rw [hO.size, hn]; have := hs; simp [Nat.blt] at this; omega))
/-- The same, the slot's value not told. -/
theorem wpAnyH_lose {A0 A : Act} {ds : List Nat} {l : List (Nat × Value)} {d : Nat} {v : Value} (hO : Off A0 A ds) (hN : Kn A l) (hd : ds.contains d = true) (hl : offK d l = true)
    (h : ∀ A, Off A0 A ds → Kn A l → wpAnyH P md ops Q S fuel listed A w) : wpAnyH P md ops Q S fuel listed (A.put (some d) v) w :=
  h _ (hO.put d v hd) (hN.far hl)
end
/-- Several ways through a drawn region meet, their frames too. -/
theorem join3 {P : Nat → Act → World → Prop} {G : Prop} (T : Nat → Act → World → Prop) (main : (∀ q A W, T q A W → P q A W) → G) (kp : ∀ q A W, T q A W → P q A W) : G := main kp
end Go.Proofs.YtnekcijganhknaaGreatDoor
namespace Go.Proofs.YtnekcijganhknaaGreatDoor
open Go.RowKit
set_option linter.unusedVariables false
set_option linter.unusedSimpArgs false

/-- Whether an operation is wanted, as far as the known slots tell. -/
def wantK (ops : Array Oper) (gd : Option (Nat × Bool)) (l : List (Nat × Value)) : Option Bool :=
  match gd with
  | none => some true
  | some (j, b) => match (ops[j]?).bind (·.dst) with
    | some d => match atK d l with
      | some (.bool c) => some (c == b)
      | _ => none
    | none => none
theorem yielded_at {ops : Array Oper} {A : Act} {l : List (Nat × Value)} {j d : Nat} {b : Bool} (hN : Kn A l) (hd : (ops[j]?).bind (·.dst) = some d) (hl : atK d l = some (.bool b)) : yielded ops A.tmps j = some b := by
  have h := hN.get d hl
  unfold yielded
  rw [hd]
  cases e : A.tmps[d]? with
  | none => rw [e] at h; cases h
  | some v =>
    rw [e] at h
    obtain rfl : v = .bool b := h
    simp [e]
theorem wantK_spec {ops : Array Oper} {o : Oper} {A : Act} {l : List (Nat × Value)} {t : Bool} (hN : Kn A l) (h : wantK ops o.guard l = some t) : Region.wanted o (yielded ops A.tmps) = t := by
  unfold wantK at h
  unfold Region.wanted
  split at h
  · rename_i e; rw [e]; injection h
  · rename_i j b e
    rw [e]
    dsimp only
    split at h
    · rename_i d hd
      split at h
      · rename_i c hc
        rw [yielded_at hN hd hc]
        exact Option.some.inj h
      · cases h
    · cases h
/-- The rows of some slots. -/
def selK : List Nat → List (Nat × Value) → Option (List (Nat × Value))
  | [], _ => some []
  | k :: ks, l => match atK k l, selK ks l with
    | some v, some r => some ((k, v) :: r)
    | _, _ => none
theorem Kn.sel {A : Act} {l : List (Nat × Value)} (hN : Kn A l) : ∀ {ks : List Nat} {us : List (Nat × Value)}, selK ks l = some us → Kn A us
  | [], us, h => by unfold selK at h; injection h with h; subst h; trivial
  | k :: ks, us, h => by
    unfold selK at h
    split at h
    · rename_i v r h1 h2
      injection h with h
      subst h
      exact ⟨hN.get k h1, hN.sel h2⟩
    · cases h
section
variable {P : Program} {ops : Array Oper} {Q : Exit → Act → World → Prop} {md : Region.Mode} {S : World → Prop} {fuel : Nat} {listed : Array Bool} {A0 : Act} {ds : List Nat} {n : Nat} {l us : List (Nat × Value)} {w w' : World} {d : Nat} {op : Op} {ty : TypeId} {pos : String} {aft : Array Edge} {gd : Option (Nat × Bool)} {v : Value}
/-- The state of the walk. -/
def SpH (P : Program) (ops : Array Oper) (Q : Exit → Act → World → Prop) (md : Region.Mode) (S : World → Prop) (fuel : Nat) (listed : Array Bool) (A0 : Act) (ds : List Nat) (n : Nat) (l : List (Nat × Value)) (w : World) : Prop :=
  A0.tmps.size = n → S w → ∀ A, Off A0 A ds → Kn A l → wpAnyH P md ops Q S fuel listed A w
/-- One operation of those that may come up. -/
def SpO (P : Program) (ops : Array Oper) (Q : Exit → Act → World → Prop) (md : Region.Mode) (S : World → Prop) (fuel : Nat) (listed : Array Bool) (A0 : Act) (ds : List Nat) (n : Nat) (l : List (Nat × Value)) (w : World) (i : Nat) : Prop :=
  A0.tmps.size = n → S w → ∀ A, Off A0 A ds → Kn A l → wpOp P ops Q i (fun a' w' => S w' ∧ wpAnyH P md ops Q S fuel (listed.setIfInBounds i true) a' w') A w
theorem sp_in (A0 : Act) (ds : List Nat) (n : Nat) (l : List (Nat × Value)) (hn : A0.tmps.size = n) (hS : S w) (hN : Kn A0 l) (h : SpH P ops Q md S fuel listed A0 ds n l w) : wpAnyH P md ops Q S fuel listed A0 w := h hn hS A0 (Off.refl _ _) hN
theorem sp_done (h : ∀ A, Off A0 A ds → Kn A l → S w → Q .normal A w) (hr : Region.ready md ops listed = [] := by kernel_rfl) : SpH P ops Q md S fuel listed A0 ds n l w := fun _ hS A hO hN => wpAnyH_done hr (h A hO hN hS) fuel
theorem sp_world (T : World → Prop) (hT : T w) (h : ∀ w, T w → SpH P ops Q md S fuel listed A0 ds n l w) : SpH P ops Q md S fuel listed A0 ds n l w := h w hT
/-- What is known may be known by fewer rows. -/
theorem sp_sub (l' : List (Nat × Value)) (h : SpH P ops Q md S fuel listed A0 ds n l' w) (e : subK l l' := by exact ⟨rfl, rfl⟩) : SpH P ops Q md S fuel listed A0 ds n l w := fun hn hS A hO hN => h hn hS A hO (hN.sub e)
theorem Off.putO {A0 A : Act} {ds : List Nat} {n : Nat} (hO : Off A0 A ds) (hn : A0.tmps.size = n) {l : List (Nat × Value)} (hN : Kn A l) {d : Nat} (v : Value) (h1 : ds.contains d = true) (h2 : Nat.blt d n = true) (h3 : offK d l = true) : Off A0 (A.put (some d) v) ds ∧ Kn (A.put (some d) v) ((d, v) :: l) :=
  ⟨hO.put d v h1, hN.put h3 (by rw [hO.size, hn]; simp [Nat.blt] at h2; omega)⟩
/-- An operation that reads alone is taken first. -/
theorem st (i : Nat) (ks : List Nat) (hi : ops[i]? = some ⟨some d, op, ty, pos, aft, gd⟩) (h : SpH P ops Q md S fuel (listed.setIfInBounds i true) A0 ds n ((d, v) :: l) w)
    (hk : selK ks l = some us := by rfl) (hw : wantK ops gd l = some true := by rfl)
    (hy : ∀ A w, S w → Kn A us → (execOp A.eval ⟨some d, op, ty, pos, aft, gd⟩).run P w = .ok (.value v) w := by intro A w hSw hK; (try dsimp only at hSw); (try dsimp only [Kn] at hK); go_split_ands; go_simp; try with_reducible rfl)
    (h1 : ds.contains d = true := by rfl) (h2 : Nat.blt d n = true := by rfl) (h3 : offK d l = true := by rfl)
    (hs : Region.noSelect ops = true := by kernel_rfl) (hf : Region.free md ops listed i = true := by kernel_rfl) (hr : (Region.ready md ops listed).contains i = true := by kernel_rfl)
    (hQ : ∀ c (a : Act) w, Q (.panic c) (a.put (some d) v) w → Q (.panic c) a w := by exact fun _ _ _ h => h) : SpH P ops Q md S (fuel + 1) listed A0 ds n l w := fun hn hS A hO hN => by
  obtain ⟨hO', hN'⟩ := hO.putO hn hN v h1 h2 h3
  exact wpAnyH_take hi hs hf hr hQ (Or.inl ⟨wantK_spec hN hw, fun w hSw => hy A w hSw (hN.sel hk)⟩) hS (h hn hS _ hO' hN')
/-- An operation that is not wanted. -/
theorem stn (i : Nat) (hi : ops[i]? = some ⟨some d, op, ty, pos, aft, gd⟩) (h : SpH P ops Q md S fuel (listed.setIfInBounds i true) A0 ds n ((d, undef) :: l) w)
    (hw : wantK ops gd l = some false := by rfl)
    (h1 : ds.contains d = true := by rfl) (h2 : Nat.blt d n = true := by rfl) (h3 : offK d l = true := by rfl)
    (hs : Region.noSelect ops = true := by kernel_rfl) (hf : Region.free md ops listed i = true := by kernel_rfl) (hr : (Region.ready md ops listed).contains i = true := by kernel_rfl)
    (hQ : ∀ c (a : Act) w, Q (.panic c) (a.put (some d) undef) w → Q (.panic c) a w := by exact fun _ _ _ h => h) : SpH P ops Q md S (fuel + 1) listed A0 ds n l w := fun hn hS A hO hN => by
  obtain ⟨hO', hN'⟩ := hO.putO hn hN undef h1 h2 h3
  exact wpAnyH_take hi hs hf hr hQ (Or.inr ⟨wantK_spec hN hw, rfl⟩) hS (h hn hS _ hO' hN')
/-- A row of cells is loaded. -/
theorem sl (i k : Nat) {tl : TypeId} (hi : ops[i]? = some ⟨some d, .load tl (.tmp k), ty, pos, aft, gd⟩) (b o : Nat) (cs : List Value) (dd : TypeDesc) (hS' : ∀ w, S w → w.rangeAt b o cs)
    (hu : P.underlying tl = some dd) (hi2 : (P.info? tl).map (·.size) = some cs.length) (h : SpH P ops Q md S fuel (listed.setIfInBounds i true) A0 ds n ((d, .agg cs.toArray) :: l) w)
    (hd : dd.isRow = true := by rfl) (hk : atK k l = some (.pointer (some ⟨b, o, none⟩)) := by rfl) (hw : wantK ops gd l = some true := by rfl)
    (h1 : ds.contains d = true := by rfl) (h2 : Nat.blt d n = true := by rfl) (h3 : offK d l = true := by rfl)
    (hs : Region.noSelect ops = true := by kernel_rfl) (hf : Region.free md ops listed i = true := by kernel_rfl) (hr : (Region.ready md ops listed).contains i = true := by kernel_rfl)
    (hQ : ∀ c (a : Act) w, Q (.panic c) (a.put (some d) (.agg cs.toArray)) w → Q (.panic c) a w := by exact fun _ _ _ h => h) : SpH P ops Q md S (fuel + 1) listed A0 ds n l w := fun hn hS A hO hN => by
  obtain ⟨hO', hN'⟩ := hO.putO hn hN (.agg cs.toArray) h1 h2 h3
  have he : A.eval (.tmp k) = .pointer (some ⟨b, o, none⟩) := by
    have := hN.get k hk
    show A.tmps.getD k undef = _
    simpa using this
  exact wpAnyH_take hi hs hf hr hQ (yieldsIf_load_mid (wantK_spec hN hw) tl (.tmp k) rfl b o he cs dd hS' hu hd hi2) hS (h hn hS _ hO' hN')
/-- One operation alone may come up. -/
theorem sr (i : Nat) (h : SpO P ops Q md S fuel listed A0 ds n l w i) (hr : Region.ready md ops listed = [i] := by kernel_rfl) : SpH P ops Q md S (fuel + 1) listed A0 ds n l w := fun hn hS A hO hN =>
  wpAnyH_ready hr (by simp) (fun j hj => by
    obtain rfl : j = i := by simpa using hj
    exact h hn hS A hO hN)
/-- Two may come up. -/
theorem sr2 (i j : Nat) (hi : SpO P ops Q md S fuel listed A0 ds n l w i) (hj : SpO P ops Q md S fuel listed A0 ds n l w j) (hr : Region.ready md ops listed = [i, j] := by kernel_rfl) : SpH P ops Q md S (fuel + 1) listed A0 ds n l w := fun hn hS A hO hN =>
  wpAnyH_ready hr (by simp) (fun k hk => by
    rcases List.mem_cons.1 hk with rfl | hk
    · exact hi hn hS A hO hN
    · obtain rfl : k = j := by simpa using hk
      exact hj hn hS A hO hN)
/-- What an operation does, as its own law tells it. -/
theorem so (i : Nat) (hi : ops[i]? = some ⟨some d, op, ty, pos, aft, gd⟩) (hw : wantK ops gd l = some true)
    (h : ∀ A, Kn A l → S w → ∀ K : Act → World → Prop, (∀ v w', S w' → SpH P ops Q md S fuel (listed.setIfInBounds i true) A0 ds n ((d, v) :: l) w' → K (A.put (some d) v) w') → Oper.wp P ⟨some d, op, ty, pos, aft, gd⟩ A w K Q)
    (h1 : ds.contains d = true := by rfl) (h2 : Nat.blt d n = true := by rfl) (h3 : offK d l = true := by rfl) : SpO P ops Q md S fuel listed A0 ds n l w i := fun hn hS A hO hN => by
  refine wpOp_step hi (fun K hK => ?_)
  rw [if_pos (wantK_spec hN hw)]
  refine h A hN hS K (fun v w' hS' h' => hK _ _ ⟨hS', ?_⟩)
  obtain ⟨hO', hN'⟩ := hO.putO hn hN v h1 h2 h3
  exact h' hn hS' _ hO' hN'
/-- A call, by its contract. -/
theorem sc (i : Nat) (ks : List Nat) {f : FuncId} {vs : Array Value} {R : Ending → World → Prop} (hi : ops[i]? = some ⟨some d, op, ty, pos, aft, gd⟩) (hc : Calls P f vs w R)
    (h : ∀ e w', R e w' → ∃ v, e = .returned v ∧ S w' ∧ SpH P ops Q md S fuel (listed.setIfInBounds i true) A0 ds n ((d, v) :: l) w')
    (hk : selK ks l = some us := by rfl) (hw : wantK ops gd l = some true := by rfl)
    (hx : ∀ A, Kn A us → (execOp A.eval ⟨some d, op, ty, pos, aft, gd⟩).run P w = .ok (.enter f vs) w := by intro A hK; (try dsimp only [Kn] at hK); go_split_ands; go_simp; try with_reducible rfl)
    (h1 : ds.contains d = true := by rfl) (h2 : Nat.blt d n = true := by rfl) (h3 : offK d l = true := by rfl) : SpO P ops Q md S fuel listed A0 ds n l w i := so i hi hw (fun A hN hS K hK => by
  unfold Oper.wp
  rw [hx A (hN.sel hk), Oper.upon_enter]
  refine hc.mono ?_
  intro e w' hR
  obtain ⟨v, rfl, hS', h'⟩ := h e w' hR
  exact hK v w' hS' h') h1 h2 h3
/-- An operation that changes the world, or may not be taken first: its result is told. -/
theorem sx (i : Nat) (ks : List Nat) (hi : ops[i]? = some ⟨some d, op, ty, pos, aft, gd⟩) (hS' : S w') (h : SpH P ops Q md S fuel (listed.setIfInBounds i true) A0 ds n ((d, v) :: l) w')
    (hk : selK ks l = some us := by rfl) (hw : wantK ops gd l = some true := by rfl)
    (hx : ∀ A, Kn A us → (execOp A.eval ⟨some d, op, ty, pos, aft, gd⟩).run P w = .ok (.value v) w' := by intro A hK; (try dsimp only [Kn] at hK); go_split_ands; go_simp; try first | with_reducible rfl | (refine And.intro ?_ ?_ <;> with_reducible rfl))
    (h1 : ds.contains d = true := by rfl) (h2 : Nat.blt d n = true := by rfl) (h3 : offK d l = true := by rfl) : SpO P ops Q md S fuel listed A0 ds n l w i := so i hi hw (fun A hN hS K hK => by
  unfold Oper.wp
  rw [hx A (hN.sel hk), Oper.upon_value]
  exact hK v w' hS' h) h1 h2 h3
/-- The same without a slot: a store. -/
theorem sw (i : Nat) (ks : List Nat) (hi : ops[i]? = some ⟨none, op, ty, pos, aft, gd⟩) (hS' : S w') (h : SpH P ops Q md S fuel (listed.setIfInBounds i true) A0 ds n l w')
    (hk : selK ks l = some us := by rfl) (hw : wantK ops gd l = some true := by rfl)
    (hx : ∀ A, Kn A us → (execOp A.eval ⟨none, op, ty, pos, aft, gd⟩).run P w = .ok .skip w' := by intro A hK; (try dsimp only [Kn] at hK); go_split_ands; go_simp; try first | with_reducible rfl | (refine And.intro ?_ ?_ <;> with_reducible rfl)) : SpO P ops Q md S fuel listed A0 ds n l w i := fun hn hS A hO hN => by
  refine wpOp_step hi (fun K hK => ?_)
  rw [if_pos (wantK_spec hN hw)]
  unfold Oper.wp
  rw [hx A (hN.sel hk), Oper.upon_skip]
  exact hK _ _ ⟨hS', h hn hS' A hO hN⟩
end
end Go.Proofs.YtnekcijganhknaaGreatDoor
namespace Go.Proofs.YtnekcijganhknaaGreatDoor
open Go.RowKit
set_option linter.unusedVariables false
set_option linter.unusedSimpArgs false

section
variable {P : Program} {ops : Array Oper} {Q : Exit → Act → World → Prop} {md : Region.Mode} {S : Array Bool → World → Prop}
/-- Whatever order is picked from here on; behind each operation S holds of those that have come up, and of the world. -/
def wpAnyG (P : Program) (md : Region.Mode) (ops : Array Oper) (Q : Exit → Act → World → Prop) (S : Array Bool → World → Prop) : Nat → Array Bool → Act → World → Prop
  | 0, l, a, w => Region.ready md ops l = [] ∧ Q .normal a w
  | n + 1, l, a, w => (Region.ready md ops l = [] → Q .normal a w) ∧
    ∀ i ∈ Region.ready md ops l, wpOp P ops Q i (fun a' w' => S (l.setIfInBounds i true) w' ∧ wpAnyG P md ops Q S n (l.setIfInBounds i true) a' w') a w
theorem wpAny_of_gated : ∀ (n : Nat) (l : Array Bool) (a : Act) (w : World), wpAnyG P md ops Q S n l a w → wpAny P md ops Q n l a w
  | 0, _, _, _, h => h
  | n + 1, _, _, _, h => ⟨h.1, fun i hi => wpOp_mono (fun a' w' k => wpAny_of_gated n _ a' w' k.2) (h.2 i hi)⟩
theorem wpAnyG_first {i : Nat} {oi : Oper} {v : Value} {S0 : World → Prop} {R : Array Bool → Prop} (hi : ops[i]? = some oi) (hsel : ∀ (j : Nat) (o : Oper) cs b, ops[j]? = some o → o.op ≠ .select cs b)
    (hQ : ∀ c a w, Q (.panic c) (a.put oi.dst v) w → Q (.panic c) a w)
    (hS0 : ∀ (l : Array Bool) w, R l → S (l.setIfInBounds i true) w → S0 w) (hSi : ∀ (l : Array Bool) w, S (l.setIfInBounds i true) w → S l w)
    (hRs : ∀ l j, i ∈ Region.ready md ops l → j ∈ Region.ready md ops l → j ≠ i → R l → R (l.setIfInBounds j true)) :
    ∀ (n : Nat) (l : Array Bool) (a : Act) (w : World),
      (∀ j oj, ops[j]? = some oj → j ≠ i → l.getD j true = false → (∀ e ∈ oj.after, Region.binds md e = true → e.on ≠ i) → oi.apart ops oj = true) →
      i ∈ Region.ready md ops l → R l → YieldsIf P ops S0 oi v a → S (l.setIfInBounds i true) w →
      wpAnyG P md ops Q S n (l.setIfInBounds i true) (a.put oi.dst v) w → wpAnyG P md ops Q S (n + 1) l a w := by
  intro n
  induction n with
  | zero =>
    intro l a w _ hr hR hy hS H
    refine ⟨fun h => (by rw [h] at hr; cases hr), fun j hj => ?_⟩
    by_cases hji : j = i
    · subst hji; exact hy.wpOp hi (hS0 l w hR hS) ⟨hS, H⟩
    · have := ready_mono hj hji
      rw [H.1] at this
      cases this
  | succ n ih =>
    intro l a w hfree hr hR hy hS H
    refine ⟨fun h => (by rw [h] at hr; cases hr), fun j hj => ?_⟩
    by_cases hji : j = i
    · subst hji; exact hy.wpOp hi (hS0 l w hR hS) ⟨hS, H⟩
    · have h1 := H.2 j (ready_mono hj hji)
      obtain ⟨hjun, oj, hoj, hall⟩ := mem_ready.1 hj
      have hnot : ∀ e ∈ oj.after, Region.binds md e = true → e.on ≠ i := fun e he hb heq => by
        have k1 := hall e he hb
        have k0 := (mem_ready.1 hr).1
        rw [heq] at k1
        rcases Nat.lt_or_ge i l.size with h' | h'
        · simp [h'] at k0 k1; rw [k0] at k1; cases k1
        · simp [Array.getElem?_eq_none h'] at k1
      have h2 := wpOp_putIf hoj (hfree j oj hoj hji hjun hnot) (fun cs b => hsel i oi cs b hi) (fun cs b => hsel j oj cs b hoj) hQ hy h1
      have hfree' : ∀ k ok, ops[k]? = some ok → k ≠ i → (l.setIfInBounds j true).getD k true = false →
          (∀ e ∈ ok.after, Region.binds md e = true → e.on ≠ i) → oi.apart ops ok = true := fun k ok hk hki hun hno => by
        refine hfree k ok hk hki ?_ hno
        by_cases hjk : j = k
        · subst hjk; exact hjun
        · rw [getD_set_ne true hjk] at hun; exact hun
      refine wpOp_mono (fun a' w' h3 => ?_) h2
      have hS' : S ((l.setIfInBounds j true).setIfInBounds i true) w' := by rw [Array.setIfInBounds_comm _ _ hji]; exact h3.2.1
      refine ⟨hSi _ _ hS', ih (l.setIfInBounds j true) a' w' hfree' (ready_mono hr (Ne.symm hji)) (hRs l j hr hj hji hR) h3.1 hS' ?_⟩
      rw [Array.setIfInBounds_comm _ _ hji]
      exact h3.2.2
/-- Number k waits for number i. -/
def waitsB (md : Region.Mode) (ops : Array Oper) (i k : Nat) : Bool :=
  match ops[k]? with
  | some o => o.after.any (fun e => Region.binds md e && e.on == i)
  | none => false
theorem waits_ready {i k : Nat} (h : waitsB md ops i k = true) {l : Array Bool} (hi : i ∈ Region.ready md ops l) : k ∉ Region.ready md ops l := by
  intro hk
  obtain ⟨_, ok, hok, hall⟩ := mem_ready.1 hk
  unfold waitsB at h
  rw [hok] at h
  simp only [Array.any_eq_true', Bool.and_eq_true, beq_iff_eq] at h
  obtain ⟨e, he, hb, heq⟩ := h
  have k1 := hall e he hb
  have k0 := (mem_ready.1 hi).1
  rw [heq] at k1
  rcases Nat.lt_or_ge i l.size with h' | h'
  · simp [h'] at k0 k1; rw [k0] at k1; cases k1
  · simp [Array.getElem?_eq_none h'] at k1
/-- A load is taken first; what it reads is held until number k, which waits for it, comes up. -/
theorem wpAnyG_load {i k : Nat} {oi : Oper} {v : Value} {S0 : World → Prop} {n : Nat} {l : Array Bool} {a : Act} {w : World} (hi : ops[i]? = some oi)
    (hs : Region.noSelect ops = true) (hf : Region.free md ops l i = true) (hr : (Region.ready md ops l).contains i = true) (hQ : ∀ c a w, Q (.panic c) (a.put oi.dst v) w → Q (.panic c) a w)
    (hw : waitsB md ops i k = true) (hk : l.getD k true = false) (hki : i ≠ k)
    (hS0 : ∀ (l : Array Bool) w, (l.setIfInBounds i true).getD k true = false → S (l.setIfInBounds i true) w → S0 w) (hSi : ∀ (l : Array Bool) w, S (l.setIfInBounds i true) w → S l w)
    (hy : YieldsIf P ops S0 oi v a) (hS : S (l.setIfInBounds i true) w) (h : wpAnyG P md ops Q S n (l.setIfInBounds i true) (a.put oi.dst v) w) : wpAnyG P md ops Q S (n + 1) l a w :=
  wpAnyG_first (R := fun l => l.getD k true = false) hi (Region.noSelect_spec hs) hQ (fun l w hR hS => hS0 l w (by rw [getD_set_ne true hki]; exact hR) hS) hSi
    (fun l j hi hj hne hR => by
      have : j ≠ k := fun e => waits_ready hw hi (e ▸ hj)
      rw [getD_set_ne true this]; exact hR)
    n l a w (Region.free_spec hi hf) (by simpa using hr) hk hy hS h
/-- What yields in whatever world is taken first. -/
theorem wpAnyG_pure {i : Nat} {oi : Oper} {v : Value} {n : Nat} {l : Array Bool} {a : Act} {w : World} (hi : ops[i]? = some oi)
    (hs : Region.noSelect ops = true) (hf : Region.free md ops l i = true) (hr : (Region.ready md ops l).contains i = true) (hQ : ∀ c a w, Q (.panic c) (a.put oi.dst v) w → Q (.panic c) a w)
    (hSi : ∀ (l : Array Bool) w, S (l.setIfInBounds i true) w → S l w)
    (hy : YieldsIf P ops (fun _ => True) oi v a) (hS : S (l.setIfInBounds i true) w) (h : wpAnyG P md ops Q S n (l.setIfInBounds i true) (a.put oi.dst v) w) : wpAnyG P md ops Q S (n + 1) l a w :=
  wpAnyG_first (R := fun _ => True) hi (Region.noSelect_spec hs) hQ (fun _ _ _ _ => trivial) hSi (fun _ _ _ _ _ _ => trivial) n l a w (Region.free_spec hi hf) (by simpa using hr) trivial hy hS h
def AllReadyG (P : Program) (md : Region.Mode) (ops : Array Oper) (Q : Exit → Act → World → Prop) (S : Array Bool → World → Prop) (n : Nat) (l : Array Bool) (a : Act) (w : World) (rs : List Nat) : Prop :=
  ∀ i ∈ rs, wpOp P ops Q i (fun a' w' => S (l.setIfInBounds i true) w' ∧ wpAnyG P md ops Q S n (l.setIfInBounds i true) a' w') a w
theorem AllReadyG.nil {n : Nat} {l : Array Bool} {a : Act} {w : World} : AllReadyG P md ops Q S n l a w [] := fun _ h => by cases h
theorem AllReadyG.cons {n : Nat} {l : Array Bool} {a : Act} {w : World} {i : Nat} {o : Oper} {rs : List Nat} (ho : ops[i]? = some o)
    (h : ∀ K : Act → World → Prop, Shut (∀ a w, S (l.setIfInBounds i true) w → wpAnyG P md ops Q S n (l.setIfInBounds i true) a w → K a w) → if Region.wanted o (yielded ops a.tmps) = true then Oper.wp P o a w K Q else K (a.put o.dst undef) w)
    (hs : AllReadyG P md ops Q S n l a w rs) : AllReadyG P md ops Q S n l a w (i :: rs) := fun j hj => by
  rcases List.mem_cons.1 hj with rfl | hj
  · exact wpOp_step ho (fun K hK => h K (fun a w hS hW => hK a w ⟨hS, hW⟩))
  · exact hs j hj
theorem wpAnyG_ready {rs : List Nat} {n : Nat} {l : Array Bool} {a : Act} {w : World} (hr : Region.ready md ops l = rs) (hne : rs ≠ []) (h : AllReadyG P md ops Q S n l a w rs) : wpAnyG P md ops Q S (n + 1) l a w :=
  ⟨fun h0 => absurd (hr ▸ h0) hne, hr ▸ h⟩
theorem wpAnyG_done {l : Array Bool} {a : Act} {w : World} (hr : Region.ready md ops l = []) (h : Q .normal a w) : ∀ n, wpAnyG P md ops Q S n l a w
  | 0 => ⟨hr, h⟩
  | _ + 1 => ⟨fun _ => h, by rw [hr]; simp⟩
theorem wp_region_gated {id : Nat} {a : Act} {w : World} (hm : P.follows .mixedOrders = true) (h : wpAnyG P .any ops Q S ops.size (Array.replicate ops.size false) a w.drew) : (Code.region id ops true).wp P Q a w :=
  wp_region_any hm (wpAny_of_gated _ _ _ _ h)
theorem wpAnyG_world {n : Nat} {l : Array Bool} {a : Act} {w : World} (T : World → Prop) (hT : T w) (h : ∀ w, T w → wpAnyG P md ops Q S n l a w) : wpAnyG P md ops Q S n l a w := h w hT
theorem wpAnyG_named {n : Nat} {l : Array Bool} {a : Act} {w : World} (h : ∀ A, A = a → wpAnyG P md ops Q S n l A w) : wpAnyG P md ops Q S n l a w := h a rfl
theorem wpAnyG_put {A0 A : Act} {ds : List Nat} {n m : Nat} {k : List (Nat × Value)} {d : Nat} {v : Value} {l : Array Bool} {w : World} (hO : Off A0 A ds) (hn : A0.tmps.size = n) (hN : Kn A k) (hd : ds.contains d = true) (hs : Nat.blt d n = true) (hl : offK d k = true)
    (h : ∀ A, Off A0 A ds → Kn A ((d, v) :: k) → wpAnyG P md ops Q S m l A w) : wpAnyG P md ops Q S m l (A.put (some d) v) w :=
  h _ (hO.put d v hd) (hN.put hl (by rw [hO.size, hn]; have := hs; simp [Nat.blt] at this; omega))
end
/-- A new block; its place and its world are letters. -/
theorem gen_alloc {W : World} {cs : Array Value} {t : TypeId} {M : World → Nat → Prop} (h : ∀ W' b, Below W.heap.size W W' → Blk W' b cs t → W.heap.size ≤ b → M W' b) : M (W.alloc (.cells cs t)) W.heap.size :=
  h _ _ (bl_alloc (bl_refl W) _) (Blk.new W cs t) (Nat.le_refl _)
end Go.Proofs.YtnekcijganhknaaGreatDoor
namespace Go.Proofs.YtnekcijganhknaaGreatDoor
open Go.RowKit
set_option linter.unusedVariables false
set_option linter.unusedSimpArgs false

theorem wpAnyH_lst {P : Program} {ops : Array Oper} {Q : Exit → Act → World → Prop} {md : Region.Mode} {S : World → Prop} {fuel : Nat} {listed : Array Bool} {a : Act} {w : World} (l2 : Array Bool) (e : listed = l2) (h : wpAnyH P md ops Q S fuel l2 a w) : wpAnyH P md ops Q S fuel listed a w := e ▸ h
theorem yielded_kn {ops : Array Oper} {A : Act} {l : List (Nat × Value)} {j d : Nat} {b : Bool} (hN : Kn A l) (hd : (ops[j]?).bind (·.dst) = some d) (hl : atK d l = some (.bool b)) : yielded ops A.tmps j = some b := by
  have h := hN.get d hl
  unfold yielded
  rw [hd]
  cases e : A.tmps[d]? with
  | none => rw [e] at h; cases h
  | some v =>
    rw [e] at h
    obtain rfl : v = .bool b := h
    simp [e]
theorem wanted_yes {ops : Array Oper} {o : Oper} {A : Act} {l : List (Nat × Value)} {j d : Nat} {b : Bool} (hN : Kn A l) (hg : o.guard = some (j, b)) (hd : (ops[j]?).bind (·.dst) = some d) (hl : atK d l = some (.bool b)) : Region.wanted o (yielded ops A.tmps) = true := by
  unfold Region.wanted
  rw [hg]
  simp [yielded_kn hN hd hl]
theorem wanted_no {ops : Array Oper} {o : Oper} {A : Act} {l : List (Nat × Value)} {j d : Nat} {b : Bool} (hN : Kn A l) (hg : o.guard = some (j, b)) (hd : (ops[j]?).bind (·.dst) = some d) (hl : atK d l = some (.bool (!b))) : Region.wanted o (yielded ops A.tmps) = false := by
  unfold Region.wanted
  rw [hg]
  simp [yielded_kn hN hd hl]
end Go.Proofs.YtnekcijganhknaaGreatDoor
namespace Go.Proofs.YtnekcijganhknaaGreatDoor
open Go.RowKit
set_option linter.unusedVariables false
set_option linter.unusedSimpArgs false

/-- A row of cells is loaded, wherever it lies. -/
theorem slr {P : Program} {ops : Array Oper} {Q : Exit → Act → World → Prop} {md : Region.Mode} {S : World → Prop} {fuel : Nat} {listed : Array Bool} {A0 : Act} {ds : List Nat} {n : Nat} {l : List (Nat × Value)} {w : World} {d : Nat} {ty : TypeId} {pos : String} {aft : Array Edge} {gd : Option (Nat × Bool)} (i m : Nat) {tl : TypeId} (hi : ops[i]? = some ⟨some d, .load tl (.tmp m), ty, pos, aft, gd⟩) (ad : Addr) (cs : List Value) (dd : TypeDesc) (hS' : ∀ w, S w → Rd w (some ad) cs)
    (hu : P.underlying tl = some dd) (hi2 : (P.info? tl).map (·.size) = some cs.length) (h : SpH P ops Q md S fuel (listed.setIfInBounds i true) A0 ds n ((d, .agg cs.toArray) :: l) w)
    (hd : dd.isRow = true := by rfl) (hk : selK [m] l = some [(m, .pointer (some ad))] := by rfl) (hw : wantK ops gd l = some true := by rfl)
    (h1 : ds.contains d = true := by rfl) (h2 : Nat.blt d n = true := by rfl) (h3 : offK d l = true := by rfl)
    (hs : Region.noSelect ops = true := by kernel_rfl) (hf : Region.free md ops listed i = true := by kernel_rfl) (hr : (Region.ready md ops listed).contains i = true := by kernel_rfl)
    (hQ : ∀ c (a : Act) w, Q (.panic c) (a.put (some d) (.agg cs.toArray)) w → Q (.panic c) a w := by exact fun _ _ _ h => h) : SpH P ops Q md S (fuel + 1) listed A0 ds n l w :=
  st i [m] hi h hk hw (fun A w hSw hK => by
    have he : A.eval (.tmp m) = .pointer (some ad) := by
      have := hK.1
      show A.tmps.getD m undef = _
      simpa using this
    unfold execOp
    simp only [he, Instr.loadAt, Instr.sureAddr, Sem.run_bind, Sem.run_pure, Result.andThen_ok, run_loadVar_rd w ad tl cs dd (hS' w hSw) hu hd hi2]) h1 h2 h3 hs hf hr hQ
section
variable {P : Program} {ops : Array Oper} {Q : Exit → Act → World → Prop} {md : Region.Mode} {k : Nat} {C : World → Prop} {fuel : Nat} {listed : Array Bool} {A0 : Act} {ds : List Nat} {n : Nat} {l us : List (Nat × Value)} {w w' : World} {d : Nat} {op : Op} {ty : TypeId} {pos : String} {aft : Array Edge} {gd : Option (Nat × Bool)} {v : Value}
/-- The state of the walk: C holds till number k has come up. -/
def GtH (P : Program) (ops : Array Oper) (Q : Exit → Act → World → Prop) (md : Region.Mode) (k : Nat) (C : World → Prop) (fuel : Nat) (listed : Array Bool) (A0 : Act) (ds : List Nat) (n : Nat) (l : List (Nat × Value)) (w : World) : Prop :=
  A0.tmps.size = n → C w → ∀ A, Off A0 A ds → Kn A l → wpAnyG P md ops Q (fun b w => b.getD k true = true ∨ C w) fuel listed A w
/-- One operation of those that may come up. -/
def GtO (P : Program) (ops : Array Oper) (Q : Exit → Act → World → Prop) (md : Region.Mode) (k : Nat) (C : World → Prop) (fuel : Nat) (listed : Array Bool) (A0 : Act) (ds : List Nat) (n : Nat) (l : List (Nat × Value)) (w : World) (i : Nat) : Prop :=
  A0.tmps.size = n → C w → ∀ A, Off A0 A ds → Kn A l → wpOp P ops Q i (fun a' w' => ((listed.setIfInBounds i true).getD k true = true ∨ C w') ∧ wpAnyG P md ops Q (fun b w => b.getD k true = true ∨ C w) fuel (listed.setIfInBounds i true) a' w') A w
theorem gt_in {id : Nat} {A : Act} (k : Nat) (C : World → Prop) (ds : List Nat) (n : Nat) (l : List (Nat × Value)) (hm : P.follows .mixedOrders = true) (hC : C w.drew) (h : ∀ A0, A0 = A → A0.tmps.size = n ∧ Kn A0 l ∧ ∀ W, Below w.heap.size w W → C W → GtH P ops Q .any k C ops.size (Array.replicate ops.size false) A0 ds n l W) : (Code.region id ops true).wp P Q A w := by
  obtain ⟨hn, hN, h⟩ := h A rfl
  exact wp_region_gated hm (h _ (bl_drew (bl_refl w)) hC hn hC A (Off.refl _ _) hN)
theorem gt_lst {lst : Array Bool} (e : listed = lst) (h : GtH P ops Q md k C fuel lst A0 ds n l w) : GtH P ops Q md k C fuel listed A0 ds n l w := e ▸ h
theorem gt_world (T : World → Prop) (hT : T w) (h : ∀ w, T w → GtH P ops Q md k C fuel listed A0 ds n l w) : GtH P ops Q md k C fuel listed A0 ds n l w := h w hT
/-- What is known may be known by fewer rows. -/
theorem gt_sub (l' : List (Nat × Value)) (h : GtH P ops Q md k C fuel listed A0 ds n l' w) (e : subK l l' := by exact ⟨rfl, rfl⟩) : GtH P ops Q md k C fuel listed A0 ds n l w := fun hn hS A hO hN => h hn hS A hO (hN.sub e)
/-- Ways meet. -/
theorem join5 {P : Option Addr → Nat → World → Prop} {G : Prop} (T : Option Addr → Nat → World → Prop) (main : (∀ A c W, T A c W → P A c W) → G) (kp : ∀ A c W, T A c W → P A c W) : G := main kp
/-- An operation that reads alone is taken first. -/
theorem gt (i : Nat) (ks : List Nat) (hi : ops[i]? = some ⟨some d, op, ty, pos, aft, gd⟩) (h : GtH P ops Q md k C fuel (listed.setIfInBounds i true) A0 ds n ((d, v) :: l) w)
    (hk : selK ks l = some us := by rfl) (hw : wantK ops gd l = some true := by rfl)
    (hy : ∀ A w, C w → Kn A us → (execOp A.eval ⟨some d, op, ty, pos, aft, gd⟩).run P w = .ok (.value v) w := by intro A w hSw hK; (try dsimp only at hSw); (try dsimp only [Kn] at hK); go_split_ands; go_simp; try with_reducible rfl)
    (h1 : ds.contains d = true := by rfl) (h2 : Nat.blt d n = true := by rfl) (h3 : offK d l = true := by rfl)
    (hs : Region.noSelect ops = true := by kernel_rfl) (hf : Region.free md ops listed i = true := by kernel_rfl) (hr : (Region.ready md ops listed).contains i = true := by kernel_rfl)
    (hwt : waitsB md ops i k = true := by kernel_rfl) (hl : listed.getD k true = false := by rfl) (hne : Nat.beq i k = false := by rfl)
    (hQ : ∀ c (a : Act) w, Q (.panic c) (a.put (some d) v) w → Q (.panic c) a w := by exact fun _ _ _ h => h) : GtH P ops Q md k C (fuel + 1) listed A0 ds n l w := fun hn hS A hO hN => by
  obtain ⟨hO', hN'⟩ := hO.putO hn hN v h1 h2 h3
  have hik : i ≠ k := Nat.ne_of_beq_eq_false hne
  refine wpAnyG_load (S0 := C) hi hs hf hr hQ hwt hl hik (fun l w h1 h2 => h2.elim (fun h => by rw [h1] at h; cases h) id) (fun l w h => ?_) (Or.inl ⟨wantK_spec hN hw, fun w hSw => hy A w hSw (hN.sel hk)⟩) (Or.inr hS) (h hn hS _ hO' hN')
  rcases h with h | h
  · left
    rw [getD_set_ne true hik] at h
    exact h
  · exact Or.inr h
/-- The same of what reads no memory. -/
theorem gtp (i : Nat) (ks : List Nat) (hi : ops[i]? = some ⟨some d, op, ty, pos, aft, gd⟩) (h : GtH P ops Q md k C fuel (listed.setIfInBounds i true) A0 ds n ((d, v) :: l) w)
    (hk : selK ks l = some us := by rfl) (hw : wantK ops gd l = some true := by rfl)
    (hy : ∀ A w, Kn A us → (execOp A.eval ⟨some d, op, ty, pos, aft, gd⟩).run P w = .ok (.value v) w := by intro A w hK; (try dsimp only [Kn] at hK); go_split_ands; go_simp; try with_reducible rfl)
    (h1 : ds.contains d = true := by rfl) (h2 : Nat.blt d n = true := by rfl) (h3 : offK d l = true := by rfl)
    (hs : Region.noSelect ops = true := by kernel_rfl) (hf : Region.free md ops listed i = true := by kernel_rfl) (hr : (Region.ready md ops listed).contains i = true := by kernel_rfl)
    (hne : Nat.beq i k = false := by rfl)
    (hQ : ∀ c (a : Act) w, Q (.panic c) (a.put (some d) v) w → Q (.panic c) a w := by exact fun _ _ _ h => h) : GtH P ops Q md k C (fuel + 1) listed A0 ds n l w := fun hn hS A hO hN => by
  obtain ⟨hO', hN'⟩ := hO.putO hn hN v h1 h2 h3
  have hik : i ≠ k := Nat.ne_of_beq_eq_false hne
  refine wpAnyG_pure hi hs hf hr hQ (fun l w h => ?_) (Or.inl ⟨wantK_spec hN hw, fun w _ => hy A w (hN.sel hk)⟩) (Or.inr hS) (h hn hS _ hO' hN')
  rcases h with h | h
  · left
    rw [getD_set_ne true hik] at h
    exact h
  · exact Or.inr h
/-- A row of cells is loaded. -/
theorem gl (i m : Nat) {tl : TypeId} (hi : ops[i]? = some ⟨some d, .load tl (.tmp m), ty, pos, aft, gd⟩) (ad : Addr) (cs : List Value) (dd : TypeDesc) (hC' : ∀ w, C w → Rd w (some ad) cs)
    (hu : P.underlying tl = some dd) (hi2 : (P.info? tl).map (·.size) = some cs.length) (h : GtH P ops Q md k C fuel (listed.setIfInBounds i true) A0 ds n ((d, .agg cs.toArray) :: l) w)
    (hd : dd.isRow = true := by rfl) (hk : selK [m] l = some [(m, .pointer (some ad))] := by rfl) (hw : wantK ops gd l = some true := by rfl)
    (h1 : ds.contains d = true := by rfl) (h2 : Nat.blt d n = true := by rfl) (h3 : offK d l = true := by rfl)
    (hs : Region.noSelect ops = true := by kernel_rfl) (hf : Region.free md ops listed i = true := by kernel_rfl) (hr : (Region.ready md ops listed).contains i = true := by kernel_rfl)
    (hwt : waitsB md ops i k = true := by kernel_rfl) (hl : listed.getD k true = false := by rfl) (hne : Nat.beq i k = false := by rfl)
    (hQ : ∀ c (a : Act) w, Q (.panic c) (a.put (some d) (.agg cs.toArray)) w → Q (.panic c) a w := by exact fun _ _ _ h => h) : GtH P ops Q md k C (fuel + 1) listed A0 ds n l w :=
  gt i [m] hi h hk hw (fun A w hSw hK => by
    have he : A.eval (.tmp m) = .pointer (some ad) := by
      have := hK.1
      show A.tmps.getD m undef = _
      simpa using this
    unfold execOp
    simp only [he, Instr.loadAt, Instr.sureAddr, Sem.run_bind, Sem.run_pure, Result.andThen_ok, run_loadVar_rd w ad tl cs dd (hC' w hSw) hu hd hi2]) h1 h2 h3 hs hf hr hwt hl hne hQ
/-- One operation alone may come up. -/
theorem gr (i : Nat) (h : GtO P ops Q md k C fuel listed A0 ds n l w i) (hr : Region.ready md ops listed = [i] := by kernel_rfl) : GtH P ops Q md k C (fuel + 1) listed A0 ds n l w := fun hn hS A hO hN =>
  ⟨fun h0 => (by rw [hr] at h0; cases h0), fun j hj => by
    rw [hr] at hj
    obtain rfl : j = i := by simpa using hj
    exact h hn hS A hO hN⟩
theorem gr2 (i j : Nat) (hi : GtO P ops Q md k C fuel listed A0 ds n l w i) (hj : GtO P ops Q md k C fuel listed A0 ds n l w j) (hr : Region.ready md ops listed = [i, j] := by kernel_rfl) : GtH P ops Q md k C (fuel + 1) listed A0 ds n l w := fun hn hS A hO hN =>
  ⟨fun h0 => (by rw [hr] at h0; cases h0), fun m hm => by
    rw [hr] at hm
    rcases List.mem_cons.1 hm with rfl | hm
    · exact hi hn hS A hO hN
    · obtain rfl : m = j := by simpa using hm
      exact hj hn hS A hO hN⟩
/-- What an operation does, as its own law tells it. -/
theorem gop (i : Nat) (hi : ops[i]? = some ⟨some d, op, ty, pos, aft, gd⟩) (hw : wantK ops gd l = some true)
    (h : ∀ A, Kn A l → C w → ∀ K : Act → World → Prop, (∀ v w', C w' → GtH P ops Q md k C fuel (listed.setIfInBounds i true) A0 ds n ((d, v) :: l) w' → K (A.put (some d) v) w') → Oper.wp P ⟨some d, op, ty, pos, aft, gd⟩ A w K Q)
    (h1 : ds.contains d = true := by rfl) (h2 : Nat.blt d n = true := by rfl) (h3 : offK d l = true := by rfl) : GtO P ops Q md k C fuel listed A0 ds n l w i := fun hn hS A hO hN => by
  refine wpOp_step hi (fun K hK => ?_)
  rw [if_pos (wantK_spec hN hw)]
  refine h A hN hS K (fun v w' hS' h' => hK _ _ ⟨Or.inr hS', ?_⟩)
  obtain ⟨hO', hN'⟩ := hO.putO hn hN v h1 h2 h3
  exact h' hn hS' _ hO' hN'
/-- A call, by its contract. -/
theorem gc (i : Nat) (ks : List Nat) {f : FuncId} {vs : Array Value} {R : Ending → World → Prop} (hi : ops[i]? = some ⟨some d, op, ty, pos, aft, gd⟩) (hc : Calls P f vs w R)
    (h : ∀ e w', R e w' → ∃ v, e = .returned v ∧ C w' ∧ GtH P ops Q md k C fuel (listed.setIfInBounds i true) A0 ds n ((d, v) :: l) w')
    (hk : selK ks l = some us := by rfl) (hw : wantK ops gd l = some true := by rfl)
    (hx : ∀ A, Kn A us → (execOp A.eval ⟨some d, op, ty, pos, aft, gd⟩).run P w = .ok (.enter f vs) w := by intro A hK; (try dsimp only [Kn] at hK); go_split_ands; go_simp; try with_reducible rfl)
    (h1 : ds.contains d = true := by rfl) (h2 : Nat.blt d n = true := by rfl) (h3 : offK d l = true := by rfl) : GtO P ops Q md k C fuel listed A0 ds n l w i := gop i hi hw (fun A hN hS K hK => by
  unfold Oper.wp
  rw [hx A (hN.sel hk), Oper.upon_enter]
  refine hc.mono ?_
  intro e w' hR
  obtain ⟨v, rfl, hS', h'⟩ := h e w' hR
  exact hK v w' hS' h') h1 h2 h3
/-- An operation that changes the world, or may not be taken first: its result is told. -/
theorem gx (i : Nat) (ks : List Nat) (hi : ops[i]? = some ⟨some d, op, ty, pos, aft, gd⟩) (hS' : C w') (h : GtH P ops Q md k C fuel (listed.setIfInBounds i true) A0 ds n ((d, v) :: l) w')
    (hk : selK ks l = some us := by rfl) (hw : wantK ops gd l = some true := by rfl)
    (hx : ∀ A, Kn A us → (execOp A.eval ⟨some d, op, ty, pos, aft, gd⟩).run P w = .ok (.value v) w' := by intro A hK; (try dsimp only [Kn] at hK); go_split_ands; go_simp; try first | with_reducible rfl | (refine And.intro ?_ ?_ <;> with_reducible rfl))
    (h1 : ds.contains d = true := by rfl) (h2 : Nat.blt d n = true := by rfl) (h3 : offK d l = true := by rfl) : GtO P ops Q md k C fuel listed A0 ds n l w i := gop i hi hw (fun A hN hS K hK => by
  unfold Oper.wp
  rw [hx A (hN.sel hk), Oper.upon_value]
  exact hK v w' hS' h) h1 h2 h3
/-- The last store: what was held may lapse. -/
theorem glast (ks : List Nat) (hi : ops[k]? = some ⟨none, op, ty, pos, aft, gd⟩) (h : ∀ A, Off A0 A ds → Kn A l → Q .normal A w')
    (hk : selK ks l = some us := by rfl) (hw : wantK ops gd l = some true := by rfl)
    (hx : ∀ A, Kn A us → (execOp A.eval ⟨none, op, ty, pos, aft, gd⟩).run P w = .ok .skip w' := by intro A hK; (try dsimp only [Kn] at hK); go_split_ands; go_simp; try first | with_reducible rfl | (refine And.intro ?_ ?_ <;> with_reducible rfl))
    (hz : Region.ready md ops (listed.setIfInBounds k true) = [] := by kernel_rfl) (hb : Nat.blt k listed.size = true := by rfl) : GtO P ops Q md k C fuel listed A0 ds n l w k := fun hn hS A hO hN => by
  refine wpOp_step hi (fun K hK => ?_)
  rw [if_pos (wantK_spec hN hw)]
  unfold Oper.wp
  rw [hx A (hN.sel hk), Oper.upon_skip]
  refine hK _ _ ⟨Or.inl ?_, wpAnyG_done hz (h A hO hN) _⟩
  have hlt : k < listed.size := Nat.lt_of_succ_le (Nat.le_of_ble_eq_true hb)
  simp [hlt]
end
end Go.Proofs.YtnekcijganhknaaGreatDoor
