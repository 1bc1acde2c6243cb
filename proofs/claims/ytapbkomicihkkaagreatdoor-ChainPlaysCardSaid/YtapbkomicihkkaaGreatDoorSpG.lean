/- Guarded operations of a drawn region, over a frame of which few slots are known. -/
import Derived.Test.YtapbkomicihkkaaGreatDoorSparG
import Derived.Deep.RegionWith
namespace Go.Proofs.YtapbkomicihkkaaGreatDoor
open Go.RowKit
set_option linter.unusedVariables false
set_option linter.unusedSimpArgs false

/-- Whether an operation is wanted, as far as the known slots tell. -/
def wantK (ops : Array Oper) (gd : Option (Nat × Bool)) (l : List (Nat × Value)) : Option Bool :=
 match gd with
 | none => some true
 | some (j, b) => match (ops[j]?).bind (·.dst) with
  | some d => match atK d l with
   | some (.bool c) => some (c == b)
   | _ => none
  | none => none
theorem yielded_at {ops : Array Oper} {A : Act} {l : List (Nat × Value)} {j d : Nat} {b : Bool} (hN : Kn A l) (hd : (ops[j]?).bind (·.dst) = some d) (hl : atK d l = some (.bool b)) : yielded ops A.tmps j = some b := by
 have h := hN.get d hl
 unfold yielded
 rw [hd]
 cases e : A.tmps[d]? with
 | none => rw [e] at h; cases h
 | some v =>
  rw [e] at h
  obtain rfl : v = .bool b := h
  simp [e]
theorem wantK_spec {ops : Array Oper} {o : Oper} {A : Act} {l : List (Nat × Value)} {t : Bool} (hN : Kn A l) (h : wantK ops o.guard l = some t) : Region.wanted o (yielded ops A.tmps) = t := by
 unfold wantK at h
 unfold Region.wanted
 split at h
 ·rename_i e; rw [e]; injection h
 ·rename_i j b e
  rw [e]
  dsimp only
  split at h
  ·rename_i d hd
   split at h
   ·rename_i c hc
    rw [yielded_at hN hd hc]
    exact Option.some.inj h
   ·cases h
  ·cases h
/-- The rows of some slots. -/
def selK : List Nat → List (Nat × Value) → Option (List (Nat × Value))
 | [], _ => some []
 | k :: ks, l => match atK k l, selK ks l with
  | some v, some r => some ((k, v) :: r)
  | _, _ => none
theorem Kn.sel {A : Act} {l : List (Nat × Value)} (hN : Kn A l) : ∀ {ks : List Nat} {us : List (Nat × Value)}, selK ks l = some us → Kn A us
 | [], us, h => by unfold selK at h; injection h with h; subst h; trivial
 | k :: ks, us, h => by
  unfold selK at h
  split at h
  ·rename_i v r h1 h2
   injection h with h
   subst h
   exact ⟨hN.get k h1, hN.sel h2⟩
  ·cases h
section
variable {P : Program} {ops : Array Oper} {Q : Exit → Act → World → Prop} {md : Region.Mode} {S : World → Prop} {fuel : Nat} {listed : Array Bool} {A0 : Act} {ds : List Nat} {n : Nat} {l us : List (Nat × Value)} {w w' : World} {d : Nat} {op : Op} {ty : TypeId} {pos : String} {aft : Array Edge} {gd : Option (Nat × Bool)} {v : Value}
/-- The state of the walk. -/
def SpH (P : Program) (ops : Array Oper) (Q : Exit → Act → World → Prop) (md : Region.Mode) (S : World → Prop) (fuel : Nat) (listed : Array Bool) (A0 : Act) (ds : List Nat) (n : Nat) (l : List (Nat × Value)) (w : World) : Prop :=
 A0.tmps.size = n → S w → ∀ A, Off A0 A ds → Kn A l → wpAnyH P md ops Q S fuel listed A w
/-- One operation of those that may come up. -/
def SpO (P : Program) (ops : Array Oper) (Q : Exit → Act → World → Prop) (md : Region.Mode) (S : World → Prop) (fuel : Nat) (listed : Array Bool) (A0 : Act) (ds : List Nat) (n : Nat) (l : List (Nat × Value)) (w : World) (i : Nat) : Prop :=
 A0.tmps.size = n → S w → ∀ A, Off A0 A ds → Kn A l → wpOp P ops Q i (fun a' w' => S w' ∧ wpAnyH P md ops Q S fuel (listed.setIfInBounds i true) a' w') A w
theorem sp_in (A0 : Act) (ds : List Nat) (n : Nat) (l : List (Nat × Value)) (hn : A0.tmps.size = n) (hS : S w) (hN : Kn A0 l) (h : SpH P ops Q md S fuel listed A0 ds n l w) : wpAnyH P md ops Q S fuel listed A0 w := h hn hS A0 (Off.refl _ _) hN
theorem sp_done (h : ∀ A, Off A0 A ds → Kn A l → S w → Q .normal A w) (hr : Region.ready md ops listed = [] := by kernel_rfl) : SpH P ops Q md S fuel listed A0 ds n l w := fun _ hS A hO hN => wpAnyH_done hr (h A hO hN hS) fuel
theorem Off.putO {A0 A : Act} {ds : List Nat} {n : Nat} (hO : Off A0 A ds) (hn : A0.tmps.size = n) {l : List (Nat × Value)} (hN : Kn A l) {d : Nat} (v : Value) (h1 : ds.contains d = true) (h2 : Nat.blt d n = true) (h3 : offK d l = true) : Off A0 (A.put (some d) v) ds ∧ Kn (A.put (some d) v) ((d, v) :: l) :=
 ⟨hO.put d v h1, hN.put h3 (by rw [hO.size, hn]; simp [Nat.blt] at h2; omega)⟩
/-- An operation that reads alone is taken first. -/
theorem st (i : Nat) (ks : List Nat) (hi : ops[i]? = some ⟨some d, op, ty, pos, aft, gd⟩) (h : SpH P ops Q md S fuel (listed.setIfInBounds i true) A0 ds n ((d, v) :: l) w)
  (hk : selK ks l = some us := by rfl) (hw : wantK ops gd l = some true := by rfl)
  (hy : ∀ A w, S w → Kn A us → (execOp A.eval ⟨some d, op, ty, pos, aft, gd⟩).run P w = .ok (.value v) w := by intro A w hSw hK; (try dsimp only at hSw); (try dsimp only [Kn] at hK); go_split_ands; go_simp; try with_reducible rfl)
  (h1 : ds.contains d = true := by rfl) (h2 : Nat.blt d n = true := by rfl) (h3 : offK d l = true := by rfl)
  (hs : Region.noSelect ops = true := by kernel_rfl) (hf : Region.free md ops listed i = true := by kernel_rfl) (hr : (Region.ready md ops listed).contains i = true := by kernel_rfl)
  (hQ : ∀ c (a : Act) w, Q (.panic c) (a.put (some d) v) w → Q (.panic c) a w := by exact fun _ _ _ h => h) : SpH P ops Q md S (fuel + 1) listed A0 ds n l w := fun hn hS A hO hN => by
 obtain ⟨hO', hN'⟩ := hO.putO hn hN v h1 h2 h3
 exact wpAnyH_take hi hs hf hr hQ (Or.inl ⟨wantK_spec hN hw, fun w hSw => hy A w hSw (hN.sel hk)⟩) hS (h hn hS _ hO' hN')
/-- An operation that is not wanted. -/
theorem stn (i : Nat) (hi : ops[i]? = some ⟨some d, op, ty, pos, aft, gd⟩) (h : SpH P ops Q md S fuel (listed.setIfInBounds i true) A0 ds n ((d, undef) :: l) w)
  (hw : wantK ops gd l = some false := by rfl)
  (h1 : ds.contains d = true := by rfl) (h2 : Nat.blt d n = true := by rfl) (h3 : offK d l = true := by rfl)
  (hs : Region.noSelect ops = true := by kernel_rfl) (hf : Region.free md ops listed i = true := by kernel_rfl) (hr : (Region.ready md ops listed).contains i = true := by kernel_rfl)
  (hQ : ∀ c (a : Act) w, Q (.panic c) (a.put (some d) undef) w → Q (.panic c) a w := by exact fun _ _ _ h => h) : SpH P ops Q md S (fuel + 1) listed A0 ds n l w := fun hn hS A hO hN => by
 obtain ⟨hO', hN'⟩ := hO.putO hn hN undef h1 h2 h3
 exact wpAnyH_take hi hs hf hr hQ (Or.inr ⟨wantK_spec hN hw, rfl⟩) hS (h hn hS _ hO' hN')
/-- A row of cells is loaded. -/
theorem sl (i k : Nat) {tl : TypeId} (hi : ops[i]? = some ⟨some d, .load tl (.tmp k), ty, pos, aft, gd⟩) (b o : Nat) (cs : List Value) (dd : TypeDesc) (hS' : ∀ w, S w → w.rangeAt b o cs)
  (hu : P.underlying tl = some dd) (hi2 : (P.info? tl).map (·.size) = some cs.length) (h : SpH P ops Q md S fuel (listed.setIfInBounds i true) A0 ds n ((d, .agg cs.toArray) :: l) w)
  (hd : dd.isRow = true := by rfl) (hk : atK k l = some (.pointer (some ⟨b, o, none⟩)) := by rfl) (hw : wantK ops gd l = some true := by rfl)
  (h1 : ds.contains d = true := by rfl) (h2 : Nat.blt d n = true := by rfl) (h3 : offK d l = true := by rfl)
  (hs : Region.noSelect ops = true := by kernel_rfl) (hf : Region.free md ops listed i = true := by kernel_rfl) (hr : (Region.ready md ops listed).contains i = true := by kernel_rfl)
  (hQ : ∀ c (a : Act) w, Q (.panic c) (a.put (some d) (.agg cs.toArray)) w → Q (.panic c) a w := by exact fun _ _ _ h => h) : SpH P ops Q md S (fuel + 1) listed A0 ds n l w := fun hn hS A hO hN => by
 obtain ⟨hO', hN'⟩ := hO.putO hn hN (.agg cs.toArray) h1 h2 h3
 have he : A.eval (.tmp k) = .pointer (some ⟨b, o, none⟩) := by
  have := hN.get k hk
  show A.tmps.getD k undef = _
  simpa using this
 exact wpAnyH_take hi hs hf hr hQ (yieldsIf_load_mid (wantK_spec hN hw) tl (.tmp k) rfl b o he cs dd hS' hu hd hi2) hS (h hn hS _ hO' hN')
/-- One operation alone may come up. -/
theorem sr (i : Nat) (h : SpO P ops Q md S fuel listed A0 ds n l w i) (hr : Region.ready md ops listed = [i] := by kernel_rfl) : SpH P ops Q md S (fuel + 1) listed A0 ds n l w := fun hn hS A hO hN =>
 wpAnyH_ready hr (by simp) (fun j hj => by
  obtain rfl : j = i := by simpa using hj
  exact h hn hS A hO hN)
/-- What an operation does, as its own law tells it. -/
theorem so (i : Nat) (hi : ops[i]? = some ⟨some d, op, ty, pos, aft, gd⟩) (hw : wantK ops gd l = some true)
  (h : ∀ A, Kn A l → S w → ∀ K : Act → World → Prop, (∀ v w', S w' → SpH P ops Q md S fuel (listed.setIfInBounds i true) A0 ds n ((d, v) :: l) w' → K (A.put (some d) v) w') → Oper.wp P ⟨some d, op, ty, pos, aft, gd⟩ A w K Q)
  (h1 : ds.contains d = true := by rfl) (h2 : Nat.blt d n = true := by rfl) (h3 : offK d l = true := by rfl) : SpO P ops Q md S fuel listed A0 ds n l w i := fun hn hS A hO hN => by
 refine wpOp_step hi (fun K hK => ?_)
 rw [if_pos (wantK_spec hN hw)]
 refine h A hN hS K (fun v w' hS' h' => hK _ _ ⟨hS', ?_⟩)
 obtain ⟨hO', hN'⟩ := hO.putO hn hN v h1 h2 h3
 exact h' hn hS' _ hO' hN'
/-- A call, by its contract. -/
theorem sc (i : Nat) (ks : List Nat) {f : FuncId} {vs : Array Value} {R : Ending → World → Prop} (hi : ops[i]? = some ⟨some d, op, ty, pos, aft, gd⟩) (hc : Calls P f vs w R)
  (h : ∀ e w', R e w' → ∃ v, e = .returned v ∧ S w' ∧ SpH P ops Q md S fuel (listed.setIfInBounds i true) A0 ds n ((d, v) :: l) w')
  (hk : selK ks l = some us := by rfl) (hw : wantK ops gd l = some true := by rfl)
  (hx : ∀ A, Kn A us → (execOp A.eval ⟨some d, op, ty, pos, aft, gd⟩).run P w = .ok (.enter f vs) w := by intro A hK; (try dsimp only [Kn] at hK); go_split_ands; go_simp; try with_reducible rfl)
  (h1 : ds.contains d = true := by rfl) (h2 : Nat.blt d n = true := by rfl) (h3 : offK d l = true := by rfl) : SpO P ops Q md S fuel listed A0 ds n l w i := so i hi hw (fun A hN hS K hK => by
 unfold Oper.wp
 rw [hx A (hN.sel hk), Oper.upon_enter]
 refine hc.mono ?_
 intro e w' hR
 obtain ⟨v, rfl, hS', h'⟩ := h e w' hR
 exact hK v w' hS' h') h1 h2 h3
end
theorem wpAnyH_lst {P : Program} {ops : Array Oper} {Q : Exit → Act → World → Prop} {md : Region.Mode} {S : World → Prop} {fuel : Nat} {listed : Array Bool} {a : Act} {w : World} (l2 : Array Bool) (e : listed = l2) (h : wpAnyH P md ops Q S fuel l2 a w) : wpAnyH P md ops Q S fuel listed a w := e ▸ h
end Go.Proofs.YtapbkomicihkkaaGreatDoor
