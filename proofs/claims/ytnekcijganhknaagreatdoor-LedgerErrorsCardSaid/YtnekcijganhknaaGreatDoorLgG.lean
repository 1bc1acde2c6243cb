/- Contracts within bounds, and their parts. -/
import Derived.Test.YtnekcijganhknaaGreatDoorTermG
namespace Go.Proofs.YtnekcijganhknaaGreatDoor
open Go.RowKit
set_option linter.unusedVariables false
set_option linter.unusedSimpArgs false

/-- What is known: names fixed on days, sides chosen. -/
structure Wd where
  fixes : List ((List UInt8 × Int) × Int)
  picks : List ((List UInt8 × List UInt8) × (Int × Int))
def Wd.none : Wd := ⟨[], []⟩
def Wd.fixed (W : Wd) (s : ByteArray) (d : Int) : Option Int := W.fixes.lookup (s.toList, d)
def Wd.chosen (W : Wd) (id l : ByteArray) : Option (Int × Int) := W.picks.lookup (id.toList, l.toList)
/-- A name is fixed: what it changes, and the error. -/
def Wd.fix (W : Wd) (s : ByteArray) (d v : Int) : Wd × Int :=
  if !nameB s || !dayB d || !validB v then (W, 1) else if (W.fixed s d).isSome then (W, 4) else if 32 ≤ W.fixes.length then (W, 5) else (⟨((s.toList, d), v) :: W.fixes, W.picks⟩, 0)
def Wd.choose (W : Wd) (id l : ByteArray) (side d : Int) : Wd × Int :=
  if !nameB id || !nameB l || (side != 0 && side != 1) || !dayB d then (W, 1) else if (W.chosen id l).isSome then (W, 4) else (⟨W.fixes, ((id.toList, l.toList), (side, d)) :: W.picks⟩, 0)
def addC (a b : Int) : Option Int := if validB a && (validB b && validB (a + b)) then some (a + b) else none
def mulC (a b : Int) : Option Int := if validB a && (validB b && validB (a * b)) then some (a * b) else none
def negC (a : Int) : Option Int := if validB a then some (-a) else none
def toldV : Option Int → Option Int × Int
  | some n => (some n, 0)
  | none => (none, 6)
def pairV (a b : Option Int × Int) (f : Int → Int → Option Int) : Option Int × Int :=
  if a.2 ≠ 0 then (none, a.2) else if b.2 ≠ 0 then (none, b.2) else match a.1, b.1 with
    | some x, some y => toldV (f x y)
    | _, _ => (none, 0)
/-- What a number is, if it is known; an error. -/
def Ob.value (W : Wd) (d : Int) : Ob → Option Int × Int
  | .const n => (some n, 0)
  | .fix s => (W.fixed s d, 0)
  | .add l r => pairV (l.value W d) (r.value W d) addC
  | .mul l r => pairV (l.value W d) (r.value W d) mulC
  | .max l r => pairV (l.value W d) (r.value W d) fun a b => some (Max.max a b)
  | .neg o => if (o.value W d).2 ≠ 0 then (none, (o.value W d).2) else match (o.value W d).1 with
    | some x => toldV (negC x)
    | none => (none, 0)
  | .odd _ => (none, 0)
/-- The names in a number, each once. -/
def addNew (out : List ByteArray) (s : ByteArray) : List ByteArray := if out.any (·.toList == s.toList) then out else out ++ [s]
def Ob.names : Ob → List ByteArray
  | .fix s => [s]
  | .add l r => r.names.foldl addNew (l.names.foldl addNew [])
  | .mul l r => r.names.foldl addNew (l.names.foldl addNew [])
  | .max l r => r.names.foldl addNew (l.names.foldl addNew [])
  | .neg o => o.names.foldl addNew []
  | _ => []
def Ob.needs (W : Wd) (d : Int) (o : Ob) : List ByteArray := o.names.filter fun s => !(W.fixed s d).isSome
/-- A payment; what is waited for. -/
structure Fl where
  day : Int
  cur : ByteArray
  amount : Int
structure Wt where
  choice : Bool
  name : ByteArray
  label : ByteArray
  day : Int
  side : Int
def Wt.same (a b : Wt) : Bool := a.choice == b.choice && (a.name.toList == b.name.toList && (a.label.toList == b.label.toList && (a.day == b.day && a.side == b.side)))
structure Wk where
  flows : List Fl
  waits : List Wt
def Wk.wait (x : Wk) (y : Wt) : Wk := if x.waits.any (·.same y) then x else ⟨x.flows, x.waits ++ [y]⟩
def Wk.waitN (x : Wk) (d : Int) (l : List ByteArray) : Wk := l.foldl (fun x s => x.wait ⟨false, s, ⟨#[]⟩, d, 0⟩) x
/-- A number on the way: what is not known is waited for. -/
def Wk.number (x : Wk) (W : Wd) (o : Ob) (d : Int) : Wk × (Option Int × Int) := if (o.value W d).2 = 0 ∧ (o.value W d).1 = none then (x.waitN d (o.needs W d), (none, 0)) else (x, o.value W d)
/-- A contract, on a day, so many times. -/
def Tm.into (id : ByteArray) (W : Wd) : Tm → Int → Int → Wk → Wk × Int
  | .zero, _, _, x => (x, 0)
  | .one c, d, k, x => (⟨x.flows ++ [⟨d, c, k⟩], x.waits⟩, 0)
  | .give t, d, k, x => t.into id W d (-k) x
  | .and l r, d, k, x => if (l.into id W d k x).2 ≠ 0 then l.into id W d k x else r.into id W d k (l.into id W d k x).1
  | .when_ n t, d, k, x => t.into id W (Max.max d n) k x
  | .scale o t, d, k, x => match (x.number W o d) with
    | (y, (some n, 0)) => match mulC k n with
      | none => (y, 6)
      | some m => if m = 0 then (y, 0) else t.into id W d m y
    | (y, (_, e)) => (y, e)
  | .if_ o l r, d, k, x => match (x.number W o d) with
    | (y, (some n, 0)) => if 0 < n then l.into id W d k y else r.into id W d k y
    | (y, (_, e)) => (y, e)
  | .or s l r, d, k, x => match W.chosen id s with
    | none => (⟨x.flows, x.waits ++ [⟨true, ⟨#[]⟩, s, d, if 0 < k then 0 else 1⟩]⟩, 0)
    | some (p, since) => if p = 0 then l.into id W (Max.max d since) k x else r.into id W (Max.max d since) k x
  | .odd _, _, _, x => (x, 0)
/-- What a contract pays, and waits for. -/
def Tm.cash (id : ByteArray) (t : Tm) (d : Int) (W : Wd) : Wk × Int :=
  if t.check ≠ 0 ∨ dayB d = false then (⟨[], []⟩, 1) else if (t.into id W d 1 ⟨[], []⟩).2 ≠ 0 then (⟨[], []⟩, (t.into id W d 1 ⟨[], []⟩).2) else ((t.into id W d 1 ⟨[], []⟩).1, 0)
/-- Contracts, what is known, what was paid. -/
structure Dl where
  id : ByteArray
  day : Int
  term : Tm
structure Lg where
  day : Int
  deals : List Dl
  w : Wd
  paid : List ((Int × List UInt8) × Int)
def Lg.none : Lg := ⟨0, [], Wd.none, []⟩
/-- What flows, what is waited for; or what runs over. -/
def allOf (W : Wd) : List Dl → Wk → Wk × Int
  | [], x => (x, 0)
  | d :: l, x => if (d.term.cash d.id d.day W).2 ≠ 0 then (⟨[], []⟩, (d.term.cash d.id d.day W).2) else allOf W l ⟨x.flows ++ (d.term.cash d.id d.day W).1.flows, x.waits ++ (d.term.cash d.id d.day W).1.waits⟩
def Lg.all (l : Lg) : Wk × Int := allOf l.w l.deals ⟨[], []⟩
def Lg.paidOn (l : Lg) (d : Int) (c : ByteArray) : Int := (l.paid.lookup (d, c.toList)).getD 0
def Lg.owed (l : Lg) (d : Int) (c : ByteArray) : Int := l.all.1.flows.foldl (fun n f => if f.day = d ∧ f.cur.toList = c.toList then n + f.amount else n) (-l.paidOn d c)
end Go.Proofs.YtnekcijganhknaaGreatDoor
namespace Go.Proofs.YtnekcijganhknaaGreatDoor
open Go.RowKit
set_option linter.unusedVariables false
set_option linter.unusedSimpArgs false

theorem lookup_mem {α β : Type} [BEq α] : ∀ (l : List (α × β)) (k : α) (v : β), l.lookup k = some v → ∃ k', (k', v) ∈ l
  | [], k, v, h => by simp [List.lookup] at h
  | (a, b) :: l, k, v, h => by
    unfold List.lookup at h
    split at h
    · injection h with h
      subst h
      exact ⟨a, by simp⟩
    · obtain ⟨k', hk⟩ := lookup_mem l k v h
      exact ⟨k', by simp [hk]⟩
def Wd.ok (W : Wd) : Prop := ∀ p ∈ W.fixes, validB p.2 = true
theorem Wd.ok_none : Wd.none.ok := fun p hp => by cases hp
theorem Wd.fixed_valid {W : Wd} (h : W.ok) {s : ByteArray} {d n : Int} (e : W.fixed s d = some n) : validB n = true := by
  obtain ⟨k, hk⟩ := lookup_mem _ _ _ e
  exact h _ hk
theorem Wd.fix_ok {W : Wd} (h : W.ok) (s : ByteArray) (d v : Int) : (W.fix s d v).1.ok := by
  unfold Wd.fix
  split
  · exact h
  · rename_i hn
    split
    · exact h
    · split
      · exact h
      · intro p hp
        rcases List.mem_cons.1 hp with rfl | hp
        · simp at hn
          exact hn.2
        · exact h p hp
theorem Wd.choose_ok {W : Wd} (h : W.ok) (id l : ByteArray) (side d : Int) : (W.choose id l side d).1.ok := by
  unfold Wd.choose
  split
  · exact h
  · split
    · exact h
    · exact h
theorem addC_valid {a b n : Int} (h : addC a b = some n) : validB n = true := by
  unfold addC at h
  split at h
  · rename_i hc
    injection h with h
    subst h
    simp at hc
    exact hc.2.2
  · cases h
theorem mulC_valid {a b n : Int} (h : mulC a b = some n) : validB n = true := by
  unfold mulC at h
  split at h
  · rename_i hc
    injection h with h
    subst h
    simp at hc
    exact hc.2.2
  · cases h
theorem negC_valid {a n : Int} (h : negC a = some n) : validB n = true := by
  unfold negC at h
  split at h
  · rename_i hc
    injection h with h
    subst h
    unfold validB at *
    simp at *
    omega
  · cases h
theorem pairV_valid {a b : Option Int × Int} {f : Int → Int → Option Int} {n : Int} (h : (pairV a b f).1 = some n) (hf : ∀ x y n, a.1 = some x → b.1 = some y → f x y = some n → validB n = true) : validB n = true := by
  unfold pairV at h
  split at h
  · cases h
  · split at h
    · cases h
    · split at h
      · rename_i x y e1 e2
        cases e : f x y with
        | none => rw [e] at h; cases h
        | some m =>
          rw [e] at h
          obtain rfl : m = n := by simpa [toldV] using h
          exact hf x y m e1 e2 e
      · cases h
theorem Ob.value_valid {W : Wd} (hW : W.ok) (d : Int) : ∀ (o : Ob), o.form = true → ∀ n, (o.value W d).1 = some n → validB n = true
  | .const m, h, n, e => by
    obtain rfl : m = n := by simpa [Ob.value] using e
    exact h
  | .fix s, h, n, e => Wd.fixed_valid hW e
  | .add l r, h, n, e => pairV_valid e fun x y n _ _ e => addC_valid e
  | .mul l r, h, n, e => pairV_valid e fun x y n _ _ e => mulC_valid e
  | .max l r, h, n, e => by
    simp only [Ob.form, Bool.and_eq_true] at h
    refine pairV_valid e fun x y n h1 h2 e => ?_
    injection e with e
    have h3 := Ob.value_valid hW d l h.1 x h1
    have h4 := Ob.value_valid hW d r h.2 y h2
    rw [← e]
    rcases Int.le_total x y with h5 | h5
    · rw [Int.max_eq_right h5]; exact h4
    · rw [Int.max_eq_left h5]; exact h3
  | .neg o, h, n, e => by
    unfold Ob.value at e
    split at e
    · cases e
    · split at e
      · rename_i x e1
        cases e2 : negC x with
        | none => rw [e2] at e; cases e
        | some m =>
          rw [e2] at e
          obtain rfl : m = n := by simpa [toldV] using e
          exact negC_valid e2
      · cases e
  | .odd _, h, n, e => by cases e
end Go.Proofs.YtnekcijganhknaaGreatDoor
namespace Go.Proofs.YtnekcijganhknaaGreatDoor
open Go.RowKit
set_option linter.unusedVariables false
set_option linter.unusedSimpArgs false

/-- So many payments at most, so many that is waited for; each within bounds. -/
structure Wk.ok (x : Wk) (m : Nat) : Prop where
  amt : ∀ f ∈ x.flows, validB f.amount = true ∧ dayB f.day = true
  fl : x.flows.length ≤ m
  wt : x.waits.length ≤ m
def Wd.ok2 (W : Wd) : Prop := W.ok ∧ ∀ p ∈ W.picks, dayB p.2.2 = true
theorem Wk.ok.mono {x : Wk} {m m' : Nat} (h : x.ok m) (hm : m ≤ m') : x.ok m' := ⟨h.amt, Nat.le_trans h.fl hm, Nat.le_trans h.wt hm⟩
theorem Wk.wait_ok {x : Wk} {m : Nat} (h : x.ok m) (y : Wt) : (x.wait y).ok (m + 1) := by
  unfold Wk.wait
  split
  · exact h.mono (Nat.le_succ m)
  · exact ⟨h.amt, Nat.le_succ_of_le h.fl, by simp [h.wt]⟩
theorem Wk.waitN_ok (d : Int) : ∀ (l : List ByteArray) {x : Wk} {m : Nat}, x.ok m → (x.waitN d l).ok (m + l.length)
  | [], x, m, h => h
  | s :: l, x, m, h => by
    have := Wk.waitN_ok d l (Wk.wait_ok h ⟨false, s, ⟨#[]⟩, d, 0⟩)
    rw [List.length_cons]
    exact this.mono (by omega)
theorem addNew_len (out : List ByteArray) (s : ByteArray) : (addNew out s).length ≤ out.length + 1 := by
  unfold addNew; split <;> simp
theorem foldl_addNew_len : ∀ (l out : List ByteArray), (l.foldl addNew out).length ≤ out.length + l.length
  | [], out => by simp
  | s :: l, out => by
    have h1 := foldl_addNew_len l (addNew out s)
    have h2 := addNew_len out s
    rw [List.foldl_cons, List.length_cons]; omega
theorem Ob.names_len : ∀ o : Ob, o.names.length ≤ o.nodes
  | .const _ => by simp [Ob.names]
  | .fix _ => by simp [Ob.names, Ob.nodes]
  | .add l r => by have := l.names_len; have := r.names_len; have := foldl_addNew_len r.names (l.names.foldl addNew []); have := foldl_addNew_len l.names []; simp only [Ob.names, Ob.nodes, List.length_nil] at *; omega
  | .mul l r => by have := l.names_len; have := r.names_len; have := foldl_addNew_len r.names (l.names.foldl addNew []); have := foldl_addNew_len l.names []; simp only [Ob.names, Ob.nodes, List.length_nil] at *; omega
  | .max l r => by have := l.names_len; have := r.names_len; have := foldl_addNew_len r.names (l.names.foldl addNew []); have := foldl_addNew_len l.names []; simp only [Ob.names, Ob.nodes, List.length_nil] at *; omega
  | .neg o => by have := o.names_len; have := foldl_addNew_len o.names []; simp only [Ob.names, Ob.nodes, List.length_nil] at *; omega
  | .odd _ => by simp [Ob.names]
theorem Ob.needs_len (W : Wd) (d : Int) (o : Ob) : (o.needs W d).length ≤ o.nodes := Nat.le_trans (List.length_filter_le _ _) o.names_len
theorem Wk.number_ok {W : Wd} {x : Wk} {m : Nat} (h : x.ok m) (o : Ob) (d : Int) : (x.number W o d).1.ok (m + o.nodes) := by
  unfold Wk.number
  split
  · exact (Wk.waitN_ok d _ h).mono (by have := o.needs_len W d; omega)
  · exact h.mono (by omega)
theorem Wk.number_valid {W : Wd} (hW : W.ok) {x y : Wk} {o : Ob} (ho : o.form = true) {d n e : Int} (h : x.number W o d = (y, (some n, e))) : validB n = true := by
  unfold Wk.number at h
  split at h
  · cases h
  · exact Ob.value_valid hW d o ho n (by rw [(Prod.mk.inj h).2])
theorem dayB_max {a b : Int} (h1 : dayB a = true) (h2 : dayB b = true) : dayB (Max.max a b) = true := by
  rcases Int.le_total a b with h | h
  · rw [Int.max_eq_right h]; exact h2
  · rw [Int.max_eq_left h]; exact h1
theorem validB_neg {k : Int} (h : validB k = true) : validB (-k) = true := by unfold validB at *; simp at *; omega
theorem Tm.into_ok (id : ByteArray) {W : Wd} (hW : W.ok2) : ∀ (t : Tm), t.form = true → ∀ (d k : Int) (x : Wk) (m : Nat), dayB d = true → validB k = true → x.ok m → (t.into id W d k x).1.ok (m + t.nodes)
  | .zero, _, d, k, x, m, hd, hk, h => h.mono (by omega)
  | .one c, _, d, k, x, m, hd, hk, h => by
    unfold Tm.into
    refine ⟨fun f hf => ?_, by simp [Tm.nodes, h.fl], Nat.le_trans h.wt (by omega)⟩
    rcases List.mem_append.1 hf with hf | hf
    · exact h.amt f hf
    · obtain rfl := List.mem_singleton.1 hf
      exact ⟨hk, hd⟩
  | .give t, ht, d, k, x, m, hd, hk, h => by
    unfold Tm.into
    exact (Tm.into_ok id hW t ht d (-k) x m hd (validB_neg hk) h).mono (by simp only [Tm.nodes]; omega)
  | .and l r, ht, d, k, x, m, hd, hk, h => by
    simp only [Tm.form, Bool.and_eq_true] at ht
    unfold Tm.into
    have h1 := Tm.into_ok id hW l ht.1 d k x m hd hk h
    split
    · exact h1.mono (by simp only [Tm.nodes]; omega)
    · exact (Tm.into_ok id hW r ht.2 d k _ _ hd hk h1).mono (by simp only [Tm.nodes]; omega)
  | .when_ n t, ht, d, k, x, m, hd, hk, h => by
    simp only [Tm.form, Bool.and_eq_true] at ht
    unfold Tm.into
    exact (Tm.into_ok id hW t ht.2 _ k x m (dayB_max hd ht.1) hk h).mono (by simp only [Tm.nodes]; omega)
  | .scale o t, ht, d, k, x, m, hd, hk, h => by
    simp only [Tm.form, Bool.and_eq_true] at ht
    have h1 := Wk.number_ok (W := W) h o d
    unfold Tm.into
    split
    · rename_i y n e
      rw [e] at h1
      split
      · exact h1.mono (by simp only [Tm.nodes]; omega)
      · rename_i q eq
        split
        · exact h1.mono (by simp only [Tm.nodes]; omega)
        · exact (Tm.into_ok id hW t ht.2 d q y _ hd (mulC_valid eq) h1).mono (by simp only [Tm.nodes]; omega)
    · rename_i y _ _ _ e
      rw [e] at h1
      exact h1.mono (by simp only [Tm.nodes]; omega)
  | .if_ o l r, ht, d, k, x, m, hd, hk, h => by
    simp only [Tm.form, Bool.and_eq_true] at ht
    have h1 := Wk.number_ok (W := W) h o d
    unfold Tm.into
    split
    · rename_i y n e
      rw [e] at h1
      split
      · exact (Tm.into_ok id hW l ht.2.1 d k y _ hd hk h1).mono (by simp only [Tm.nodes]; omega)
      · exact (Tm.into_ok id hW r ht.2.2 d k y _ hd hk h1).mono (by simp only [Tm.nodes]; omega)
    · rename_i y _ _ _ e
      rw [e] at h1
      exact h1.mono (by simp only [Tm.nodes]; omega)
  | .or s l r, ht, d, k, x, m, hd, hk, h => by
    simp only [Tm.form, Bool.and_eq_true] at ht
    unfold Tm.into
    split
    · exact ⟨h.amt, Nat.le_trans h.fl (by omega), by simp [Tm.nodes]; have := h.wt; omega⟩
    · rename_i p since e
      have hs : dayB since = true := by
        obtain ⟨q, hq⟩ := lookup_mem _ _ _ e
        exact hW.2 _ hq
      split
      · exact (Tm.into_ok id hW l ht.2.1 _ k x m (dayB_max hd hs) hk h).mono (by simp only [Tm.nodes]; omega)
      · exact (Tm.into_ok id hW r ht.2.2 _ k x m (dayB_max hd hs) hk h).mono (by simp only [Tm.nodes]; omega)
  | .odd _, ht, d, k, x, m, hd, hk, h => by cases ht
end Go.Proofs.YtnekcijganhknaaGreatDoor
namespace Go.Proofs.YtnekcijganhknaaGreatDoor
open Go.RowKit
set_option linter.unusedVariables false
set_option linter.unusedSimpArgs false

def Ob.fits (o : Ob) : Prop := o.form = true ∧ o.nodes ≤ 60 ∧ o.deep ≤ 12
def Tm.fits (t : Tm) : Prop := t.form = true ∧ t.nodes ≤ 60 ∧ t.deep ≤ 12
theorem Ob.fits.check0 {o : Ob} (h : o.fits) : o.check = 0 := by
  obtain ⟨h1, h2, h3⟩ := h
  unfold Ob.check
  rw [h1, if_pos rfl, if_neg (by omega)]
theorem Tm.check_fits {t : Tm} (h : t.check = 0) : t.fits := by
  unfold Tm.check at h
  split at h
  · rename_i hf
    split at h
    · cases h
    · exact ⟨hf, by omega, by omega⟩
  · cases h
theorem Ob.form_meas : ∀ o : Ob, o.form = true → o.meas = o.nodes
  | .const _, _ | .fix _, _ => rfl
  | .add l r, h | .mul l r, h | .max l r, h => by
    simp only [Ob.form, Bool.and_eq_true] at h
    simp only [Ob.meas, Ob.nodes, l.form_meas h.1, r.form_meas h.2]
  | .neg o, h => by simp only [Ob.meas, Ob.nodes, o.form_meas h]
  | .odd _, h => by cases h
theorem Ob.fits.meas {o : Ob} (h : o.fits) : o.meas ≤ 60 := by rw [o.form_meas h.1]; exact h.2.1
theorem Tm.form_meas : ∀ o : Tm, o.form = true → o.meas = o.nodes
  | .zero, _ | .one _, _ => rfl
  | .give t, h => by simp only [Tm.meas, Tm.nodes, t.form_meas h]
  | .when_ n t, h => by
    simp only [Tm.form, Bool.and_eq_true] at h
    simp only [Tm.meas, Tm.nodes, t.form_meas h.2]
  | .and l r, h => by
    simp only [Tm.form, Bool.and_eq_true] at h
    simp only [Tm.meas, Tm.nodes, l.form_meas h.1, r.form_meas h.2]
  | .or _ l r, h => by
    simp only [Tm.form, Bool.and_eq_true] at h
    simp only [Tm.meas, Tm.nodes, l.form_meas h.2.1, r.form_meas h.2.2]
  | .scale o t, h => by
    simp only [Tm.form, Bool.and_eq_true] at h
    simp only [Tm.meas, Tm.nodes, o.form_meas h.1, t.form_meas h.2]
  | .if_ o l r, h => by
    simp only [Tm.form, Bool.and_eq_true] at h
    simp only [Tm.meas, Tm.nodes, o.form_meas h.1, l.form_meas h.2.1, r.form_meas h.2.2]
  | .odd _, h => by cases h
theorem Tm.fits.meas {t : Tm} (h : t.fits) : t.meas ≤ 60 := by rw [t.form_meas h.1]; exact h.2.1
theorem max_of {a b c : Nat} (h : Nat.max a b + 1 ≤ c) : a ≤ c ∧ b ≤ c := ⟨Nat.le_trans (Nat.le_max_left a b) (Nat.le_of_succ_le h), Nat.le_trans (Nat.le_max_right a b) (Nat.le_of_succ_le h)⟩
theorem Tm.fits.give {t : Tm} (h : (Tm.give t).fits) : t.fits := by
  obtain ⟨h1, h2, h3⟩ := h
  simp only [Tm.form, Tm.nodes, Tm.deep] at *
  exact ⟨h1, by omega, by omega⟩
theorem Tm.fits.and {l r : Tm} (h : (Tm.and l r).fits) : l.fits ∧ r.fits := by
  obtain ⟨h1, h2, h3⟩ := h
  simp only [Tm.form, Tm.nodes, Tm.deep, Bool.and_eq_true] at *
  have := max_of h3
  exact ⟨⟨h1.1, by omega, this.1⟩, ⟨h1.2, by omega, this.2⟩⟩
theorem Tm.fits.or {s : ByteArray} {l r : Tm} (h : (Tm.or s l r).fits) : nameB s = true ∧ l.fits ∧ r.fits := by
  obtain ⟨h1, h2, h3⟩ := h
  simp only [Tm.form, Tm.nodes, Tm.deep, Bool.and_eq_true] at *
  have := max_of h3
  exact ⟨h1.1, ⟨h1.2.1, by omega, this.1⟩, ⟨h1.2.2, by omega, this.2⟩⟩
theorem Tm.fits.when {n : Int} {t : Tm} (h : (Tm.when_ n t).fits) : dayB n = true ∧ t.fits := by
  obtain ⟨h1, h2, h3⟩ := h
  simp only [Tm.form, Tm.nodes, Tm.deep, Bool.and_eq_true] at *
  exact ⟨h1.1, h1.2, by omega, by omega⟩
theorem Tm.fits.scale {o : Ob} {t : Tm} (h : (Tm.scale o t).fits) : o.fits ∧ t.fits := by
  obtain ⟨h1, h2, h3⟩ := h
  simp only [Tm.form, Tm.nodes, Tm.deep, Bool.and_eq_true] at *
  have := max_of h3
  exact ⟨⟨h1.1, by omega, this.1⟩, ⟨h1.2, by omega, this.2⟩⟩
theorem Tm.fits.if_ {o : Ob} {l r : Tm} (h : (Tm.if_ o l r).fits) : o.fits ∧ l.fits ∧ r.fits := by
  obtain ⟨h1, h2, h3⟩ := h
  simp only [Tm.form, Tm.nodes, Tm.deep, Bool.and_eq_true] at *
  have h4 := max_of h3
  have h5 : Nat.max o.deep l.deep + 1 ≤ 12 := Nat.le_trans (Nat.succ_le_succ (Nat.le_max_left _ r.deep)) h3
  have h6 := max_of h5
  exact ⟨⟨h1.1, by omega, h6.1⟩, ⟨h1.2.1, by omega, h6.2⟩, ⟨h1.2.2, by omega, h4.2⟩⟩
end Go.Proofs.YtnekcijganhknaaGreatDoor
