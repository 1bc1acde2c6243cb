/- The document's trees in memory; a plan's numbers. -/
import Derived.Test.YtapbkomicihkkaaGreatDoorWriteG
import Derived.Test.YtapbkomicihkkaaGreatDoorKeep
import Derived.Test.YtapbkomicihkkaaGreatDoorBuild
import Derived.Deep.DeepCutAuto
import Derived.Deep.CutBlock
namespace Go.Proofs.YtapbkomicihkkaaGreatDoor
open Go.RowKit
set_option linter.unusedVariables false
set_option linter.unusedSimpArgs false

/-- A tree: its kind, its name, its number, its parts. -/
inductive Tr where
  | mk (kind : Int) (s : ByteArray) (n : Int) (ks : List Tr)
def Tr.kind : Tr → Int | .mk k _ _ _ => k
def Tr.s : Tr → ByteArray | .mk _ s _ _ => s
def Tr.n : Tr → Int | .mk _ _ n _ => n
def Tr.ks : Tr → List Tr | .mk _ _ _ k => k
/-- A row of cells that a slice made in the call reads, in a block from x on. -/
def RowOf (x : Nat) (w : World) (A : Option Addr) (cs : List Value) : Prop := (A = none ∧ cs = []) ∨ ∃ b, A = some ⟨b, 0, none⟩ ∧ x ≤ b ∧ ∀ j (v : Value), cs[j]? = some v → w.cell? ⟨b, j, none⟩ = some v
theorem RowOf.below {x : Nat} {w w' : World} {A : Option Addr} {cs : List Value} (h : RowOf x w A cs) (hb : Below w.heap.size w w') : RowOf x w' A cs := by
  rcases h with h | ⟨b, h1, h2, h3⟩
  · exact .inl h
  · exact .inr ⟨b, h1, h2, fun j v hv => cell_below hb (h3 j v hv)⟩
theorem gb_cell {w w' : World} {g b j : Nat} {v : Value} (hg : w.grownBy w' (some g)) (hne : b ≠ g) (hc : w.cell? ⟨b, j, none⟩ = some v) : w'.cell? ⟨b, j, none⟩ = some v := by
  have hlt := World.block_lt_of_cell? w _ hc
  have h := hg.block b hlt (fun e => hne (by injection e))
  unfold World.cell? at *
  simp only at *
  rw [h]; exact hc
theorem RowOf.grown {x g : Nat} {w w' : World} {A : Option Addr} {cs : List Value} (h : RowOf x w A cs) (hb : w.grownBy w' (some g)) (hx : g < x) : RowOf x w' A cs := by
  rcases h with h | ⟨b, h1, h2, h3⟩
  · exact .inl h
  · exact .inr ⟨b, h1, h2, fun j v hv => gb_cell hb (by omega) (h3 j v hv)⟩
theorem RowOf.setN {x g : Nat} {w : World} {A : Option Addr} {cs : List Value} (h : RowOf x w A cs) (hx : g < x) (j : Nat) (u : Value) : RowOf x (w.setCell ⟨g, j, none⟩ u) A cs := h.grown (gb_set j u) hx
theorem RowOf.mono {x y : Nat} {w : World} {A : Option Addr} {cs : List Value} (h : RowOf x w A cs) (hx : y ≤ x) : RowOf y w A cs := by
  rcases h with h | ⟨b, h1, h2, h3⟩
  · exact .inl h
  · exact .inr ⟨b, h1, by omega, h3⟩
theorem RowOf.new {x : Nat} {w : World} {b : Nat} {cs : Array Value} {t : TypeId} (h : Blk w b cs t) (hx : x ≤ b) : RowOf x w (some ⟨b, 0, none⟩) cs.toList :=
  .inr ⟨b, rfl, hx, fun j v hv => by rw [h.cell]; simpa using hv⟩
mutual
/-- The value of a tree, its parts in memory in blocks from x on. -/
def TrAt (x : Nat) (w : World) : Tr → Value → Prop
  | .mk kind s n ks, v => ∃ A c cs, v = .agg #[.int .i64 kind, .string s, .int .i64 n, .slice A ks.length c] ∧ RowOf x w A cs ∧ TrsAt x w ks cs
def TrsAt (x : Nat) (w : World) : List Tr → List Value → Prop
  | [], cs => cs = []
  | t :: ts, cs => ∃ c0 c1 c2 c3 rest, cs = c0 :: c1 :: c2 :: c3 :: rest ∧ TrAt x w t (.agg #[c0, c1, c2, c3]) ∧ TrsAt x w ts rest
end
mutual
theorem TrAt.keep {x x' : Nat} {w w' : World} (h : ∀ A cs, RowOf x w A cs → RowOf x' w' A cs) : ∀ (t : Tr) (v : Value), TrAt x w t v → TrAt x' w' t v
  | .mk kind s n ks, v, hv => by
    unfold TrAt at hv ⊢
    obtain ⟨A, c, cs, h1, h2, h3⟩ := hv
    exact ⟨A, c, cs, h1, h _ _ h2, TrsAt.keep h ks cs h3⟩
theorem TrsAt.keep {x x' : Nat} {w w' : World} (h : ∀ A cs, RowOf x w A cs → RowOf x' w' A cs) : ∀ (ts : List Tr) (cs : List Value), TrsAt x w ts cs → TrsAt x' w' ts cs
  | [], cs, hv => by unfold TrsAt at hv ⊢; exact hv
  | t :: ts, cs, hv => by
    unfold TrsAt at hv ⊢
    obtain ⟨c0, c1, c2, c3, rest, h1, h2, h3⟩ := hv
    exact ⟨c0, c1, c2, c3, rest, h1, TrAt.keep h t _ h2, TrsAt.keep h ts rest h3⟩
end
theorem TrAt.below {x : Nat} {w w' : World} {t : Tr} {v : Value} (h : TrAt x w t v) (hb : Below w.heap.size w w') : TrAt x w' t v := TrAt.keep (fun _ _ h => h.below hb) t v h
theorem TrAt.grown {x g : Nat} {w w' : World} {t : Tr} {v : Value} (h : TrAt x w t v) (hb : w.grownBy w' (some g)) (hx : g < x) : TrAt x w' t v := TrAt.keep (fun _ _ h => h.grown hb hx) t v h
theorem TrAt.setN {x g : Nat} {w : World} {t : Tr} {v : Value} (h : TrAt x w t v) (hx : g < x) (j : Nat) (u : Value) : TrAt x (w.setCell ⟨g, j, none⟩ u) t v := h.grown (gb_set j u) hx
theorem TrAt.mono {x y : Nat} {w : World} {t : Tr} {v : Value} (h : TrAt x w t v) (hx : y ≤ x) : TrAt y w t v := TrAt.keep (fun _ _ h => h.mono hx) t v h
theorem TrAt.set4 {x r : Nat} {w : World} {t : Tr} {v : Value} (h : TrAt x w t v) (hx : r < x) (v0 v1 v2 v3 : Value) :
    TrAt x ((((w.setCell ⟨r, 0, none⟩ v0).setCell ⟨r, 1, none⟩ v1).setCell ⟨r, 2, none⟩ v2).setCell ⟨r, 3, none⟩ v3) t v := (((h.setN hx 0 v0).setN hx 1 v1).setN hx 2 v2).setN hx 3 v3
theorem RowOf.set4 {x r : Nat} {w : World} {A : Option Addr} {cs : List Value} (h : RowOf x w A cs) (hx : r < x) (v0 v1 v2 v3 : Value) :
    RowOf x ((((w.setCell ⟨r, 0, none⟩ v0).setCell ⟨r, 1, none⟩ v1).setCell ⟨r, 2, none⟩ v2).setCell ⟨r, 3, none⟩ v3) A cs := (((h.setN hx 0 v0).setN hx 1 v1).setN hx 2 v2).setN hx 3 v3
theorem TrAt.open_ {x : Nat} {w : World} {t : Tr} {v : Value} (h : TrAt x w t v) : ∃ A c cs, v = .agg #[.int .i64 t.kind, .string t.s, .int .i64 t.n, .slice A t.ks.length c] ∧ RowOf x w A cs ∧ TrsAt x w t.ks cs := by
  cases t; unfold TrAt at h; exact h
theorem TrAt.leaf (x : Nat) (w : World) (k : Int) (s : ByteArray) (n : Int) (c : Nat) : TrAt x w (.mk k s n []) (.agg #[.int .i64 k, .string s, .int .i64 n, .slice none 0 c]) := by
  unfold TrAt; exact ⟨none, c, [], rfl, .inl ⟨rfl, rfl⟩, by unfold TrsAt; rfl⟩
/-- A part more at the head of a row. -/
theorem TrsAt.cons {x : Nat} {w : World} {t : Tr} {ts : List Tr} {c0 c1 c2 c3 : Value} {rest : List Value} (h : TrAt x w t (.agg #[c0, c1, c2, c3])) (hs : TrsAt x w ts rest) : TrsAt x w (t :: ts) (c0 :: c1 :: c2 :: c3 :: rest) := by
  unfold TrsAt; exact ⟨_, _, _, _, _, rfl, h, hs⟩
theorem TrsAt.nil (x : Nat) (w : World) : TrsAt x w [] [] := by unfold TrsAt; rfl
theorem TrAt.mk_ {x : Nat} {w : World} {k : Int} {s : ByteArray} {n : Int} {ks : List Tr} {A : Option Addr} {c : Nat} {cs : List Value} (hrow : RowOf x w A cs) (hts : TrsAt x w ks cs) :
    TrAt x w (.mk k s n ks) (.agg #[.int .i64 k, .string s, .int .i64 n, .slice A ks.length c]) := by unfold TrAt; exact ⟨A, c, cs, rfl, hrow, hts⟩
theorem TrsAt.uncons {x : Nat} {w : World} {t : Tr} {ts : List Tr} {cs : List Value} (h : TrsAt x w (t :: ts) cs) : ∃ c0 c1 c2 c3 rest, cs = c0 :: c1 :: c2 :: c3 :: rest ∧ TrAt x w t (.agg #[c0, c1, c2, c3]) ∧ TrsAt x w ts rest := by
  unfold TrsAt at h; exact h
attribute [irreducible] TrAt TrsAt

def nS : ByteArray := ⟨#[]⟩
def Ob.tr : Ob → Tr
  | .const n => .mk 11 nS n []
  | .fix s => .mk 12 s 0 []
  | .add l r => .mk 13 nS 0 [l.tr, r.tr]
  | .neg o => .mk 14 nS 0 [o.tr]
  | .mul l r => .mk 15 nS 0 [l.tr, r.tr]
  | .max l r => .mk 16 nS 0 [l.tr, r.tr]
  | .odd _ => .mk 0 nS 0 []
def Tm.tr : Tm → Tr
  | .zero => .mk 1 nS 0 []
  | .one s => .mk 2 s 0 []
  | .give t => .mk 3 nS 0 [t.tr]
  | .and l r => .mk 4 nS 0 [l.tr, r.tr]
  | .or s l r => .mk 5 s 0 [l.tr, r.tr]
  | .scale o t => .mk 6 nS 0 [o.tr, t.tr]
  | .when_ n t => .mk 7 nS n [t.tr]
  | .if_ o l r => .mk 8 nS 0 [o.tr, l.tr, r.tr]
  | .odd _ => .mk 0 nS 0 []
/-- What a plan makes: nothing odd, short names, small numbers. -/
def Ob.fine : Ob → Prop
  | .const n => -1000000000000 ≤ n ∧ n ≤ 1000000000000
  | .fix s => s.size ≤ 14
  | .add l r => l.fine ∧ r.fine
  | .neg o => o.fine
  | .mul l r => l.fine ∧ r.fine
  | .max l r => l.fine ∧ r.fine
  | .odd _ => False
def Tm.fine : Tm → Prop
  | .zero => True
  | .one s => s.size ≤ 14
  | .give t => t.fine
  | .and l r => l.fine ∧ r.fine
  | .or s l r => s.size ≤ 14 ∧ l.fine ∧ r.fine
  | .scale o t => o.fine ∧ t.fine
  | .when_ n t => (0 ≤ n ∧ n < 8) ∧ t.fine
  | .if_ o l r => o.fine ∧ l.fine ∧ r.fine
  | .odd _ => False
theorem Ob.fine.ok : ∀ {o : Ob}, o.fine → o.ok
  | .const n, h => by unfold Ob.fine at h; unfold Ob.ok; omega
  | .fix s, h => by unfold Ob.fine at h; unfold Ob.ok; omega
  | .add l r, h => ⟨Ob.fine.ok h.1, Ob.fine.ok h.2⟩
  | .neg o, h => Ob.fine.ok (o := o) h
  | .mul l r, h => ⟨Ob.fine.ok h.1, Ob.fine.ok h.2⟩
  | .max l r, h => ⟨Ob.fine.ok h.1, Ob.fine.ok h.2⟩
  | .odd _, h => h.elim
theorem Tm.fine.ok : ∀ {t : Tm}, t.fine → t.ok
  | .zero, _ => trivial
  | .one s, h => by unfold Tm.fine at h; unfold Tm.ok; omega
  | .give t, h => Tm.fine.ok (t := t) h
  | .and l r, h => ⟨Tm.fine.ok h.1, Tm.fine.ok h.2⟩
  | .or s l r, h => ⟨by have := h.1; omega, Tm.fine.ok h.2.1, Tm.fine.ok h.2.2⟩
  | .scale o t, h => ⟨Ob.fine.ok h.1, Tm.fine.ok h.2⟩
  | .when_ n t, h => ⟨by have := h.1; omega, Tm.fine.ok h.2⟩
  | .if_ o l r, h => ⟨Ob.fine.ok h.1, Tm.fine.ok h.2.1, Tm.fine.ok h.2.2⟩
  | .odd _, h => h.elim
/-- How many parts. -/
def Ob.parts : Ob → Nat
  | .add l r => 1 + l.parts + r.parts
  | .neg o => 1 + o.parts
  | .mul l r => 1 + l.parts + r.parts
  | .max l r => 1 + l.parts + r.parts
  | _ => 1
def Tm.parts : Tm → Nat
  | .give t => 1 + t.parts
  | .and l r => 1 + l.parts + r.parts
  | .or _ l r => 1 + l.parts + r.parts
  | .scale o t => 1 + o.parts + t.parts
  | .when_ _ t => 1 + t.parts
  | .if_ o l r => 1 + o.parts + l.parts + r.parts
  | _ => 1

/-- A plan as it came in: numbers, words. -/
structure PlanAt (w : World) (vN vW : Value) : Prop where
  nums : ∃ (A : Option Addr) (n c : Nat) (xs : List Value), vN = .slice A n c ∧ Rd w A xs ∧ xs.length = n ∧ n ≤ 140737488355328 ∧ ∀ (j : Nat) (v : Value), xs[j]? = some v → ∃ i : Int, v = .int .i64 i ∧ -9223372036854775808 ≤ i ∧ i ≤ 9223372036854775807
  words : ∃ (A : Option Addr) (n c : Nat) (xs : List Value), vW = .slice A n c ∧ Rd w A xs ∧ xs.length = n ∧ n ≤ 140737488355328 ∧ ∀ (j : Nat) (v : Value), xs[j]? = some v → ∃ s : ByteArray, v = .string s ∧ s.size ≤ 9223372036854775807
theorem PlanAt.below {w w' : World} {vN vW : Value} (h : PlanAt w vN vW) (hb : Below w.heap.size w w') : PlanAt w' vN vW := by
  obtain ⟨⟨A, n, c, xs, h1, h2, h3⟩, ⟨A', n', c', xs', h1', h2', h3'⟩⟩ := h
  exact ⟨⟨A, n, c, xs, h1, h2.below hb, h3⟩, ⟨A', n', c', xs', h1', h2'.below hb, h3'⟩⟩
/-- The maker of a plan's trees: where it stands in the plan, what is left, the last label. -/
structure Mk (w0 : World) (g : Nat) (vN vW : Value) (i : Nat) (l : Int) (b : Nat) (w : World) : Prop where
  blk : Blk w g #[vN, vW, .int .i64 (i : Int), .int .i64 l, .int .i64 (b : Int)] 186
  hg : w0.heap.size ≤ g
  bel : Below w0.heap.size w0 w
  plan : PlanAt w0 vN vW
theorem Mk.below {w0 : World} {g : Nat} {vN vW : Value} {i : Nat} {l : Int} {b : Nat} {w w' : World} (h : Mk w0 g vN vW i l b w) (hb : Below w.heap.size w w') : Mk w0 g vN vW i l b w' := ⟨h.blk.below hb, h.hg, bl_step hb h.bel, h.plan⟩
end Go.Proofs.YtapbkomicihkkaaGreatDoor
