/- A plan's number as a tree. -/
import Derived.Test.YtapbkomicihkkaaGreatDoorPlan3
import Derived.Handy
namespace Go.Proofs.YtapbkomicihkkaaGreatDoor
open Go.RowKit
set_option linter.unusedVariables false
set_option linter.unusedSimpArgs false

theorem gb_setNew {w W : World} {r : Option Nat} (h : w.grownBy W r) (b j : Nat) (hb : w.heap.size ≤ b) (v : Value) : w.grownBy (W.setCell ⟨b, j, none⟩ v) r :=
  ⟨h.os, h.tape, h.output, by have := h.size; simpa [World.setCell] using this, fun i hi hne => by
    rw [Below.heap_setCell _ _ _ _ (show i ≠ b by omega)]
    exact h.block i hi hne⟩
theorem Mk.setN {w0 : World} {g : Nat} {vN vW : Value} {i : Nat} {l : Int} {b : Nat} {w : World} (h : Mk w0 g vN vW i l b w) (r j : Nat) (hr : r ≠ g) (h0 : w0.heap.size ≤ r) (v : Value) : Mk w0 g vN vW i l b (w.setCell ⟨r, j, none⟩ v) :=
  ⟨h.blk.far ⟨r, j, none⟩ (fun e => hr e.symm) v, h.hg, bl_grown h.bel (gb_set j v) h0, h.plan⟩
theorem Mk.alloc {w0 : World} {g : Nat} {vN vW : Value} {i : Nat} {l : Int} {b : Nat} {w : World} (h : Mk w0 g vN vW i l b w) (o : Obj) : Mk w0 g vN vW i l b (w.alloc o) := h.below (bl_alloc (bl_refl _) o)
theorem Mk.drewN {w0 : World} {g : Nat} {vN vW : Value} {i : Nat} {l : Int} {b : Nat} {w : World} (h : Mk w0 g vN vW i l b w) (n : Nat) : Mk w0 g vN vW i l b (w.drewN n) := h.below (bl_drewN (bl_refl _) n)
theorem Mk.setL {w0 : World} {g : Nat} {vN vW : Value} {i : Nat} {l : Int} {b : Nat} {w : World} (h : Mk w0 g vN vW i l b w) (l' : Int) : Mk w0 g vN vW i l' b (w.setCell ⟨g, 3, none⟩ (.int .i64 l')) :=
  ⟨by have := h.blk.set 3 (.int .i64 l'); exact this, h.hg, bl_grown h.bel (gb_set 3 _) h.hg, h.plan⟩
theorem Mk.setB {w0 : World} {g : Nat} {vN vW : Value} {i : Nat} {l : Int} {b : Nat} {w : World} (h : Mk w0 g vN vW i l b w) : Mk w0 g vN vW i l (b + 1) (w.setCell ⟨g, 4, none⟩ (.int .i64 ((b : Int) + 1))) :=
  ⟨by have := h.blk.set 4 (.int .i64 ((b : Int) + 1)); exact this, h.hg, bl_grown h.bel (gb_set 4 _) h.hg, h.plan⟩
theorem Mk.left {w0 : World} {g : Nat} {vN vW : Value} {i : Nat} {l : Int} {b : Nat} {w : World} (h : Mk w0 g vN vW i l b w) : w.cell? ⟨g, 3, none⟩ = some (.int .i64 l) ∧ w.frozen? ⟨g, 3, none⟩ = false := ⟨h.blk.cell 3, h.blk.frozen 3⟩
/-- How many numbers a tree so deep takes at most. -/
def co : Nat → Nat
  | 0 => 2
  | d + 1 => 2 * co d + 2
theorem co_two (d : Nat) : 2 ≤ co d := by cases d <;> simp [co]
/-- What is known of a tree that a plan made. -/
structure Made (w0 : World) (g : Nat) (vN vW : Value) (i : Nat) (l : Int) (c d : Nat) (w w' : World) (n i' : Nat) (l' : Int) : Prop where
  lo : i ≤ i'
  hi : i' ≤ i + c
  cnt : (n : Int) = l - l'
  one : l ≤ 1 → n = 1
  low : 1 ≤ l → -(2 * d : Int) ≤ l'
  gb : w.grownBy w' (some g)
def numT : Array Value := #[.int .i64 0, .int .i64 1, .int .i64 (-1), .int .i64 2, .int .i64 100, .int .i64 (-7), .int .i64 1000000, .int .i64 1000000000000, .int .i64 (-1000000000000), .int .i64 3]
theorem numT_at (j : Nat) (hj : j < 10) : ∃ c : Int, numT[j]? = some (.int .i64 c) ∧ -1000000000000 ≤ c ∧ c ≤ 1000000000000 := by
  match j, hj with
  | 0, _ => exact ⟨0, rfl, by omega, by omega⟩
  | 1, _ => exact ⟨1, rfl, by omega, by omega⟩
  | 2, _ => exact ⟨-1, rfl, by omega, by omega⟩
  | 3, _ => exact ⟨2, rfl, by omega, by omega⟩
  | 4, _ => exact ⟨100, rfl, by omega, by omega⟩
  | 5, _ => exact ⟨-7, rfl, by omega, by omega⟩
  | 6, _ => exact ⟨1000000, rfl, by omega, by omega⟩
  | 7, _ => exact ⟨1000000000000, rfl, by omega, by omega⟩
  | 8, _ => exact ⟨-1000000000000, rfl, by omega, by omega⟩
  | 9, _ => exact ⟨3, rfl, by omega, by omega⟩
  | j + 10, h => omega
def ObsPost (w0 : World) (g : Nat) (vN vW : Value) (i : Nat) (l : Int) (b d : Nat) (w : World) : Ending → World → Prop := fun e w' =>
  ∃ (o : Ob) (v : Value) (i' : Nat) (l' : Int), e = .returned v ∧ TrAt w.heap.size w' o.tr v ∧ o.fine ∧ Mk w0 g vN vW i' l' b w' ∧ Made w0 g vN vW i l (co d) d w w' o.parts i' l'
theorem Blk.four {w : World} {r : Nat} {a b c d : Value} {t : TypeId} (h : Blk w r #[a, b, c, d] t) : (w.cell? ⟨r, 0, none⟩ = some a ∧ w.cell? ⟨r, 1, none⟩ = some b ∧ w.cell? ⟨r, 2, none⟩ = some c ∧ w.cell? ⟨r, 3, none⟩ = some d) ∧
    (w.frozen? ⟨r, 0, none⟩ = false ∧ w.frozen? ⟨r, 1, none⟩ = false ∧ w.frozen? ⟨r, 2, none⟩ = false ∧ w.frozen? ⟨r, 3, none⟩ = false) :=
  ⟨⟨h.cell 0, h.cell 1, h.cell 2, h.cell 3⟩, ⟨h.frozen 0, h.frozen 1, h.frozen 2, h.frozen 3⟩⟩
theorem Blk.set4 {w : World} {r : Nat} {a b c d : Value} {t : TypeId} (h : Blk w r #[a, b, c, d] t) (v0 v1 v2 v3 : Value) :
    Blk ((((w.setCell ⟨r, 0, none⟩ v0).setCell ⟨r, 1, none⟩ v1).setCell ⟨r, 2, none⟩ v2).setCell ⟨r, 3, none⟩ v3) r #[v0, v1, v2, v3] t := (((h.set 0 v0).set 1 v1).set 2 v2).set 3 v3
theorem results_T {fn : Func} {t : Tmp} (h : fn.results = #[.cell t 33]) (tmps : Array Value) (W : World) (r : Nat) (a b c d : Value) (ty : TypeId) (ht : tmps.getD t undef = .pointer (some ⟨r, 0, none⟩)) (hk : Blk W r #[a, b, c, d] ty) :
    (results fn tmps).run Tryz.prog W = .ok (.agg #[a, b, c, d]) W := by
  obtain ⟨⟨k0, k1, k2, k3⟩, _⟩ := hk.four
  have ht' : tmps[t]?.getD undef = .pointer (some ⟨r, 0, none⟩) := by simpa using ht
  simp [results, h, ht', go_sem, k0, k1, k2, k3]
theorem Mk.set4 {w0 : World} {g : Nat} {vN vW : Value} {i : Nat} {l : Int} {b : Nat} {w : World} (h : Mk w0 g vN vW i l b w) (r : Nat) (hr : r ≠ g) (h0 : w0.heap.size ≤ r) (v0 v1 v2 v3 : Value) :
    Mk w0 g vN vW i l b ((((w.setCell ⟨r, 0, none⟩ v0).setCell ⟨r, 1, none⟩ v1).setCell ⟨r, 2, none⟩ v2).setCell ⟨r, 3, none⟩ v3) := (((h.setN r 0 hr h0 v0).setN r 1 hr h0 v1).setN r 2 hr h0 v2).setN r 3 hr h0 v3
theorem gb_set4 {w W : World} {r : Option Nat} (h : w.grownBy W r) (b : Nat) (hb : w.heap.size ≤ b) (v0 v1 v2 v3 : Value) :
    w.grownBy ((((W.setCell ⟨b, 0, none⟩ v0).setCell ⟨b, 1, none⟩ v1).setCell ⟨b, 2, none⟩ v2).setCell ⟨b, 3, none⟩ v3) r := gb_setNew (gb_setNew (gb_setNew (gb_setNew h b 0 hb v0) b 1 hb v1) b 2 hb v2) b 3 hb v3
theorem post_leaf {w0 : World} {g : Nat} {vN vW : Value} {i : Nat} {l : Int} {b d : Nat} {w W : World} (o : Ob) (k : Int) (s : ByteArray) (n : Int) (htr : o.tr = .mk k s n []) (hp : o.parts = 1) (hf : o.fine)
    (hm : Mk w0 g vN vW (i + 1 + 1) (l - 1) b W) (hg : w.grownBy W (some g)) (hc : 2 ≤ co d) : ObsPost w0 g vN vW i l b d w (.returned (.agg #[.int .i64 k, .string s, .int .i64 n, .slice none 0 0])) W :=
  ⟨o, _, i + 1 + 1, l - 1, rfl, by rw [htr]; exact TrAt.leaf _ _ _ _ _ _, hf, hm, ⟨by omega, by omega, by rw [hp]; omega, fun _ => hp, fun h => by omega, hg⟩⟩
theorem size_set4 (w : World) (r : Nat) (v0 v1 v2 v3 : Value) : ((((w.setCell ⟨r, 0, none⟩ v0).setCell ⟨r, 1, none⟩ v1).setCell ⟨r, 2, none⟩ v2).setCell ⟨r, 3, none⟩ v3).heap.size = w.heap.size := by simp [World.setCell]
/-- The value of a tree whose parts stand in A. -/
def Tr.at_ (t : Tr) (A : Option Addr) (c : Nat) : Value := .agg #[.int .i64 t.kind, .string t.s, .int .i64 t.n, .slice A t.ks.length c]
theorem post_one {w0 : World} {g : Nat} {vN vW : Value} {i : Nat} {l : Int} {b e : Nat} {w wB w2 W : World} (o o' : Ob) (k : Int) (htr : o'.tr = .mk k ⟨#[]⟩ 0 [o.tr]) (hp : o'.parts = 1 + o.parts) (hf : o'.fine) {A : Option Addr} {c q i2 : Nat} {l2 : Int}
    (ht : TrAt w.heap.size W o.tr (o.tr.at_ A c)) (hrow : RowOf w.heap.size W (some ⟨q, 0, none⟩) [.int .i64 o.tr.kind, .string o.tr.s, .int .i64 o.tr.n, .slice A o.tr.ks.length c])
    (hm : Mk w0 g vN vW i2 l2 b W) (hmd : Made w0 g vN vW (i + 1) (l - 1) (co e) e wB w2 o.parts i2 l2) (hg : w.grownBy W (some g)) (hl : 2 ≤ l) :
    ObsPost w0 g vN vW i l b (e + 1) w (.returned (.agg #[.int .i64 k, .string ⟨#[]⟩, .int .i64 0, .slice (some ⟨q, 0, none⟩) 1 1])) W := by
  have h1 := hmd.lo; have h2 := hmd.hi; have h3 := hmd.cnt; have h4 := hmd.low
  have hce : co (e + 1) = 2 * co e + 2 := rfl
  refine ⟨o', _, i2, l2, rfl, ?_, hf, hm, ⟨by omega, by omega, by rw [hp]; omega, fun h => by omega, fun h => by have := h4 (by omega); omega, hg⟩⟩
  rw [htr]
  exact TrAt.mk_ (ks := [o.tr]) hrow (TrsAt.cons ht (TrsAt.nil _ _))
theorem post_two {w0 : World} {g : Nat} {vN vW : Value} {i : Nat} {l : Int} {b e : Nat} {w wB w2 wC w3 W : World} (o p o' : Ob) (k : Int) (htr : o'.tr = .mk k ⟨#[]⟩ 0 [o.tr, p.tr]) (hp : o'.parts = 1 + o.parts + p.parts) (hf : o'.fine) {A B : Option Addr} {c d q i1 i2 : Nat} {l1 l2 : Int}
    (ht : TrAt w.heap.size W o.tr (o.tr.at_ A c)) (ht2 : TrAt w.heap.size W p.tr (p.tr.at_ B d))
    (hrow : RowOf w.heap.size W (some ⟨q, 0, none⟩) [.int .i64 o.tr.kind, .string o.tr.s, .int .i64 o.tr.n, .slice A o.tr.ks.length c, .int .i64 p.tr.kind, .string p.tr.s, .int .i64 p.tr.n, .slice B p.tr.ks.length d])
    (hm : Mk w0 g vN vW i2 l2 b W) (hmd : Made w0 g vN vW (i + 1) (l - 1) (co e) e wB w2 o.parts i1 l1) (hmd2 : Made w0 g vN vW i1 l1 (co e) e wC w3 p.parts i2 l2) (hg : w.grownBy W (some g)) (hl : 2 ≤ l) :
    ObsPost w0 g vN vW i l b (e + 1) w (.returned (.agg #[.int .i64 k, .string ⟨#[]⟩, .int .i64 0, .slice (some ⟨q, 0, none⟩) 2 2])) W := by
  have h1 := hmd.lo; have h2 := hmd.hi; have h3 := hmd.cnt; have h4 := hmd.low (by omega)
  have h5 := hmd2.lo; have h6 := hmd2.hi; have h7 := hmd2.cnt; have h8 := hmd2.low; have h9 := hmd2.one
  have hce : co (e + 1) = 2 * co e + 2 := rfl
  refine ⟨o', _, i2, l2, rfl, ?_, hf, hm, ⟨by omega, by omega, by rw [hp]; omega, fun h => by omega, fun h => ?_, hg⟩⟩
  · rw [htr]
    exact TrAt.mk_ (ks := [o.tr, p.tr]) hrow (TrsAt.cons ht (TrsAt.cons ht2 (TrsAt.nil _ _)))
  · by_cases hh : 1 ≤ l1
    · have := h8 hh; omega
    · have := h9 (by omega); omega
end Go.Proofs.YtapbkomicihkkaaGreatDoor
