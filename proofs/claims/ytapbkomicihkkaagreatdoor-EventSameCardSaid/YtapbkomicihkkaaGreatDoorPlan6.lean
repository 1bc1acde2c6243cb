/- A plan's contract as a tree: what is left. -/
import Derived.Test.YtapbkomicihkkaaGreatDoorPlan5
namespace Go.Proofs.YtapbkomicihkkaaGreatDoor
open Go.RowKit
set_option linter.unusedVariables false
set_option linter.unusedSimpArgs false

theorem size_set2 (w : World) (p q : Addr) (v0 v1 : Value) : ((w.setCell p v0).setCell q v1).heap.size = w.heap.size := by simp [World.setCell]
/-- How many numbers a contract's tree so deep takes at most. -/
def cot : Nat → Nat
  | 0 => 2
  | d + 1 => 2 * cot d + 20
theorem cot_two (d : Nat) : 2 ≤ cot d := by cases d <;> simp [cot]
def TmPost (w0 : World) (g : Nat) (vN vW : Value) (i : Nat) (l : Int) (b d : Nat) (w : World) : Ending → World → Prop := fun e w' =>
  ∃ (t : Tm) (v : Value) (i' : Nat) (l' : Int) (b' : Nat), e = .returned v ∧ TrAt w.heap.size w' t.tr v ∧ t.fine ∧ Mk w0 g vN vW i' l' b' w' ∧ (b ≤ b' ∧ b' ≤ b + cot d) ∧ Made w0 g vN vW i l (cot d) d w w' t.parts i' l'
/-- How it stands ahead of the end: the tree lies in the local t. -/
structure TmMid (w0 : World) (g : Nat) (vN vW : Value) (i : Nat) (l : Int) (b d : Nat) (w : World) (r u : Nat) (t : Tm) (A : Option Addr) (c i' : Nat) (l' : Int) (b' : Nat) (W : World) : Prop where
  res : Blk W r #[.int .i64 0, .string ⟨#[]⟩, .int .i64 0, .slice none 0 0] 33
  loc : Blk W u #[.int .i64 t.tr.kind, .string t.tr.s, .int .i64 t.tr.n, .slice A t.tr.ks.length c] 33
  tr : TrAt (r + 1) W t.tr (t.tr.at_ A c)
  fine : t.fine
  maker : Mk w0 g vN vW i' l' b' W
  lab : b ≤ b' ∧ b' ≤ b + cot d
  made : Made w0 g vN vW i l (cot d) d w W t.parts i' l'
theorem TmMid.post {w0 : World} {g : Nat} {vN vW : Value} {i : Nat} {l : Int} {b d : Nat} {w : World} {r u : Nat} {t : Tm} {A : Option Addr} {c i' : Nat} {l' : Int} {b' : Nat} {W : World} (h : TmMid w0 g vN vW i l b d w r u t A c i' l' b' W) (hr : w.heap.size = r) (hrg : r ≠ g) (hr0 : w0.heap.size ≤ r) :
    TmPost w0 g vN vW i l b d w (.returned (.agg #[.int .i64 t.tr.kind, .string t.tr.s, .int .i64 t.tr.n, .slice A t.tr.ks.length c])) ((((W.setCell ⟨r, 0, none⟩ (.int .i64 t.tr.kind)).setCell ⟨r, 1, none⟩ (.string t.tr.s)).setCell ⟨r, 2, none⟩ (.int .i64 t.tr.n)).setCell ⟨r, 3, none⟩ (.slice A t.tr.ks.length c)) := by
  have hM := h.made
  exact ⟨t, _, i', l', b', rfl, (h.tr.set4 (by omega) _ _ _ _).mono (by omega), h.fine, h.maker.set4 r hrg hr0 _ _ _ _, h.lab, ⟨hM.lo, hM.hi, hM.cnt, hM.one, hM.low, gb_set4 hM.gb r (by omega) _ _ _ _⟩⟩
/-- A leaf in the local. -/
theorem mid_leaf {w0 : World} {g : Nat} {vN vW : Value} {i i' : Nat} {l : Int} {b d : Nat} {w W : World} {r u : Nat} (t : Tm) (k : Int) (s : ByteArray) (htr : t.tr = .mk k s 0 []) (hp : t.parts = 1) (hf : t.fine)
    (hres : Blk W r #[.int .i64 0, .string ⟨#[]⟩, .int .i64 0, .slice none 0 0] 33) (hloc : Blk W u #[.int .i64 k, .string s, .int .i64 0, .slice none 0 0] 33)
    (hm : Mk w0 g vN vW i' (l - 1) b W) (hi : i ≤ i' ∧ i' ≤ i + 2) (hg : w.grownBy W (some g)) : TmMid w0 g vN vW i l b d w r u t none 0 i' (l - 1) b W := by
  have hc := cot_two d
  have htA : TrAt (r + 1) W t.tr (t.tr.at_ none 0) := by rw [htr]; exact TrAt.leaf _ _ _ _ _ _
  exact ⟨hres, by rw [htr]; exact hloc, htA, hf, hm, ⟨by omega, by omega⟩, ⟨by omega, by omega, by rw [hp]; omega, fun _ => hp, fun h => by omega, hg⟩⟩
/-- A tree with parts in the local. -/
theorem mid_row {w0 : World} {g : Nat} {vN vW : Value} {i i' : Nat} {l l' : Int} {b b' d : Nat} {w W : World} {r u : Nat} (t : Tm) (k : Int) (s : ByteArray) (n : Int) (ks : List Tr) (m : Nat) (htr : t.tr = .mk k s n ks) (hm : m = ks.length) (hf : t.fine) {q : Nat} {cs : List Value}
    (hres : Blk W r #[.int .i64 0, .string ⟨#[]⟩, .int .i64 0, .slice none 0 0] 33) (hloc : Blk W u #[.int .i64 k, .string s, .int .i64 n, .slice (some ⟨q, 0, none⟩) m m] 33)
    (hrow : RowOf (r + 1) W (some ⟨q, 0, none⟩) cs) (hts : TrsAt (r + 1) W ks cs) (hmk : Mk w0 g vN vW i' l' b' W) (hb : b ≤ b' ∧ b' ≤ b + cot d) (hmade : Made w0 g vN vW i l (cot d) d w W t.parts i' l') :
    TmMid w0 g vN vW i l b d w r u t (some ⟨q, 0, none⟩) m i' l' b' W := by
  subst hm
  have htA : TrAt (r + 1) W t.tr (t.tr.at_ (some ⟨q, 0, none⟩) ks.length) := by rw [htr]; exact TrAt.mk_ hrow hts
  exact ⟨hres, by rw [htr]; exact hloc, htA, hf, hmk, hb, hmade⟩
end Go.Proofs.YtapbkomicihkkaaGreatDoor
