/- An entry is added to a chain: the walk's pieces. -/
import Derived.Test.YtapbkomicihkkaaDoorChn4
import Derived.Test.YtapbkomicihkkaaDoorGate
import Derived.Deep.RegionWith
namespace Go.Proofs.YtapbkomicihkkaaDoor
open Go.RowKit
set_option linter.unusedVariables false
set_option linter.unusedSimpArgs false

/-- Two cells that are held until their takers have come up, and what stands throughout. -/
def S2 (k1 k2 : Nat) (A B C : World → Prop) (l : Array Bool) (w : World) : Prop := (l.getD k1 true = false → A w) ∧ (l.getD k2 true = false → B w) ∧ C w
theorem S2.mono {k1 k2 i : Nat} {A B C : World → Prop} {l : Array Bool} {w : World} (h1 : i ≠ k1) (h2 : i ≠ k2) (h : S2 k1 k2 A B C (l.setIfInBounds i true) w) : S2 k1 k2 A B C l w :=
  ⟨fun q => h.1 (by rw [getD_set_ne true h1]; exact q), fun q => h.2.1 (by rw [getD_set_ne true h2]; exact q), h.2.2⟩
theorem S2.mk {k1 k2 : Nat} {A B C : World → Prop} {l : Array Bool} {w : World} (a : A w) (b : B w) (c : C w) : S2 k1 k2 A B C l w := ⟨fun _ => a, fun _ => b, c⟩
theorem S2.late {k1 k2 : Nat} {A B C : World → Prop} {l : Array Bool} {w : World} (h1 : l.getD k1 true = true) (h2 : l.getD k2 true = true) (c : C w) : S2 k1 k2 A B C l w :=
  ⟨fun q => Bool.false_ne_true (q.symm.trans h1) |>.elim, fun q => Bool.false_ne_true (q.symm.trans h2) |>.elim, c⟩
theorem joinG {P : Act → World → Prop} {G : Prop} (T : Act → World → Prop) (main : (∀ A W, T A W → P A W) → G) (kp : ∀ A W, T A W → P A W) : G := main kp
theorem Own.rd {w0 W : World} {e size n c : Nat} {A : Option Addr} {xs : List Value} (h : Own w0 W e size (.slice A n c) n xs) : Rd W A xs := by
  obtain ⟨A1, c1, hv, hR, -, -⟩ := h.read
  injection hv with h1 _ _
  subst h1
  exact hR
theorem Kn.ev {A : Act} {l : List (Nat × Value)} (h : Kn A l) (k : Nat) {v : Value} (e : atK k l = some v) : A.eval (.tmp k) = v := by
  have := h.get k e
  show A.tmps.getD k undef = v
  simpa using this
/-- What an owned slice's block is not. -/
theorem Own.ne_old {w0 W : World} {e size n g : Nat} {v : Value} {xs : List Value} (h : Own w0 W e size v n xs) (hg : g < w0.heap.size) : v.ownBlock ≠ some g := fun e => by
  have := Own.at_base h g e
  omega
theorem bs_en7 (k d v : Int) (x1 x2 x3 x4 : ByteArray) (x7 : Value) (b : Bool) (h7 : IsI x7) (W : World) : (Instr.buildSlice 90 1 #[(0, .agg #[.int .i64 k, .string x1, .string x2, .string x3, .string x4, .int .i64 d, .int .i64 v, x7, .bool b])]).run Tryd.prog W = .ok (.slice (some ⟨W.heap.size, 0, none⟩) 1 1) (W.alloc (.cells #[.int .i64 k, .string x1, .string x2, .string x3, .string x4, .int .i64 d, .int .i64 v, x7, .bool b] 86)) := by
  rcases h7 with rfl | ⟨_, _, rfl⟩ <;> kernel_rfl
theorem bs_en (x : En) (h : x.ev.ok) (W : World) : (Instr.buildSlice 90 1 #[(0, x.val)]).run Tryd.prog W = .ok (.slice (some ⟨W.heap.size, 0, none⟩) 1 1) (W.alloc (.cells x.cells 86)) :=
  bs_en7 _ _ _ _ _ _ _ _ _ (x.ev.term.isI h.term) W
def Ch.add (c : Ch) (x : En) : Ch × Int := if 64 ≤ c.es.length then (c, 5) else if x.ev.check = 0 then (⟨c.key, c.es ++ [x], c.hs ++ [x.next c.key c.head]⟩, 0) else (c, x.ev.check)
def RetAdd (w0 w : World) (g : Nat) (r : Ch × Int) (en : Ending) (w' : World) : Prop := en = .returned (.int .i64 r.2) ∧ ChAt w0 w' g r.1 ∧ w.grownBy w' (some g) ∧ (r.2 = 0 → ChAt w w' g r.1)
def ChC (key : List UInt8) (vl vh : Value) : Array Value := (byts key ++ [vl, vh]).toArray
theorem ChC_get {key : List UInt8} (hk : key.length = 16) (vl vh : Value) : (ChC key vl vh)[16]? = some vl ∧ (ChC key vl vh)[17]? = some vh := chcells hk vl vh
theorem ChC_set {key : List UInt8} (hk : key.length = 16) (vl vh v u : Value) : ((ChC key vl vh).setIfInBounds 16 v).setIfInBounds 17 u = ChC key v u := by
  obtain ⟨k0, k1, k2, k3, k4, k5, k6, k7, k8, k9, k10, k11, k12, k13, k14, k15, rfl⟩ := sixteen hk
  rfl
theorem isU_head {c : Ch} (ho : c.ok) : isU c.head := by
  unfold Ch.head
  have hl := ho.len
  rw [List.getD_eq_getElem?_getD, List.getElem?_eq_getElem (by omega)]
  exact ho.hs _ (List.getElem_mem _)
theorem isU_next (key : List UInt8) (h : Int) (x : En) : isU (x.next key h) := by
  unfold En.next
  split
  · exact isU_sipSum _ _
  · exact ⟨by decide, by decide⟩
theorem Ch.add_ok {c : Ch} (ho : c.ok) (x : En) (hx : x.ev.small) : (c.add x).1.ok := by
  unfold Ch.add
  split
  · exact ho
  split
  · refine ⟨ho.key, ?_, ?_, ?_, ?_⟩
    · have := ho.len; simp; omega
    · intro y hy
      rcases List.mem_append.1 hy with h | h
      · exact ho.es y h
      · obtain rfl : y = x := by simpa using h
        exact hx
    · intro y hy
      rcases List.mem_append.1 hy with h | h
      · exact ho.hs y h
      · obtain rfl : y = x.next c.key c.head := by simpa using h
        exact isU_next _ _ _
    · simp; omega
  · exact ho
end Go.Proofs.YtapbkomicihkkaaDoor
