/- Several cells of a block written one after the other. -/
import Derived.Test.YtapbkomicihkkaaDoorPlan1
namespace Go.Proofs.YtapbkomicihkkaaDoor
open Go.RowKit
set_option linter.unusedVariables false
set_option linter.unusedSimpArgs false

def wsets (w : World) (r : Nat) (l : List (Nat × Value)) : World := l.foldl (fun w p => w.setCell ⟨r, p.1, none⟩ p.2) w
theorem gb_sets (r : Nat) : ∀ (l : List (Nat × Value)) (w : World), w.grownBy (wsets w r l) (some r)
  | [], w => gb_refl w _
  | p :: l, w => gb_trans (gb_set p.1 p.2) (gb_sets r l _)
theorem wsets_size (r : Nat) : ∀ (l : List (Nat × Value)) (w : World), (wsets w r l).heap.size = w.heap.size
  | [], w => rfl
  | p :: l, w => (wsets_size r l _).trans (by simp [World.setCell])
theorem Blk.sets {r : Nat} {t : TypeId} : ∀ (l : List (Nat × Value)) {w : World} {cs : Array Value}, Blk w r cs t → Blk (wsets w r l) r (l.foldl (fun c p => c.setIfInBounds p.1 p.2) cs) t
  | [], w, cs, h => h
  | p :: l, w, cs, h => Blk.sets l (h.set p.1 p.2)
theorem Blk.sets_far {r g : Nat} {t : TypeId} {cs : Array Value} {w : World} (l : List (Nat × Value)) (h : Blk w g cs t) (hne : g ≠ r) : Blk (wsets w r l) g cs t := h.grown (gb_sets r l w) (fun e => hne (by injection e with e; exact e.symm))
theorem bl_sets {w W : World} (h : Below w.heap.size w W) (r : Nat) (hr : w.heap.size ≤ r) (l : List (Nat × Value)) : Below w.heap.size w (wsets W r l) := bl_grown h (gb_sets r l W) hr
theorem TrAt.sets {x r : Nat} {w : World} {t : Tr} {v : Value} (h : TrAt x w t v) (hx : r < x) (l : List (Nat × Value)) : TrAt x (wsets w r l) t v := h.grown (gb_sets r l w) hx
theorem bl_grownB {B : Nat} {w W w' : World} {g : Nat} (h : Below B w W) (k : W.grownBy w' (some g)) (hg : B ≤ g) (hs : B ≤ W.heap.size) : Below B w w' :=
  h.grown k hs (fun j hj => by cases hj; exact hg)
theorem Blk.alloc {w : World} {g : Nat} {cs : Array Value} {t : TypeId} (h : Blk w g cs t) (o : Obj) : Blk (w.alloc o) g cs t := h.below (bl_alloc (bl_refl w) o)
theorem Blk.setE {w : World} {g j : Nat} {cs cs' : Array Value} {t : TypeId} {v : Value} (h : Blk w g cs t) (e : cs.setIfInBounds j v = cs') : Blk (w.setCell ⟨g, j, none⟩ v) g cs' t := e ▸ h.set j v
theorem bl_setJ {w W : World} {g j : Nat} {v : Value} (h : Below w.heap.size w W) (hg : w.heap.size ≤ g) : Below w.heap.size w (W.setCell ⟨g, j, none⟩ v) := bl_grown h (gb_set j v) hg
/-- A world in the midst of a drawn region, known by what stands in it alone. -/
theorem wpAnyH_world {P : Program} {ops : Array Oper} {Q : Exit → Act → World → Prop} {md : Region.Mode} {S : World → Prop} {fuel : Nat} {listed : Array Bool} {a : Act} {w : World} (T : World → Prop) (hT : T w) (h : ∀ w, T w → wpAnyH P md ops Q S fuel listed a w) : wpAnyH P md ops Q S fuel listed a w := h w hT
/-- Several ways through a drawn region meet: what is left is shown once. -/
theorem join2 {P : Nat → World → Prop} {G : Prop} (T : Nat → World → Prop) (main : (∀ q W, T q W → P q W) → G) (kp : ∀ q W, T q W → P q W) : G := main kp
end Go.Proofs.YtapbkomicihkkaaDoor
