/- Slices that are read. -/
import Derived.Test.YtnekcijganhknaaGreatDoorBase
namespace Go.Proofs.YtnekcijganhknaaGreatDoor
open Go.RowKit
set_option linter.unusedVariables false
set_option linter.unusedSimpArgs false

/-- A slice that reads as a list of cells. -/
def Rd (w : World) (A : Option Addr) (xs : List Value) : Prop := ∀ j (v : Value), xs[j]? = some v → ∃ ad, A = some ad ∧ w.cell? (ad.add j) = some v
theorem Rd.below {w w1 : World} {A : Option Addr} {xs : List Value} (h : Rd w A xs) (hb : Below w.heap.size w w1) : Rd w1 A xs := fun j v hv => by
  obtain ⟨ad, e, hc⟩ := h j v hv
  exact ⟨ad, e, cell_below hb hc⟩
def byts (l : List UInt8) : List Value := l.map fun b => .int .u8 (b.toNat : Int)
theorem byts_length (l : List UInt8) : (byts l).length = l.length := by simp [byts]
theorem byts_get (l : List UInt8) (j : Nat) (h : j < l.length) : (byts l)[j]? = some (.int .u8 (l[j].toNat : Int)) := by simp [byts, h]

theorem addr_add_add (a : Addr) (i j : Nat) : (a.add i).add j = a.add (i + j) := by
  unfold Addr.add
  by_cases hi : i = 0
  · subst hi; simp
  · by_cases hj : j = 0
    · subst hj; simp [hi]
    · simp [hi, hj, show i + j ≠ 0 by omega, Nat.add_assoc]
theorem Rd.drop {w : World} {ad : Addr} {xs : List Value} (h : Rd w (some ad) xs) (k : Nat) : Rd w (some (ad.add k)) (xs.drop k) := fun j v hv => by
  rw [List.getElem?_drop] at hv
  obtain ⟨ad', e, hc⟩ := h _ _ hv
  cases e
  exact ⟨_, rfl, by rw [addr_add_add]; exact hc⟩
theorem Rd.drop' {w : World} {A : Option Addr} {xs : List Value} (h : Rd w A xs) (k : Nat) : Rd w (A.map (fun x => x.add k)) (xs.drop k) := by
  cases A with
  | none => intro j v hv; rw [List.getElem?_drop] at hv; obtain ⟨_, e, _⟩ := h _ _ hv; cases e
  | some ad => exact h.drop k
theorem Rd.nil (w : World) (A : Option Addr) : Rd w A [] := fun j v hv => by simp at hv
theorem Rd.take {w : World} {A : Option Addr} {xs : List Value} (h : Rd w A xs) (k : Nat) : Rd w A (xs.take k) := fun j v hv => by
  refine h j v ?_
  rw [List.getElem?_take] at hv
  split at hv
  · exact hv
  · cases hv
theorem byts_take (l : List UInt8) (k : Nat) : byts (l.take k) = (byts l).take k := by simp [byts]
theorem byts_drop (l : List UInt8) (k : Nat) : byts (l.drop k) = (byts l).drop k := by simp [byts]
theorem Blk.rd {w : World} {g : Nat} {cs : Array Value} {t : TypeId} (h : Blk w g cs t) : Rd w (some ⟨g, 0, none⟩) cs.toList := fun j v hv => by
  refine ⟨_, rfl, ?_⟩
  rw [show (⟨g, 0, none⟩ : Addr).add j = ⟨g, j, none⟩ by unfold Addr.add; split <;> simp_all, h.cell]
  simpa using hv
theorem Blk.rd_at {w : World} {g : Nat} {cs : Array Value} {t : TypeId} (h : Blk w g cs t) (k : Nat) : Rd w (some ⟨g, k, none⟩) (cs.toList.drop k) := by
  have := h.rd.drop k
  rwa [show (⟨g, 0, none⟩ : Addr).add k = ⟨g, k, none⟩ by unfold Addr.add; split <;> simp_all] at this

theorem Rd.of_ints {w : World} {x : Addr} {len cap : Nat} {zs : List Int} (hl : len ≤ cap) (hz : zs.length = cap) (hcell : ∀ i, i < zs.length → w.cell? (x.add i) = some (.int .u8 (zs.getD i 0))) (hwz : ∀ n ∈ zs, (Lit.int .u8 n).wf = true) :
    Rd w (some x) (byts ((zs.take len).map fun n => UInt8.ofNat n.toNat)) := by
  intro j v hv
  refine ⟨x, rfl, ?_⟩
  unfold byts at hv
  rw [List.map_map, List.getElem?_map] at hv
  cases hj : (zs.take len)[j]? with
  | none => rw [hj] at hv; cases hv
  | some n =>
    rw [hj] at hv
    rw [List.getElem?_take] at hj
    split at hj
    · have hj' : j < zs.length := by omega
      have hn : zs[j] = n := by
        rw [List.getElem?_eq_getElem hj'] at hj
        exact Option.some.inj hj
      have hb := hwz n (by rw [← hn]; exact List.getElem_mem hj')
      have hb' : 0 ≤ n ∧ n ≤ 255 := by
        simp [Lit.wf, IntKind.min, IntKind.max, IntKind.bits, IntKind.signed] at hb
        omega
      rw [hcell j hj']
      simp only [Option.map_some, Function.comp, Option.some.injEq] at hv
      rw [← hv, List.getD_eq_getElem?_getD, List.getElem?_eq_getElem hj', hn]
      simp
      omega
    · cases hj
end Go.Proofs.YtnekcijganhknaaGreatDoor
