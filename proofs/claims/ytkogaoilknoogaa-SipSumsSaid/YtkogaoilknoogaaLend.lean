/- Bytes that are lent, with room behind them; and whether they are as they were. -/
import Derived.Test.YtkogaoilknoogaaBytes3
import Derived.Test.YtkogaoilknoogaaFill
import Derived.Laws.CopyOwn
import Derived.Laws.MakeOwn
import Derived.BigQuiet
import Derived.Deep.QuietTactic
namespace Go.Proofs.Ytkogaoilknoogaa
open Go.RowKit

/-- The bytes, and the three behind them. -/
def lentV (l : List UInt8) : List Value := byts l ++ [.int .u8 85, .int .u8 85, .int .u8 85]
theorem lentV_length (l : List UInt8) : (lentV l).length = l.length + 3 := by simp [lentV, byts_length]
def lentF (l : List UInt8) (j : Nat) : Value := (lentV l)[j]?.getD (.int .u8 0)
theorem lentF_all (l : List UInt8) : (List.range (l.length + 3)).map (lentF l) = lentV l := by
  apply List.ext_getElem?
  intro j
  by_cases h : j < l.length + 3
  · rw [List.getElem?_map, List.getElem?_range h]
    have : j < (lentV l).length := by rw [lentV_length]; exact h
    simp [lentF, this]
  · rw [List.getElem?_eq_none (by simp; omega), List.getElem?_eq_none (by rw [lentV_length]; omega)]
theorem lentF_tail (l : List UInt8) (j : Nat) (h1 : l.length ≤ j) (h2 : j < l.length + 3) : lentF l j = .int .u8 85 := by
  unfold lentF lentV
  rw [List.getElem?_append_right (by rw [byts_length]; exact h1), byts_length]
  obtain ⟨k, rfl⟩ := Nat.exists_eq_add_of_le h1
  rw [Nat.add_sub_cancel_left]
  match k, (show k < 3 by omega) with
  | 0, _ | 1, _ | 2, _ => rfl
theorem lent_at (l : List UInt8) (j : Nat) (h : j < l.length) : (lentV l)[j]? = some (.int .u8 (l[j].toNat : Int)) := by
  unfold lentV
  rw [List.getElem?_append_left (by rw [byts_length]; exact h)]
  exact byts_get l j h
theorem lent_tail (l : List UInt8) (j : Nat) (h1 : l.length ≤ j) (h2 : j < l.length + 3) : (lentV l)[j]? = some (.int .u8 85) := by
  have := lentF_tail l j h1 h2
  unfold lentF at this
  have h3 : j < (lentV l).length := by rw [lentV_length]; exact h2
  rw [List.getElem?_eq_getElem h3] at this ⊢
  simpa using this
theorem lent_splice (l : List UInt8) : splice (List.replicate (l.length + 3) (.int .u8 0)) 0 (byts l) = (filled (l.length + 3) l.length (lentF l) (.int .u8 0)).toList := by
  apply List.ext_getElem?
  intro j
  unfold splice
  rw [List.take_zero, List.nil_append, byts_length, List.drop_replicate, Array.getElem?_toList (xs := filled (l.length + 3) l.length (lentF l) (.int .u8 0))]
  by_cases h : j < l.length + 3
  · rw [filled_get _ _ _ _ j h]
    by_cases h1 : j < l.length
    · rw [List.getElem?_append_left (by rw [byts_length]; exact h1), if_pos h1]
      unfold lentF
      rw [lent_at l j h1]
      exact byts_get l j h1
    · rw [List.getElem?_append_right (by rw [byts_length]; omega), if_neg h1, byts_length, List.getElem?_replicate, if_pos (by omega)]
  · rw [List.getElem?_eq_none (by simp [byts_length]; omega), Array.getElem?_eq_none (by rw [filled_size]; omega)]
theorem make_lend (n : Nat) (hm : n ≤ 1000000) (W : World) : (Instr.makeSlice 22 (.int .i64 (n : Int)) (.int .i64 ((n : Int) + 3))).run Try.prog W = .ok (.slice (some ⟨W.heap.size, 0, none⟩) n (n + 3)) (W.alloc (.cells (List.replicate (n + 3) (.int .u8 0)).toArray 5)) := by
  obtain ⟨i0, hi, hzz⟩ := Option.map_eq_some_iff.1 info_u8
  simp only [Prod.mk.injEq] at hzz
  obtain ⟨hz0, hz1, hz2⟩ := hzz
  have h := run_makeSlice (P := Try.prog) (w := W) 22 5 i0 (.int .u8 0) Try.underlying22 hi hz0 .i64 .i64 (n : Int) ((n : Int) + 3) (by omega) (by omega) (by rw [hz1]; omega) (by rw [hz2]; omega) (by omega)
  rw [h]
  rw [show ((n : Int) + 3).toNat = n + 3 by omega, Int.toNat_natCast, hz1]
  congr 3
  rw [Nat.mul_one]
  apply Array.ext
  · simp [madeCells]
  · intro j h1 h2
    simp [madeCells, Value.cells, Nat.mod_one]
/-- What Lend returns. -/
def RetLent (w : World) (l : List UInt8) (n : Nat) (en : Ending) (w' : World) : Prop := ∃ g, en = .returned (.slice (some ⟨g, 0, none⟩) n (n + 3)) ∧ w.heap.size ≤ g ∧ Blk w' g (lentV l).toArray 5 ∧ Below w.heap.size w w'

set_option maxRecDepth 100000 in
set_option maxHeartbeats 1000000 in
theorem lend_calls (A : Option Addr) (n c : Nat) (l : List UInt8) (hn : l.length = n) (hl : n ≤ 1000) (w : World) (hr : Rd w A (byts l)) :
    Calls Try.prog 19 #[.slice A n c] w (RetLent w l n) := by
  have hmk := make_lend n (by omega)
  obtain ⟨Z, hZ⟩ : ∃ Z, List.replicate (n + 3) (Value.int .u8 0) = Z := ⟨_, rfl⟩
  rw [hZ] at hmk
  have HZ := Lib.hid hZ
  clear hZ
  have HR := Lib.hid hr
  have HN := Lib.hid hn
  clear hr hn
  obtain ⟨X, hX⟩ : ∃ X, byts l = X := ⟨_, rfl⟩
  have HX := Lib.hid hX
  clear hX
  go_enter Try.func19, Try.ntmps19
  go_wp2_with (refine wpList_copy_splice (o := ⟨some 14, _, _, _, _, _⟩) rfl (.tmp 12) (.tmp 13) 22 22 rfl 5 Try.underlying22 (by kernel_rfl) _ A _ _ n c rfl rfl w.heap.size 0 Z 5 (Blk.new w Z.toArray 5) X ?c1 ?c2 ?c3 ?c4 w.heap.size w (bl_alloc (bl_refl w) _) (Nat.le_refl _) ?c5)
  case c1 => rw [← HX.out, byts_length, HN.out]; exact (Nat.min_self _).symm
  case c2 =>
    intro hp
    have hrd : Rd (w.alloc (.cells Z.toArray 5)) A X := by
      rw [← HX.out]
      exact HR.out.below (bl_alloc (bl_refl w) _)
    obtain ⟨y, hy⟩ : ∃ y, X[0]? = some y := ⟨X[0], by simp [hp]⟩
    obtain ⟨ad, e, _⟩ := hrd 0 y hy
    refine ⟨ad, e, ?_⟩
    intro j v hv
    obtain ⟨ad', e', hc⟩ := hrd j v hv
    rw [e] at e'; cases e'
    exact hc
  case c3 => rw [← HX.out, byts_length, HN.out, ← HZ.out]; simp
  case c4 => rw [← HX.out]; exact byts_one _
  intro w2 HG hB
  have hb : Blk w2 w.heap.size (filled (n + 3) n (lentF l) (.int .u8 0)) 5 := by
    have h1 := HG.out
    have h2 := lent_splice l
    rw [HN.out, HX.out, HZ.out] at h2
    rw [h2] at h1
    exact h1
  clear HG HX HR HZ
  have hcc : (n : Int) + 3 ≤ ((n + 3 : Nat) : Int) := by omega
  go_wp2_with fail
  go_loopw [5] (fun i wr => ∃ j : Nat, n ≤ j ∧ j ≤ n + 3 ∧ i = .int .i64 j ∧ Blk wr w.heap.size (filled (n + 3) j (lentF l) (.int .u8 0)) 5 ∧ Below w.heap.size w wr) (fun i _ => n + 3 - (intOf i).toNat)
  case atStart => exact ⟨n, by omega, by omega, rfl, hb, hB⟩
  case round =>
    clear hb hB
    obtain ⟨j, hnj, hj, rfl, hb, hB⟩ := hrel
    by_cases hlt : j < n + 3
    · have hc := (hb.cell j).trans (filled_get (n + 3) j _ _ j hlt)
      have hf := hb.frozen j
      rw [if_neg (Nat.lt_irrefl _)] at hc
      have ht := lentF_tail l j (by rw [HN.out]; exact hnj) (by rw [HN.out]; exact hlt)
      have HT := Lib.hid ht
      clear ht
      go_wp2_with fail
      go_roundw
      case rel => exact ⟨j + 1, by omega, by omega, by go_num, by rw [← filled_set, HT.out]; exact hb.set j _, hB.setCell (by simp) _⟩
      case measure => simp [intOf]; omega
    · obtain rfl : j = n + 3 := by omega
      rw [← HN.out, filled_all, lentF_all] at hb
      go_wp2_with fail
      go_ret
      exact ⟨_, rfl, Nat.le_refl _, hb, hB⟩

set_option maxRecDepth 100000 in
set_option maxHeartbeats 1000000 in
theorem intact_calls (A : Option Addr) (n c g : Nat) (l : List UInt8) (hn : l.length = n) (hl : n ≤ 1000) (w : World) (hr : Rd w A (byts l)) (hb : Blk w g (lentV l).toArray 5) :
    Calls Try.prog 20 #[.slice (some ⟨g, 0, none⟩) n (n + 3), .slice A n c] w fun e w' => e = .returned (.bool true) ∧ Below w.heap.size w w' := by
  have HR := Lib.hid hr
  have HN := Lib.hid hn
  have HB := Lib.hid hb
  clear hr hn hb
  have hcc : (n : Int) + 3 ≤ ((n + 3 : Nat) : Int) := by omega
  have hc2 : ((((n + 3 : Nat) : Int)) != (n : Int) + 3) = false := by simp only [bne_eq_false_iff_eq]; omega
  go_enter Try.func20, Try.ntmps20
  go_wp2_with fail
  go_loopw [27] (fun i wr => ∃ j : Nat, j ≤ n + 3 ∧ i = .int .i64 j ∧ Below w.heap.size w wr) (fun i _ => n + 3 - (intOf i).toNat)
  case atStart => exact ⟨0, by omega, rfl, bl_refl w⟩
  case round =>
    obtain ⟨j, hj, rfl, hB⟩ := hrel
    by_cases hlt : j < n + 3
    · have hbw := HB.out.below hB
      have hrw := HR.out.below hB
      have hj3 : (j : Int) < (n : Int) + 3 := by omega
      have hj4 : (j : Int) < ((n + 3 : Nat) : Int) := by omega
      have hj0 : (0 : Int) ≤ (j : Int) := by omega
      have hcb := hbw.cell j
      by_cases h1 : j < n
      · have hx : Hid (∃ x : Int, (lentV l).toArray[j]? = some (.int .u8 x) ∧ (byts l)[j]? = some (.int .u8 x)) := by
          show ∃ x : Int, _
          have h2 : j < l.length := by rw [HN.out]; exact h1
          exact ⟨l[j].toNat, by simpa using lent_at l j h2, byts_get l j h2⟩
        obtain ⟨x, e1, e2⟩ := hx.out
        rw [e1] at hcb
        obtain ⟨ad, rfl, hca⟩ := hrw j _ e2
        have h2 : decide (j < n) = true := by simp; omega
        have h3 : decide (n ≤ j) = false := by simp; omega
        have h4 : (j : Int) < (n : Int) := by omega
        clear e1 e2 hx hbw hrw
        go_wp2_with fail
        go_quiet (fail)
        go_wp2_with fail
        go_roundw
        case rel => exact ⟨j + 1, by omega, by go_num, bl_drewN hB _⟩
        case measure => simp [intOf]; omega
      · have e1 : (lentV l).toArray[j]? = some (.int .u8 85) := by
          have := lent_tail l j (by rw [HN.out]; omega) (by rw [HN.out]; exact hlt)
          simpa using this
        rw [e1] at hcb
        have h2 : decide (j < n) = false := by simp; omega
        have h3 : decide (n ≤ j) = true := by simp; omega
        clear e1 hbw hrw
        go_wp2_with fail
        go_quiet (fail)
        go_wp2_with fail
        go_roundw
        case rel => exact ⟨j + 1, by omega, by go_num, bl_drewN hB _⟩
        case measure => simp [intOf]; omega
    · obtain rfl : j = n + 3 := by omega
      go_wp2_with fail
      go_ret
      exact ⟨rfl, hB⟩
end Go.Proofs.Ytkogaoilknoogaa
