/- A plan's number as a tree. -/
import Derived.Test.YtapbkomicihkkaaGreatDoorPlan1
import Derived.Deep.RegionWith
import Derived.Test.YtapbkomicihkkaaGreatDoorDoAG
import Derived.Handy
namespace Go.Proofs.YtapbkomicihkkaaGreatDoor
open Go.RowKit
set_option linter.unusedVariables false
set_option linter.unusedSimpArgs false

theorem gb_drewN {w W : World} {r : Option Nat} (h : w.grownBy W r) (n : Nat) : w.grownBy (W.drewN n) r := ⟨h.os, h.tape, h.output, h.size, h.block⟩
theorem gb_setW {w W : World} {g : Nat} (h : w.grownBy W (some g)) (j : Nat) (v : Value) : w.grownBy (W.setCell ⟨g, j, none⟩ v) (some g) := gb_trans h (gb_set j v)
theorem text_calls (s : ByteArray) (n : Nat) (hs : s.size ≤ 9223372036854775807) (hn : n ≤ 140737488355328) (w : World) :
    Calls Tryz.prog 35 #[.string s, .int .i64 n] w fun e w' => e = .returned (.string (s.extract 0 (min s.size n))) ∧ w' = w := by
  go_enter Tryz.func35, Tryz.ntmps35
  go_wp2
  go_ret
  have e : (min (s.size : Int) (n : Int)).toNat = min s.size n := by omega
  simp [e]
set_option maxRecDepth 100000 in
set_option maxHeartbeats 1000000 in
theorem n_calls (w0 w : World) (g : Nat) (vN vW : Value) (i : Nat) (l : Int) (b : Nat) (hm : Mk w0 g vN vW i l b w) (hi : i ≤ 1000000000000) (of : Int) (h0 : 1 ≤ of ∧ of ≤ 140737488355328) :
    Calls Tryz.prog 119 #[.pointer (some ⟨g, 0, none⟩), .int .i64 of] w fun e w' => ∃ v, e = .returned (.int .i64 v) ∧ 0 ≤ v ∧ v < of ∧ Mk w0 g vN vW (i + 1) l b w' ∧ w.grownBy w' (some g) := by
  obtain ⟨A, n, c, xs, rfl, hr, hx, hn, hv⟩ := hm.plan.nums
  have c0 := hm.blk.cell 0
  have c2 := hm.blk.cell 2
  have z2 := hm.blk.frozen 2
  have e0 : (#[Value.slice A n c, vW, .int .i64 (i : Int), .int .i64 l, .int .i64 (b : Int)] : Array Value)[0]? = some (.slice A n c) := rfl
  have e2 : (#[Value.slice A n c, vW, .int .i64 (i : Int), .int .i64 l, .int .i64 (b : Int)] : Array Value)[2]? = some (.int .i64 (i : Int)) := rfl
  rw [e0] at c0
  rw [e2] at c2
  have HM := Lib.hid hm
  clear e0 e2 hm
  have hof := h0.1
  have hmk : ∀ W, Mk w0 g (.slice A n c) vW i l b W → Mk w0 g (.slice A n c) vW (i + 1) l b (W.setCell ⟨g, 2, none⟩ (.int .i64 ((i : Int) + 1))) := fun W h =>
    ⟨by have := h.blk.set 2 (.int .i64 ((i : Int) + 1)); exact this, h.hg, bl_grown h.bel (gb_set 2 _) h.hg, h.plan⟩
  have HMK := Lib.hid hmk
  clear hmk
  have hw0 := fun (v : Int) (w : World) (hv : -9223372036854775808 ≤ v ∧ v ≤ 9223372036854775807) => within_calls v of w hv h0
  have HW0 := Lib.hid hw0
  clear hw0 h0
  by_cases hlt : i < n
  · have hxi : xs[i]? = some xs[i]! := by rw [getElem!_pos xs i (by omega)]; exact List.getElem?_eq_getElem _
    obtain ⟨ad, rfl, hc⟩ := hr i _ hxi
    obtain ⟨v, hvv, hvb⟩ := hv i _ hxi
    rw [hvv] at hc
    have hc' := cell_below HM.out.bel hc
    clear hxi hvv hv hr hc
    have hltI : (i : Int) < (n : Int) := by omega
    have h0I : (0 : Int) ≤ (i : Int) := by omega
    have HX := Lib.hid hx
    clear hx
    go_enter Tryz.func119, Tryz.ntmps119
    go_wp2_with fail
    go_quiet (fail)
    go_wp2_with fail
    go_quiet (fail)
    go_wp2_with fail
    refine (HW0.out v _ hvb).mono ?_
    rintro e w1 ⟨rfl, rfl⟩
    go_wp2_with fail
    go_ret
    refine ⟨_, rfl, Int.emod_nonneg v (by omega), Int.emod_lt_of_pos v (by omega), HMK.out _ ⟨HM.out.blk, HM.out.hg, bl_drewN HM.out.bel _, HM.out.plan⟩, gb_setW (gb_drewN (gb_refl _ _) _) _ _⟩
  · have hltI : ¬ (i : Int) < (n : Int) := by omega
    go_enter Tryz.func119, Tryz.ntmps119
    go_wp2_with fail
    go_quiet (fail)
    go_wp2_with fail
    refine (HW0.out 0 _ (by omega)).mono ?_
    rintro e w1 ⟨rfl, rfl⟩
    go_wp2_with fail
    go_ret
    refine ⟨_, rfl, by simp, (by show 0 % of < of; rw [Int.zero_emod]; omega), HMK.out _ ⟨HM.out.blk, HM.out.hg, bl_drewN HM.out.bel _, HM.out.plan⟩, gb_setW (gb_drewN (gb_refl _ _) _) _ _⟩
end Go.Proofs.YtapbkomicihkkaaGreatDoor
namespace Go.Proofs.YtapbkomicihkkaaGreatDoor
open Go.RowKit
set_option linter.unusedVariables false
set_option linter.unusedSimpArgs false

set_option maxRecDepth 100000 in
set_option maxHeartbeats 2000000 in
theorem word_calls (w0 w : World) (g : Nat) (vN vW : Value) (i : Nat) (l : Int) (b : Nat) (hm : Mk w0 g vN vW i l b w) (hi : i ≤ 1000000000000) (bl : Nat) (hbl : bl ≠ g) (s0 s1 s2 : ByteArray) (t : TypeId) (hk : Blk w bl #[.string s0, .string s1, .string s2] t)
    (h0 : s0.size ≤ 14) (h1 : s1.size ≤ 14) (h2 : s2.size ≤ 14) :
    Calls Tryz.prog 120 #[.pointer (some ⟨g, 0, none⟩), .slice (some ⟨bl, 0, none⟩) 3 3] w fun e w' => ∃ s, e = .returned (.string s) ∧ s.size ≤ 14 ∧ Mk w0 g vN vW (i + 1) l b w' ∧ w.grownBy w' (some g) := by
  have hn := n_calls w0 w g vN vW i l b hm hi 9 (by omega)
  go_enter Tryz.func120, Tryz.ntmps120
  go_wp2_with fail
  refine (hn).mono ?_
  rintro e w1 ⟨k, rfl, hk0, hk1, hm1, hg1⟩
  clear hn
  have hk' := hk.grown hg1 (fun e => hbl (by injection e with e; exact e.symm))
  have q0 := hk'.cell 0
  have q1 := hk'.cell 1
  have q2 := hk'.cell 2
  have e0 : (#[Value.string s0, .string s1, .string s2] : Array Value)[0]? = some (.string s0) := rfl
  have e1 : (#[Value.string s0, .string s1, .string s2] : Array Value)[1]? = some (.string s1) := rfl
  have e2 : (#[Value.string s0, .string s1, .string s2] : Array Value)[2]? = some (.string s2) := rfl
  rw [e0] at q0
  rw [e1] at q1
  rw [e2] at q2
  clear e0 e1 e2 hk hk'
  have HG := Lib.hid hg1
  have HM := Lib.hid hm1
  clear hg1
  by_cases h3 : 3 ≤ k
  · obtain ⟨A, n, c, xs, rfl, hr, hx, hn, hv⟩ := hm1.plan.words
    have c1 := hm1.blk.cell 1
    have e1 : (#[vN, Value.slice A n c, .int .i64 ((i + 1 : Nat) : Int), .int .i64 l, .int .i64 (b : Int)] : Array Value)[1]? = some (.slice A n c) := rfl
    rw [e1] at c1
    clear e1 hm hm1
    by_cases hn0 : 0 < n
    · by_cases h7 : k = 7
      · subst h7
        have hmod : ((7 : Int)).tmod (n : Int) = ((7 % n : Nat) : Int) := by rw [Int.tmod_eq_emod_of_nonneg (by omega)]; rfl
        have hml : 7 % n < n := Nat.mod_lt _ hn0
        have hxi : xs[7 % n]? = some xs[7 % n]! := by rw [getElem!_pos xs (7 % n) (by omega)]; exact List.getElem?_eq_getElem _
        obtain ⟨ad, rfl, hc⟩ := hr _ _ hxi
        obtain ⟨s, hs, hss⟩ := hv _ _ hxi
        rw [hs] at hc
        have hc' := cell_below HM.out.bel hc
        have htx : ∀ w, Calls Tryz.prog 35 #[.string s, .int .i64 14] w fun e w' => e = .returned (.string (s.extract 0 (min s.size 14))) ∧ w' = w := fun w => text_calls s 14 hss (by omega) w
        have hts : (s.extract 0 (min s.size 14)).size ≤ 14 := by simp; omega
        generalize s.extract 0 (min s.size 14) = S at *
        clear hxi hs hc hr hv
        have HTX := Lib.hid htx; have HX := Lib.hid hx
        clear htx hx
        generalize 7 % n = j at *
        have hj0 : (0 : Int) ≤ (j : Int) := by omega
        have hj1 : (j : Int) < (n : Int) := by omega
        have hn0I : (0 : Int) < (n : Int) := by omega
        have hnz : ((n : Int) == 0) = false := by simp; omega
        have hnn : ¬ (n : Int) = 0 := by omega
        have hnn2 : ¬ n = 0 := by omega
        go_wp2_with fail
        go_quiet ((go_at_call 35; exact Calls.quiet_of_same (HTX.out _)))
        go_wp2_with fail
        go_ret
        exact ⟨_, rfl, hts, ⟨HM.out.blk, HM.out.hg, bl_drewN HM.out.bel _, HM.out.plan⟩, gb_drewN HG.out _⟩
      · have hk7 : k = 3 ∨ k = 4 ∨ k = 5 ∨ k = 6 ∨ k = 8 := by omega
        have hn0I : (0 : Int) < (n : Int) := by omega
        clear hr hv h7
        rcases hk7 with rfl | rfl | rfl | rfl | rfl
        all_goals go_wp2_with fail
        all_goals go_ret
        all_goals first | exact ⟨_, rfl, h0, HM.out, HG.out⟩ | exact ⟨_, rfl, h1, HM.out, HG.out⟩ | exact ⟨_, rfl, h2, HM.out, HG.out⟩
    · obtain rfl : n = 0 := by omega
      clear hr hv hn
      have hk9 : k = 3 ∨ k = 4 ∨ k = 5 ∨ k = 6 ∨ k = 7 ∨ k = 8 := by omega
      rcases hk9 with rfl | rfl | rfl | rfl | rfl | rfl
      all_goals go_wp2_with fail
      all_goals go_ret
      all_goals first | exact ⟨_, rfl, h0, HM.out, HG.out⟩ | exact ⟨_, rfl, h1, HM.out, HG.out⟩ | exact ⟨_, rfl, h2, HM.out, HG.out⟩
  · have hk9 : k = 0 ∨ k = 1 ∨ k = 2 := by omega
    clear hm1
    rcases hk9 with rfl | rfl | rfl
    all_goals go_wp2_with fail
    all_goals go_ret
    all_goals first | exact ⟨_, rfl, h0, HM.out, HG.out⟩ | exact ⟨_, rfl, h1, HM.out, HG.out⟩ | exact ⟨_, rfl, h2, HM.out, HG.out⟩
end Go.Proofs.YtapbkomicihkkaaGreatDoor
namespace Go.Proofs.YtapbkomicihkkaaGreatDoor
open Go.RowKit
set_option linter.unusedVariables false
set_option linter.unusedSimpArgs false

theorem gb_setNew {w W : World} {r : Option Nat} (h : w.grownBy W r) (b j : Nat) (hb : w.heap.size ≤ b) (v : Value) : w.grownBy (W.setCell ⟨b, j, none⟩ v) r :=
  ⟨h.os, h.tape, h.output, by have := h.size; simpa [World.setCell] using this, fun i hi hne => by
    rw [Below.heap_setCell _ _ _ _ (show i ≠ b by omega)]
    exact h.block i hi hne⟩
theorem Mk.setN {w0 : World} {g : Nat} {vN vW : Value} {i : Nat} {l : Int} {b : Nat} {w : World} (h : Mk w0 g vN vW i l b w) (r j : Nat) (hr : r ≠ g) (h0 : w0.heap.size ≤ r) (v : Value) : Mk w0 g vN vW i l b (w.setCell ⟨r, j, none⟩ v) :=
  ⟨h.blk.far ⟨r, j, none⟩ (fun e => hr e.symm) v, h.hg, bl_grown h.bel (gb_set j v) h0, h.plan⟩
theorem Mk.alloc {w0 : World} {g : Nat} {vN vW : Value} {i : Nat} {l : Int} {b : Nat} {w : World} (h : Mk w0 g vN vW i l b w) (o : Obj) : Mk w0 g vN vW i l b (w.alloc o) := h.below (bl_alloc (bl_refl _) o)
theorem Mk.drewN {w0 : World} {g : Nat} {vN vW : Value} {i : Nat} {l : Int} {b : Nat} {w : World} (h : Mk w0 g vN vW i l b w) (n : Nat) : Mk w0 g vN vW i l b (w.drewN n) := h.below (bl_drewN (bl_refl _) n)
theorem Mk.setL {w0 : World} {g : Nat} {vN vW : Value} {i : Nat} {l : Int} {b : Nat} {w : World} (h : Mk w0 g vN vW i l b w) (l' : Int) : Mk w0 g vN vW i l' b (w.setCell ⟨g, 3, none⟩ (.int .i64 l')) :=
  ⟨by have := h.blk.set 3 (.int .i64 l'); exact this, h.hg, bl_grown h.bel (gb_set 3 _) h.hg, h.plan⟩
theorem Mk.setB {w0 : World} {g : Nat} {vN vW : Value} {i : Nat} {l : Int} {b : Nat} {w : World} (h : Mk w0 g vN vW i l b w) : Mk w0 g vN vW i l (b + 1) (w.setCell ⟨g, 4, none⟩ (.int .i64 ((b : Int) + 1))) :=
  ⟨by have := h.blk.set 4 (.int .i64 ((b : Int) + 1)); exact this, h.hg, bl_grown h.bel (gb_set 4 _) h.hg, h.plan⟩
theorem Mk.left {w0 : World} {g : Nat} {vN vW : Value} {i : Nat} {l : Int} {b : Nat} {w : World} (h : Mk w0 g vN vW i l b w) : w.cell? ⟨g, 3, none⟩ = some (.int .i64 l) ∧ w.frozen? ⟨g, 3, none⟩ = false := ⟨h.blk.cell 3, h.blk.frozen 3⟩
/-- How many numbers a tree so deep takes at most. -/
def co : Nat → Nat
  | 0 => 2
  | d + 1 => 2 * co d + 2
theorem co_two (d : Nat) : 2 ≤ co d := by cases d <;> simp [co]
/-- What is known of a tree that a plan made. -/
structure Made (w0 : World) (g : Nat) (vN vW : Value) (i : Nat) (l : Int) (c d : Nat) (w w' : World) (n i' : Nat) (l' : Int) : Prop where
  lo : i ≤ i'
  hi : i' ≤ i + c
  cnt : (n : Int) = l - l'
  one : l ≤ 1 → n = 1
  low : 1 ≤ l → -(2 * d : Int) ≤ l'
  gb : w.grownBy w' (some g)
def numT : Array Value := #[.int .i64 0, .int .i64 1, .int .i64 (-1), .int .i64 2, .int .i64 100, .int .i64 (-7), .int .i64 1000000, .int .i64 1000000000000, .int .i64 (-1000000000000), .int .i64 3]
theorem numT_at (j : Nat) (hj : j < 10) : ∃ c : Int, numT[j]? = some (.int .i64 c) ∧ -1000000000000 ≤ c ∧ c ≤ 1000000000000 := by
  match j, hj with
  | 0, _ => exact ⟨0, rfl, by omega, by omega⟩
  | 1, _ => exact ⟨1, rfl, by omega, by omega⟩
  | 2, _ => exact ⟨-1, rfl, by omega, by omega⟩
  | 3, _ => exact ⟨2, rfl, by omega, by omega⟩
  | 4, _ => exact ⟨100, rfl, by omega, by omega⟩
  | 5, _ => exact ⟨-7, rfl, by omega, by omega⟩
  | 6, _ => exact ⟨1000000, rfl, by omega, by omega⟩
  | 7, _ => exact ⟨1000000000000, rfl, by omega, by omega⟩
  | 8, _ => exact ⟨-1000000000000, rfl, by omega, by omega⟩
  | 9, _ => exact ⟨3, rfl, by omega, by omega⟩
  | j + 10, h => omega
def ObsPost (w0 : World) (g : Nat) (vN vW : Value) (i : Nat) (l : Int) (b d : Nat) (w : World) : Ending → World → Prop := fun e w' =>
  ∃ (o : Ob) (v : Value) (i' : Nat) (l' : Int), e = .returned v ∧ TrAt w.heap.size w' o.tr v ∧ o.fine ∧ Mk w0 g vN vW i' l' b w' ∧ Made w0 g vN vW i l (co d) d w w' o.parts i' l'
theorem Blk.four {w : World} {r : Nat} {a b c d : Value} {t : TypeId} (h : Blk w r #[a, b, c, d] t) : (w.cell? ⟨r, 0, none⟩ = some a ∧ w.cell? ⟨r, 1, none⟩ = some b ∧ w.cell? ⟨r, 2, none⟩ = some c ∧ w.cell? ⟨r, 3, none⟩ = some d) ∧
    (w.frozen? ⟨r, 0, none⟩ = false ∧ w.frozen? ⟨r, 1, none⟩ = false ∧ w.frozen? ⟨r, 2, none⟩ = false ∧ w.frozen? ⟨r, 3, none⟩ = false) :=
  ⟨⟨h.cell 0, h.cell 1, h.cell 2, h.cell 3⟩, ⟨h.frozen 0, h.frozen 1, h.frozen 2, h.frozen 3⟩⟩
theorem Blk.set4 {w : World} {r : Nat} {a b c d : Value} {t : TypeId} (h : Blk w r #[a, b, c, d] t) (v0 v1 v2 v3 : Value) :
    Blk ((((w.setCell ⟨r, 0, none⟩ v0).setCell ⟨r, 1, none⟩ v1).setCell ⟨r, 2, none⟩ v2).setCell ⟨r, 3, none⟩ v3) r #[v0, v1, v2, v3] t := (((h.set 0 v0).set 1 v1).set 2 v2).set 3 v3
theorem results_T {fn : Func} {t : Tmp} (h : fn.results = #[.cell t 33]) (tmps : Array Value) (W : World) (r : Nat) (a b c d : Value) (ty : TypeId) (ht : tmps.getD t undef = .pointer (some ⟨r, 0, none⟩)) (hk : Blk W r #[a, b, c, d] ty) :
    (results fn tmps).run Tryz.prog W = .ok (.agg #[a, b, c, d]) W := by
  obtain ⟨⟨k0, k1, k2, k3⟩, _⟩ := hk.four
  have ht' : tmps[t]?.getD undef = .pointer (some ⟨r, 0, none⟩) := by simpa using ht
  simp [results, h, ht', go_sem, k0, k1, k2, k3]
theorem Mk.set4 {w0 : World} {g : Nat} {vN vW : Value} {i : Nat} {l : Int} {b : Nat} {w : World} (h : Mk w0 g vN vW i l b w) (r : Nat) (hr : r ≠ g) (h0 : w0.heap.size ≤ r) (v0 v1 v2 v3 : Value) :
    Mk w0 g vN vW i l b ((((w.setCell ⟨r, 0, none⟩ v0).setCell ⟨r, 1, none⟩ v1).setCell ⟨r, 2, none⟩ v2).setCell ⟨r, 3, none⟩ v3) := (((h.setN r 0 hr h0 v0).setN r 1 hr h0 v1).setN r 2 hr h0 v2).setN r 3 hr h0 v3
theorem gb_set4 {w W : World} {r : Option Nat} (h : w.grownBy W r) (b : Nat) (hb : w.heap.size ≤ b) (v0 v1 v2 v3 : Value) :
    w.grownBy ((((W.setCell ⟨b, 0, none⟩ v0).setCell ⟨b, 1, none⟩ v1).setCell ⟨b, 2, none⟩ v2).setCell ⟨b, 3, none⟩ v3) r := gb_setNew (gb_setNew (gb_setNew (gb_setNew h b 0 hb v0) b 1 hb v1) b 2 hb v2) b 3 hb v3
theorem post_leaf {w0 : World} {g : Nat} {vN vW : Value} {i : Nat} {l : Int} {b d : Nat} {w W : World} (o : Ob) (k : Int) (s : ByteArray) (n : Int) (htr : o.tr = .mk k s n []) (hp : o.parts = 1) (hf : o.fine)
    (hm : Mk w0 g vN vW (i + 1 + 1) (l - 1) b W) (hg : w.grownBy W (some g)) (hc : 2 ≤ co d) : ObsPost w0 g vN vW i l b d w (.returned (.agg #[.int .i64 k, .string s, .int .i64 n, .slice none 0 0])) W :=
  ⟨o, _, i + 1 + 1, l - 1, rfl, by rw [htr]; exact TrAt.leaf _ _ _ _ _ _, hf, hm, ⟨by omega, by omega, by rw [hp]; omega, fun _ => hp, fun h => by omega, hg⟩⟩
theorem size_set4 (w : World) (r : Nat) (v0 v1 v2 v3 : Value) : ((((w.setCell ⟨r, 0, none⟩ v0).setCell ⟨r, 1, none⟩ v1).setCell ⟨r, 2, none⟩ v2).setCell ⟨r, 3, none⟩ v3).heap.size = w.heap.size := by simp [World.setCell]
/-- The value of a tree whose parts stand in A. -/
def Tr.at_ (t : Tr) (A : Option Addr) (c : Nat) : Value := .agg #[.int .i64 t.kind, .string t.s, .int .i64 t.n, .slice A t.ks.length c]
theorem post_one {w0 : World} {g : Nat} {vN vW : Value} {i : Nat} {l : Int} {b e : Nat} {w wB w2 W : World} (o o' : Ob) (k : Int) (htr : o'.tr = .mk k ⟨#[]⟩ 0 [o.tr]) (hp : o'.parts = 1 + o.parts) (hf : o'.fine) {A : Option Addr} {c q i2 : Nat} {l2 : Int}
    (ht : TrAt w.heap.size W o.tr (o.tr.at_ A c)) (hrow : RowOf w.heap.size W (some ⟨q, 0, none⟩) [.int .i64 o.tr.kind, .string o.tr.s, .int .i64 o.tr.n, .slice A o.tr.ks.length c])
    (hm : Mk w0 g vN vW i2 l2 b W) (hmd : Made w0 g vN vW (i + 1) (l - 1) (co e) e wB w2 o.parts i2 l2) (hg : w.grownBy W (some g)) (hl : 2 ≤ l) :
    ObsPost w0 g vN vW i l b (e + 1) w (.returned (.agg #[.int .i64 k, .string ⟨#[]⟩, .int .i64 0, .slice (some ⟨q, 0, none⟩) 1 1])) W := by
  have h1 := hmd.lo; have h2 := hmd.hi; have h3 := hmd.cnt; have h4 := hmd.low
  have hce : co (e + 1) = 2 * co e + 2 := rfl
  refine ⟨o', _, i2, l2, rfl, ?_, hf, hm, ⟨by omega, by omega, by rw [hp]; omega, fun h => by omega, fun h => by have := h4 (by omega); omega, hg⟩⟩
  rw [htr]
  exact TrAt.mk_ (ks := [o.tr]) hrow (TrsAt.cons ht (TrsAt.nil _ _))
theorem post_two {w0 : World} {g : Nat} {vN vW : Value} {i : Nat} {l : Int} {b e : Nat} {w wB w2 wC w3 W : World} (o p o' : Ob) (k : Int) (htr : o'.tr = .mk k ⟨#[]⟩ 0 [o.tr, p.tr]) (hp : o'.parts = 1 + o.parts + p.parts) (hf : o'.fine) {A B : Option Addr} {c d q i1 i2 : Nat} {l1 l2 : Int}
    (ht : TrAt w.heap.size W o.tr (o.tr.at_ A c)) (ht2 : TrAt w.heap.size W p.tr (p.tr.at_ B d))
    (hrow : RowOf w.heap.size W (some ⟨q, 0, none⟩) [.int .i64 o.tr.kind, .string o.tr.s, .int .i64 o.tr.n, .slice A o.tr.ks.length c, .int .i64 p.tr.kind, .string p.tr.s, .int .i64 p.tr.n, .slice B p.tr.ks.length d])
    (hm : Mk w0 g vN vW i2 l2 b W) (hmd : Made w0 g vN vW (i + 1) (l - 1) (co e) e wB w2 o.parts i1 l1) (hmd2 : Made w0 g vN vW i1 l1 (co e) e wC w3 p.parts i2 l2) (hg : w.grownBy W (some g)) (hl : 2 ≤ l) :
    ObsPost w0 g vN vW i l b (e + 1) w (.returned (.agg #[.int .i64 k, .string ⟨#[]⟩, .int .i64 0, .slice (some ⟨q, 0, none⟩) 2 2])) W := by
  have h1 := hmd.lo; have h2 := hmd.hi; have h3 := hmd.cnt; have h4 := hmd.low (by omega)
  have h5 := hmd2.lo; have h6 := hmd2.hi; have h7 := hmd2.cnt; have h8 := hmd2.low; have h9 := hmd2.one
  have hce : co (e + 1) = 2 * co e + 2 := rfl
  refine ⟨o', _, i2, l2, rfl, ?_, hf, hm, ⟨by omega, by omega, by rw [hp]; omega, fun h => by omega, fun h => ?_, hg⟩⟩
  · rw [htr]
    exact TrAt.mk_ (ks := [o.tr, p.tr]) hrow (TrsAt.cons ht (TrsAt.cons ht2 (TrsAt.nil _ _)))
  · by_cases hh : 1 ≤ l1
    · have := h8 hh; omega
    · have := h9 (by omega); omega
end Go.Proofs.YtapbkomicihkkaaGreatDoor
