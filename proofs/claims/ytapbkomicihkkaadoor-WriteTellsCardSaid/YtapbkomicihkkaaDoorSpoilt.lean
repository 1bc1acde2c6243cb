/- A tree spoilt; contracts and numbers of a plan, spoilt or not. -/
import Derived.Test.YtapbkomicihkkaaDoorSpoil
import Derived.Test.YtapbkomicihkkaaDoorPlanH
import Derived.Test.YtapbkomicihkkaaDoorPlainG
import Derived.Test.YtapbkomicihkkaaDoorSp
import Derived.Test.YtapbkomicihkkaaDoorRDocG
import Derived.Test.YtapbkomicihkkaaDoorWakes6
namespace Go.Proofs.YtapbkomicihkkaaDoor
open Go.RowKit
set_option linter.unusedVariables false
set_option linter.unusedSimpArgs false

/-- It returns a tree of no more parts. -/
def GivesU (x : Nat) (P : Nat → Prop) (w : World) (t : Tr) (e : Ending) (w' : World) : Prop := ∃ (u : Tr) (v : Value), e = .returned v ∧ TrP x P w' u v ∧ (u.shape ∧ u.ok ∧ u.size ≤ t.size) ∧ Below w.heap.size w w'
theorem Blk.rangeT {w : World} {g : Nat} {xs : List Value} {t : TypeId} (h : Blk w g xs.toArray t) : w.rangeAt g 0 xs := fun j v hv => by
  rw [Nat.zero_add, h.cell]; simpa using hv
theorem rat_bel {w w1 : World} {g o : Nat} {xs : List Value} (h : w.rangeAt g o xs) (hb : Below w.heap.size w w1) : w1.rangeAt g o xs := fun j v hv => cell_below hb (h j v hv)
set_option maxRecDepth 100000 in
set_option maxHeartbeats 8000000 in
theorem spoilt_calls (at_ what v : Int) (s : ByteArray) (hat : -9223372036854775808 ≤ at_ ∧ at_ ≤ 9223372036854775807) (hwh : -9223372036854775808 ≤ what ∧ what ≤ 9223372036854775807) (hv : -9223372036854775808 ≤ v ∧ v ≤ 9223372036854775807) (hss : s.size ≤ 9223372036854775807)
    (t : Tr) (hts : t.size ≤ 1000) (hsh : t.shape) (hok : t.ok) (hnd : 1 ≤ t.nodes) (x : Nat) (P : Nat → Prop) (w : World) (vt : Value) (hx : x ≤ w.heap.size) (hP : ∀ b, w.heap.size ≤ b → P b) (hT : TrP x P w t vt) :
    Calls Tryd.prog 28 #[vt, .int .i64 at_, .int .i64 what, .int .i64 v, .string s] w (GivesU x P w t) := by
  obtain ⟨A, c, cs, rfl, -, -⟩ := hT.open_
  have hnz := t.nodes_size
  obtain ⟨W1, hW1⟩ : ∃ W1, (w.alloc (.cells #[.int .i64 t.kind, .string t.s, .int .i64 t.n, .slice A t.ks.length c] 30)).alloc (.cells #[.int .i64 0, .string ⟨#[]⟩, .int .i64 0, .slice none 0 0] 30) = W1 := ⟨_, rfl⟩
  have hk0 := (Blk.new w #[.int .i64 t.kind, .string t.s, .int .i64 t.n, .slice A t.ks.length c] 30).below (bl_alloc (bl_refl _) (.cells #[.int .i64 0, .string ⟨#[]⟩, .int .i64 0, .slice none 0 0] 30))
  have hk1 := Blk_new (w.alloc (.cells #[.int .i64 t.kind, .string t.s, .int .i64 t.n, .slice A t.ks.length c] 30)) #[.int .i64 0, .string ⟨#[]⟩, .int .i64 0, .slice none 0 0] 30 (w.heap.size + 1) (by simp)
  have hb1 := bl_alloc (bl_alloc (bl_refl w) (.cells #[.int .i64 t.kind, .string t.s, .int .i64 t.n, .slice A t.ks.length c] 30)) (.cells #[.int .i64 0, .string ⟨#[]⟩, .int .i64 0, .slice none 0 0] 30)
  have hs1 : W1.heap.size = w.heap.size + 2 := by rw [← hW1]; simp
  rw [hW1] at hk0 hk1 hb1
  have hsc := rsize_calls 1000000 (Nat.le_refl _) t (by omega) hok x W1 _ ((hT.below hb1).to _ _)
  unfold RetN2 at hsc
  obtain ⟨⟨k0, k1, k2, k3⟩, -⟩ := hk0.four
  have HW1 := Lib.hid hW1; have HK0 := Lib.hid hk0; have HK1 := Lib.hid hk1; have HB1 := Lib.hid hb1; have HS1 := Lib.hid hs1; have HX := Lib.hid hx; have HPP := Lib.hid hP; have HT := Lib.hid hT; have HSC := Lib.hid hsc
  clear hW1 hk0 hk1 hb1 hs1 hx hP hT hsc
  go_enter Tryd.func28, Tryd.ntmps28
  go_upto_region 1 with fail
  rw [HW1.out]
  go_wp2_with fail
  refine (HSC.out).mono ?_
  rintro en w2 ⟨rfl, hb2⟩
  go_upto_region 3 with fail
  obtain ⟨q, hq⟩ : ∃ q, w2.heap.size = q := ⟨_, rfl⟩
  have hk3 := Blk_new w2 #[.int .i64 0, .string ⟨#[]⟩, .int .i64 0, .slice none 0 0] 30 q hq.symm
  have hb3 := bl_alloc (bl_refl w2) (.cells #[.int .i64 0, .string ⟨#[]⟩, .int .i64 0, .slice none 0 0] 30)
  obtain ⟨W3, hW3⟩ : ∃ W3, w2.alloc (.cells #[.int .i64 0, .string ⟨#[]⟩, .int .i64 0, .slice none 0 0] 30) = W3 := ⟨_, rfl⟩
  rw [hW3] at hk3 hb3 ⊢
  rw [hq]
  have hqs : w.heap.size + 2 ≤ q := by have := hb2.size; have := HS1.out; omega
  have hb23 := bl_step hb3 hb2
  have HK03 := Lib.hid (HK0.out.below hb23); have HK13 := Lib.hid (HK1.out.below hb23); have HK3 := Lib.hid hk3; have HB3 := Lib.hid (bl_step hb23 HB1.out)
  have hT3 := ((HT.out.old (bl_refl w) (show w.heap.size ≤ q by omega)).old (bl_refl w) (show w.heap.size ≤ w.heap.size + 1 by omega)).below (bl_step hb23 HB1.out)
  have HT3 := Lib.hid hT3
  have hwi := fun W => within_calls at_ (t.nodes : Int) W hat (by omega)
  have hm0 : 0 ≤ at_ % (t.nodes : Int) := Int.emod_nonneg _ (by omega)
  have hm1 : at_ % (t.nodes : Int) < t.nodes := Int.emod_lt_of_pos _ (by omega)
  generalize at_ % (t.nodes : Int) = a at *
  have HWI := Lib.hid hwi
  clear hW3 hk3 hb3 hq hb2 hb23 hT3 hwi HK0 HK1 HW1 HSC k0 k1 k2 k3
  refine wp_region_noPanic ?_
  refine wp_region_held_drew (S := fun w' => w'.rangeAt w.heap.size 0 [.int .i64 t.kind, .string t.s, .int .i64 t.n, .slice A t.ks.length c]) (by kernel_rfl) HK03.out.rangeT (fun hHeld => ?_)
  refine wpAnyH_world (fun W => Below W3.heap.size W3 W) (bl_drew (bl_refl _)) (fun W2 hb2 => ?_)
  refine wpAnyH_lst #[false, false, false, false, false, false, false, false, false, false, false, false] (by rfl) ?_
  clear hHeld
  refine wpAnyH_named (fun A0 hA0 => ?_)
  have HA0 := Lib.hid hA0
  refine sp_in A0 [20, 21, 22, 23, 24, 25, 26, 27, 28, 29, 30] 32 [(5, .pointer (some ⟨w.heap.size, 0, none⟩)), (1, .int .i64 at_), (11, .int .i64 t.nodes), (2, .int .i64 what), (3, .int .i64 v), (4, .string s), (13, .pointer (some ⟨q, 0, none⟩))] (by rw [hA0]; rfl) (HK03.out.below (hb2)).rangeT (by rw [hA0]; exact ⟨rfl, rfl, rfl, rfl, rfl, rfl, rfl, trivial⟩) ?_
  clear hA0
  refine sl 0 5 rfl w.heap.size 0 [.int .i64 t.kind, .string t.s, .int .i64 t.n, .slice A t.ks.length c] _ (fun w h => h) Tryd.underlying30 size_t4s ?_
  refine st 1 [1] rfl ?_
  refine st 2 [11] rfl ?_
  refine st 4 [2] rfl ?_
  refine st 5 [3] rfl ?_
  refine st 6 [4] rfl ?_
  refine sr 3 (sc 3 [22, 23] rfl (HWI.out _) ?_)
  rintro en W4 ⟨rfl, rfl⟩
  refine ⟨_, rfl, (HK03.out.below (hb2)).rangeT, ?_⟩
  refine sr 7 (sc 7 [21, 24, 25, 26, 27] rfl (spoil_calls what v s hwh hv hss 1000000 (Nat.le_refl _) t (by omega) hsh hok x (fun b => (P b ∧ b ≠ q) ∧ b ≠ w.heap.size + 1) a _ _ hm0 (by omega) (by have := HX.out; have := HB3.out.size; have := hb2.size; omega) (fun b hb => ⟨⟨HPP.out b (by have := HB3.out.size; have := hb2.size; omega), by have := HK3.out.lt; have := hb2.size; omega⟩, by have := HK13.out.lt; have := hb2.size; omega⟩) (HT3.out.below hb2)) ?_)
  rintro en W5 ⟨u, vu, b2, rfl, hU, hug, -, hb⟩
  replace hb2 := bl_step hb hb2
  obtain ⟨A5, c5, cs5, rfl, -, -⟩ := hU.open_
  refine ⟨_, rfl, (HK03.out.below (hb2)).rangeT, ?_⟩
  clear hb
  refine st 8 [28] rfl ?_
  refine st 9 [20] rfl ?_
  refine st 10 [20] rfl ?_
  have hkq := HK3.out.below hb2
  have hkk := hkq.set4 (.int .i64 u.kind) (.string u.s) (.int .i64 u.n) (.slice A5 u.ks.length c5)
  have hgq := gb4 W5 q (.int .i64 u.kind) (.string u.s) (.int .i64 u.n) (.slice A5 u.ks.length c5)
  have hk06 := (HK03.out.below hb2).grown hgq (fun e => by injection e with e; omega)
  have hk16 := (HK13.out.below hb2).grown hgq (fun e => by injection e with e; omega)
  have hU6 := hU.grown hgq (fun hh => hh.1.2 rfl)
  have hb6 := bl_grown (bl_step hb2 HB3.out) hgq (by omega)
  obtain ⟨⟨k0, k1, k2, k3⟩, ⟨f0, f1, f2, f3⟩⟩ := hkq.four
  have hlq := hkq.lt
  refine sr 11 (sw 11 [13, 29] rfl ?_ ?_)
  · exact hk06.rangeT
  clear k0 k1 k2 k3 f0 f1 f2 f3 hlq hkq
  have HKQ := Lib.hid hkk; have HK16 := Lib.hid hk16; have HU6 := Lib.hid hU6; have HB6 := Lib.hid hb6; have HUG := Lib.hid hug
  clear hkk hgq hk06 hk16 hU6 hb6 hug hU hb2
  refine sp_done (fun A hO hN hS => NoPanic.normal ?_)
  obtain ⟨fo, hfo⟩ := hO.lit HA0.out
  clear hO hN
  dsimp only [putL, List.set_cons_zero, List.set_cons_succ] at hfo
  subst hfo
  obtain ⟨⟨k0, k1, k2, k3⟩, -⟩ := HKQ.out.four
  obtain ⟨⟨m0, m1, m2, m3⟩, ⟨x0, x1, x2, x3⟩⟩ := HK16.out.four
  have hl1 := HK16.out.lt
  go_wp2_with fail
  (try simp only [Exit.inBlock, Exit.then])
  refine bodyPost_ret (results_T rfl _ _ (w.heap.size + 1) _ _ _ _ _ rfl (HK16.out.set4 _ _ _ _)) rfl ?_
  exact ⟨u, _, rfl, (HU6.out.grown (gb4 _ _ _ _ _ _) (fun hh => hh.2 rfl)).mono (fun _ hh => hh.1.1), HUG.out, bl_grown HB6.out (gb4 _ _ _ _ _ _) (by omega)⟩
end Go.Proofs.YtapbkomicihkkaaDoor
