/- A plan's contract, one that may be. -/
import Derived.Test.YtapbkomicihkkaaDoorRefG
import Derived.Test.YtapbkomicihkkaaDoorPlanH
namespace Go.Proofs.YtapbkomicihkkaaDoor
open Go.RowKit
set_option linter.unusedVariables false
set_option linter.unusedSimpArgs false

/-- What a plan gives as the tree of a contract that may be. -/
def GivesR (w : World) (e : Ending) (w' : World) : Prop := ∃ (t : Tm) (v : Value), e = .returned v ∧ TrAt w.heap.size w' t.tr v ∧ t.fine ∧ t.parts ≤ 34 ∧ t.check = 0 ∧ Below w.heap.size w w'
def oneUsd : Tm := .one ⟨#[117, 115, 100]⟩
theorem oneUsd_check : oneUsd.check = 0 := by decide +kernel
set_option maxRecDepth 100000 in
set_option maxHeartbeats 2000000 in
theorem rright_calls (w : World) (vN vW : Value) (hp : PlanAt w vN vW) : Calls Tryd.prog 7 #[.agg #[vN, vW]] w (GivesR w) := by
  obtain ⟨⟨A, n, c, xs, rfl, hn⟩, ⟨A', n', c', xs', rfl, hn'⟩⟩ := id hp
  clear hn hn'
  obtain ⟨W1, hW1⟩ : ∃ W1, (w.alloc (.cells #[.slice A n c, .slice A' n' c'] 25)).alloc (.cells #[.int .i64 0, .string ⟨#[]⟩, .int .i64 0, .slice none 0 0] 30) = W1 := ⟨_, rfl⟩
  have hb1 := bl_alloc (bl_alloc (bl_refl w) (.cells #[.slice A n c, .slice A' n' c'] 25)) (.cells #[.int .i64 0, .string ⟨#[]⟩, .int .i64 0, .slice none 0 0] 30)
  have hkP := (Blk.new w #[.slice A n c, .slice A' n' c'] 25).below (bl_alloc (bl_refl _) (.cells #[.int .i64 0, .string ⟨#[]⟩, .int .i64 0, .slice none 0 0] 30))
  have hkR := Blk_new (w.alloc (.cells #[.slice A n c, .slice A' n' c'] 25)) #[.int .i64 0, .string ⟨#[]⟩, .int .i64 0, .slice none 0 0] 30 (w.heap.size + 1) (alloc_size _ _).symm
  have hs1 := alloc_size (w.alloc (.cells #[.slice A n c, .slice A' n' c'] 25)) (.cells #[.int .i64 0, .string ⟨#[]⟩, .int .i64 0, .slice none 0 0] 30)
  have hs0 := alloc_size w (.cells #[.slice A n c, .slice A' n' c'] 25)
  rw [hW1] at hb1 hkP hkR hs1
  have HS1 := Lib.hid (show w.heap.size + 1 < W1.heap.size by omega)
  have p0 := hkP.cell 0
  have p1 := hkP.cell 1
  have hn := pcontract_calls W1 _ _ (hp.below hb1)
  unfold GivesTr at hn
  have HW1 := Lib.hid hW1; have HKR := Lib.hid hkR
  clear hW1 hkP hkR hs1 hs0 hp
  go_enter Tryd.func7, Tryd.ntmps7
  go_wp2_with (rw [HW1.out])
  refine hn.mono ?_
  rintro e w2 ⟨t, v, rfl, hT, hf, hparts, hb2⟩
  have hbl := bl_step hb2 hb1
  have hkR2 := HKR.out.below hb2
  obtain ⟨A3, c3, cs3, rfl, -, -⟩ := hT.open_
  obtain ⟨W3, hW3⟩ : ∃ W3, w2.alloc (.cells #[.int .i64 t.tr.kind, .string t.tr.s, .int .i64 t.tr.n, .slice A3 t.tr.ks.length c3] 30) = W3 := ⟨_, rfl⟩
  have hb3 := bl_alloc (bl_refl w2) (.cells #[.int .i64 t.tr.kind, .string t.tr.s, .int .i64 t.tr.n, .slice A3 t.tr.ks.length c3] 30)
  have hkT := Blk.new w2 #[.int .i64 t.tr.kind, .string t.tr.s, .int .i64 t.tr.n, .slice A3 t.tr.ks.length c3] 30
  rw [hW3] at hb3 hkT
  have hT3 := hT.below hb3
  have hc := rcheck_calls t.tr (by rw [t.tr_size hf]; omega) (t.tr_ok hf) false _ W3 _ hT3
  rw [t.tr_check] at hc
  obtain ⟨⟨k0, k1, k2, k3⟩, _⟩ := hkT.four
  have hblW := bl_step hb3 hbl
  have hkR3 := hkR2.below hb3
  have HW3 := Lib.hid hW3; have HC := Lib.hid hc; have HT3 := Lib.hid hT3; have HKT := Lib.hid hkT; have HKR3 := Lib.hid hkR3
  clear hn hW3 hc hT hT3 hkT hkR2 hkR3 hb2 hb3 p0 p1 HKR hbl
  go_wp2_with (rw [HW3.out])
  refine HC.out.mono ?_
  rintro e w4 ⟨rfl, hb4⟩
  have hk4 := HKT.out.below hb4
  have hr4 := HKR3.out.below hb4
  have HB4 := Lib.hid (bl_step hb4 hblW); have HT4 := Lib.hid (HT3.out.below hb4); have HR4 := Lib.hid hr4
  clear k0 k1 k2 k3
  obtain ⟨⟨k0, k1, k2, k3⟩, _⟩ := hk4.four
  obtain ⟨⟨m0, m1, m2, m3⟩, ⟨x0, x1, x2, x3⟩⟩ := hr4.four
  clear hk4 hr4 HC hblW HT3 HKT HKR3 hb4
  generalize hck : t.check = ck at *
  have HCK := Lib.hid hck
  clear hck
  by_cases h0 : ck = 0
  · subst h0
    go_wp2_with fail
    (try simp only [Exit.inBlock, Exit.then])
    refine bodyPost_ret (results_T rfl _ _ (w.heap.size + 1) _ _ _ _ _ rfl (HR4.out.set4 _ _ _ _)) rfl ?_
    have hs := HS1.out
    exact ⟨t, _, rfl, (HT4.out.set4 (r := w.heap.size + 1) (by omega) _ _ _ _).mono (by omega), hf, hparts, HCK.out, bl_grown HB4.out (gb4 _ _ _ _ _ _) (by omega)⟩
  · have h0b : (ck == 0) = false := by simpa using h0
    go_wp2_with fail
    (try simp only [Exit.inBlock, Exit.then])
    refine bodyPost_ret (results_T rfl _ _ (w.heap.size + 1) _ _ _ _ _ rfl (HR4.out.set4 _ _ _ _)) rfl ?_
    exact ⟨oneUsd, _, rfl, TrAt.leaf _ _ _ _ _ _, show (3 : Nat) ≤ 14 by decide, show (1 : Nat) ≤ 34 by decide, oneUsd_check, bl_grown HB4.out (gb4 _ _ _ _ _ _) (by omega)⟩
end Go.Proofs.YtapbkomicihkkaaDoor
