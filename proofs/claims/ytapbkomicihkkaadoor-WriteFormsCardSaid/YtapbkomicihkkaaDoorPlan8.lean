/- A plan's contract, a plan's number. -/
import Derived.Test.YtapbkomicihkkaaDoorPlan7
namespace Go.Proofs.YtapbkomicihkkaaDoor
open Go.RowKit
set_option linter.unusedVariables false
set_option linter.unusedSimpArgs false

/-- What a plan gives as a contract's tree. -/
def GivesTr (w : World) (e : Ending) (w' : World) : Prop := ∃ (t : Tm) (v : Value), e = .returned v ∧ TrAt w.heap.size w' t.tr v ∧ t.fine ∧ t.parts ≤ 34 ∧ Below w.heap.size w w'
def GivesOTr (w : World) (e : Ending) (w' : World) : Prop := ∃ (t : Ob) (v : Value), e = .returned v ∧ TrAt w.heap.size w' t.tr v ∧ t.fine ∧ t.parts ≤ 34 ∧ Below w.heap.size w w'
set_option maxRecDepth 100000 in
set_option maxHeartbeats 2000000 in
theorem pcontract_calls (w : World) (vN vW : Value) (hp : PlanAt w vN vW) : Calls Tryd.prog 23 #[.agg #[vN, vW]] w (GivesTr w) := by
  obtain ⟨⟨A, n, c, xs, rfl, hn⟩, ⟨A', n', c', xs', rfl, hn'⟩⟩ := id hp
  clear hn hn'
  have hbM := bl_alloc (bl_alloc (bl_alloc (bl_refl w) (.cells #[.slice A n c, .slice A' n' c'] 25)) (.cells #[.int .i64 0, .string ⟨#[]⟩, .int .i64 0, .slice none 0 0] 30)) (.cells #[.slice A n c, .slice A' n' c', .int .i64 0, .int .i64 24, .int .i64 0] 113)
  have hsz1 := alloc_size w (.cells #[.slice A n c, .slice A' n' c'] 25)
  have hsz2 := alloc_size (w.alloc (.cells #[.slice A n c, .slice A' n' c'] 25)) (.cells #[.int .i64 0, .string ⟨#[]⟩, .int .i64 0, .slice none 0 0] 30)
  have hkM := Blk_new ((w.alloc (.cells #[.slice A n c, .slice A' n' c'] 25)).alloc (.cells #[.int .i64 0, .string ⟨#[]⟩, .int .i64 0, .slice none 0 0] 30)) #[.slice A n c, .slice A' n' c', .int .i64 0, .int .i64 24, .int .i64 0] 113 (w.heap.size + 1 + 1) (by omega)
  have hkR := (Blk_new (w.alloc (.cells #[.slice A n c, .slice A' n' c'] 25)) #[.int .i64 0, .string ⟨#[]⟩, .int .i64 0, .slice none 0 0] 30 (w.heap.size + 1) (by omega)).below (bl_alloc (bl_refl _) (.cells #[.slice A n c, .slice A' n' c', .int .i64 0, .int .i64 24, .int .i64 0] 113))
  have hszM := alloc_size ((w.alloc (.cells #[.slice A n c, .slice A' n' c'] 25)).alloc (.cells #[.int .i64 0, .string ⟨#[]⟩, .int .i64 0, .slice none 0 0] 30)) (.cells #[.slice A n c, .slice A' n' c', .int .i64 0, .int .i64 24, .int .i64 0] 113)
  have hsM : w.heap.size + 1 + 1 < (((w.alloc (.cells #[.slice A n c, .slice A' n' c'] 25)).alloc (.cells #[.int .i64 0, .string ⟨#[]⟩, .int .i64 0, .slice none 0 0] 30)).alloc (.cells #[.slice A n c, .slice A' n' c', .int .i64 0, .int .i64 24, .int .i64 0] 113)).heap.size := by omega
  have hM : Mk w (w.heap.size + 1 + 1) (.slice A n c) (.slice A' n' c') 0 24 0 (((w.alloc (.cells #[.slice A n c, .slice A' n' c'] 25)).alloc (.cells #[.int .i64 0, .string ⟨#[]⟩, .int .i64 0, .slice none 0 0] 30)).alloc (.cells #[.slice A n c, .slice A' n' c', .int .i64 0, .int .i64 24, .int .i64 0] 113)) := ⟨hkM, by omega, hbM, hp⟩
  have hr : Calls Tryd.prog 39 #[.pointer (some ⟨w.heap.size + 1 + 1, 0, none⟩), .int .i64 5] (((w.alloc (.cells #[.slice A n c, .slice A' n' c'] 25)).alloc (.cells #[.int .i64 0, .string ⟨#[]⟩, .int .i64 0, .slice none 0 0] 30)).alloc (.cells #[.slice A n c, .slice A' n' c', .int .i64 0, .int .i64 24, .int .i64 0] 113)) (TmPost w (w.heap.size + 1 + 1) (.slice A n c) (.slice A' n' c') 0 24 0 5 (((w.alloc (.cells #[.slice A n c, .slice A' n' c'] 25)).alloc (.cells #[.int .i64 0, .string ⟨#[]⟩, .int .i64 0, .slice none 0 0] 30)).alloc (.cells #[.slice A n c, .slice A' n' c', .int .i64 0, .int .i64 24, .int .i64 0] 113))) := pterm_calls w (w.heap.size + 1 + 1) (.slice A n c) (.slice A' n' c') 5 (by omega) _ 0 24 0 hM (by decide) (by decide) (by omega) (by omega)
  unfold TmPost at hr
  have HR := Lib.hid hr; have HK := Lib.hid hkR; have HS := Lib.hid hsM
  clear hr hkR hsz1 hsz2 hszM hsM hkM hbM hM hp
  go_enter Tryd.func23, Tryd.ntmps23
  go_wp2_with fail
  refine HR.out.mono ?_
  rintro e w2 ⟨t, v, i2, l2, b2, rfl, hT, hf, hm2, -, hmd⟩
  obtain ⟨A3, c3, cs3, rfl, -, -⟩ := hT.open_
  have hk2 := HK.out.grown hmd.gb (fun e => by injection e with e; omega)
  obtain ⟨⟨k0, k1, k2, k3⟩, ⟨y0, y1, y2, y3⟩⟩ := hk2.four
  have hsz := hmd.gb.size
  have HK2 := Lib.hid hk2; have HMD := Lib.hid hmd; have HM2 := Lib.hid hm2; have HT := Lib.hid hT; have HZ := Lib.hid hsz
  clear hk2 hmd hm2 hT hsz HR HK
  go_wp2_with fail
  (try simp only [Exit.inBlock, Exit.then])
  refine bodyPost_ret (results_T rfl _ _ (w.heap.size + 1) _ _ _ _ _ rfl (HK2.out.set4 _ _ _ _)) rfl ?_
  have h1 := HMD.out.cnt; have h2 := HMD.out.low (by omega); have hs := HS.out
  exact ⟨t, _, rfl, (HT.out.set4 (r := w.heap.size + 1) (by omega) _ _ _ _).mono (by omega), hf, by omega, bl_grown HM2.out.bel (gb4 _ _ _ _ _ _) (by omega)⟩
end Go.Proofs.YtapbkomicihkkaaDoor
