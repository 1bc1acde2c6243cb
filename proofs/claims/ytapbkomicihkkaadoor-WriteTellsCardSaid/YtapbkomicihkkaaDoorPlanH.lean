/- A plan's number. -/
import Derived.Test.YtapbkomicihkkaaDoorPtA
import Derived.Test.YtapbkomicihkkaaDoorPtB
import Derived.Test.YtapbkomicihkkaaDoorPtC
import Derived.Test.YtapbkomicihkkaaDoorPtD
import Derived.Test.YtapbkomicihkkaaDoorPtE
import Derived.Test.YtapbkomicihkkaaDoorPtF
namespace Go.Proofs.YtapbkomicihkkaaDoor
open Go.RowKit
set_option linter.unusedVariables false
set_option linter.unusedSimpArgs false

theorem qOf_range (w0 : World) (vN : Value) (i : Nat) (l : Int) (d : Nat) : 0 ≤ qOf w0 vN i l d 13 ∧ qOf w0 vN i l d 13 < 13 := by
  unfold qOf
  split <;> omega
theorem pterm_calls (w0 : World) (g : Nat) (vN vW : Value) : ∀ (d : Nat), d ≤ 10 → ∀ (w : World) (i : Nat) (l : Int) (b : Nat), Mk w0 g vN vW i l b w → i + cot d ≤ 1000000000 → b + cot d ≤ 1000000000 → -100 ≤ l → l ≤ 100 →
    Calls Tryd.prog 39 #[.pointer (some ⟨g, 0, none⟩), .int .i64 d] w (TmPost w0 g vN vW i l b d w) := by
  intro d
  induction d using Nat.strongRecOn with
  | _ d ih =>
    intro hd w i l b hm hi hb hl0 hl1
    obtain ⟨h0, h1⟩ := qOf_range w0 vN i l d
    have hih : PtIh w0 g vN vW d := ih
    by_cases ha : qOf w0 vN i l d 13 ≤ 2
    · exact pterm_a w0 g vN vW d hih hd w i l b hm hi hb hl0 hl1 (by omega)
    by_cases hb' : qOf w0 vN i l d 13 = 3 ∨ qOf w0 vN i l d 13 = 4 ∨ qOf w0 vN i l d 13 = 11
    · exact pterm_b w0 g vN vW d hih hd w i l b hm hi hb hl0 hl1 hb'
    by_cases hc : qOf w0 vN i l d 13 = 5 ∨ qOf w0 vN i l d 13 = 6
    · exact pterm_c w0 g vN vW d hih hd w i l b hm hi hb hl0 hl1 hc
    by_cases hdd : qOf w0 vN i l d 13 = 7 ∨ qOf w0 vN i l d 13 = 8
    · exact pterm_d w0 g vN vW d hih hd w i l b hm hi hb hl0 hl1 hdd
    by_cases he : qOf w0 vN i l d 13 = 9 ∨ qOf w0 vN i l d 13 = 10
    · exact pterm_e w0 g vN vW d hih hd w i l b hm hi hb hl0 hl1 he
    exact pterm_f w0 g vN vW d hih hd w i l b hm hi hb hl0 hl1 (by omega)
end Go.Proofs.YtapbkomicihkkaaDoor
namespace Go.Proofs.YtapbkomicihkkaaDoor
open Go.RowKit
set_option linter.unusedVariables false
set_option linter.unusedSimpArgs false

/-- What a plan gives as a contract's tree. -/
def GivesTr (w : World) (e : Ending) (w' : World) : Prop := ∃ (t : Tm) (v : Value), e = .returned v ∧ TrAt w.heap.size w' t.tr v ∧ t.fine ∧ t.parts ≤ 34 ∧ Below w.heap.size w w'
def GivesOTr (w : World) (e : Ending) (w' : World) : Prop := ∃ (t : Ob) (v : Value), e = .returned v ∧ TrAt w.heap.size w' t.tr v ∧ t.fine ∧ t.parts ≤ 34 ∧ Below w.heap.size w w'
set_option maxRecDepth 100000 in
set_option maxHeartbeats 2000000 in
theorem pcontract_calls (w : World) (vN vW : Value) (hp : PlanAt w vN vW) : Calls Tryd.prog 23 #[.agg #[vN, vW]] w (GivesTr w) := by
  obtain ⟨⟨A, n, c, xs, rfl, hn⟩, ⟨A', n', c', xs', rfl, hn'⟩⟩ := id hp
  clear hn hn'
  have hbM := bl_alloc (bl_alloc (bl_alloc (bl_refl w) (.cells #[.slice A n c, .slice A' n' c'] 25)) (.cells #[.int .i64 0, .string ⟨#[]⟩, .int .i64 0, .slice none 0 0] 30)) (.cells #[.slice A n c, .slice A' n' c', .int .i64 0, .int .i64 24, .int .i64 0] 113)
  have hsz1 := alloc_size w (.cells #[.slice A n c, .slice A' n' c'] 25)
  have hsz2 := alloc_size (w.alloc (.cells #[.slice A n c, .slice A' n' c'] 25)) (.cells #[.int .i64 0, .string ⟨#[]⟩, .int .i64 0, .slice none 0 0] 30)
  have hkM := Blk_new ((w.alloc (.cells #[.slice A n c, .slice A' n' c'] 25)).alloc (.cells #[.int .i64 0, .string ⟨#[]⟩, .int .i64 0, .slice none 0 0] 30)) #[.slice A n c, .slice A' n' c', .int .i64 0, .int .i64 24, .int .i64 0] 113 (w.heap.size + 1 + 1) (by omega)
  have hkR := (Blk_new (w.alloc (.cells #[.slice A n c, .slice A' n' c'] 25)) #[.int .i64 0, .string ⟨#[]⟩, .int .i64 0, .slice none 0 0] 30 (w.heap.size + 1) (by omega)).below (bl_alloc (bl_refl _) (.cells #[.slice A n c, .slice A' n' c', .int .i64 0, .int .i64 24, .int .i64 0] 113))
  have hszM := alloc_size ((w.alloc (.cells #[.slice A n c, .slice A' n' c'] 25)).alloc (.cells #[.int .i64 0, .string ⟨#[]⟩, .int .i64 0, .slice none 0 0] 30)) (.cells #[.slice A n c, .slice A' n' c', .int .i64 0, .int .i64 24, .int .i64 0] 113)
  have hsM : w.heap.size + 1 + 1 < (((w.alloc (.cells #[.slice A n c, .slice A' n' c'] 25)).alloc (.cells #[.int .i64 0, .string ⟨#[]⟩, .int .i64 0, .slice none 0 0] 30)).alloc (.cells #[.slice A n c, .slice A' n' c', .int .i64 0, .int .i64 24, .int .i64 0] 113)).heap.size := by omega
  have hM : Mk w (w.heap.size + 1 + 1) (.slice A n c) (.slice A' n' c') 0 24 0 (((w.alloc (.cells #[.slice A n c, .slice A' n' c'] 25)).alloc (.cells #[.int .i64 0, .string ⟨#[]⟩, .int .i64 0, .slice none 0 0] 30)).alloc (.cells #[.slice A n c, .slice A' n' c', .int .i64 0, .int .i64 24, .int .i64 0] 113)) := ⟨hkM, by omega, hbM, hp⟩
  have hr : Calls Tryd.prog 39 #[.pointer (some ⟨w.heap.size + 1 + 1, 0, none⟩), .int .i64 5] (((w.alloc (.cells #[.slice A n c, .slice A' n' c'] 25)).alloc (.cells #[.int .i64 0, .string ⟨#[]⟩, .int .i64 0, .slice none 0 0] 30)).alloc (.cells #[.slice A n c, .slice A' n' c', .int .i64 0, .int .i64 24, .int .i64 0] 113)) (TmPost w (w.heap.size + 1 + 1) (.slice A n c) (.slice A' n' c') 0 24 0 5 (((w.alloc (.cells #[.slice A n c, .slice A' n' c'] 25)).alloc (.cells #[.int .i64 0, .string ⟨#[]⟩, .int .i64 0, .slice none 0 0] 30)).alloc (.cells #[.slice A n c, .slice A' n' c', .int .i64 0, .int .i64 24, .int .i64 0] 113))) := pterm_calls w (w.heap.size + 1 + 1) (.slice A n c) (.slice A' n' c') 5 (by omega) _ 0 24 0 hM (by decide) (by decide) (by omega) (by omega)
  unfold TmPost at hr
  have HR := Lib.hid hr; have HK := Lib.hid hkR; have HS := Lib.hid hsM
  clear hr hkR hsz1 hsz2 hszM hsM hkM hbM hM hp
  go_enter Tryd.func23, Tryd.ntmps23
  go_wp2_with fail
  refine HR.out.mono ?_
  rintro e w2 ⟨t, v, i2, l2, b2, rfl, hT, hf, hm2, -, hmd⟩
  obtain ⟨A3, c3, cs3, rfl, -, -⟩ := hT.open_
  have hk2 := HK.out.grown hmd.gb (fun e => by injection e with e; omega)
  obtain ⟨⟨k0, k1, k2, k3⟩, ⟨y0, y1, y2, y3⟩⟩ := hk2.four
  have hsz := hmd.gb.size
  have HK2 := Lib.hid hk2; have HMD := Lib.hid hmd; have HM2 := Lib.hid hm2; have HT := Lib.hid hT; have HZ := Lib.hid hsz
  clear hk2 hmd hm2 hT hsz HR HK
  go_wp2_with fail
  (try simp only [Exit.inBlock, Exit.then])
  refine bodyPost_ret (results_T rfl _ _ (w.heap.size + 1) _ _ _ _ _ rfl (HK2.out.set4 _ _ _ _)) rfl ?_
  have h1 := HMD.out.cnt; have h2 := HMD.out.low (by omega); have hs := HS.out
  exact ⟨t, _, rfl, (HT.out.set4 (r := w.heap.size + 1) (by omega) _ _ _ _).mono (by omega), hf, by omega, bl_grown HM2.out.bel (gb4 _ _ _ _ _ _) (by omega)⟩
end Go.Proofs.YtapbkomicihkkaaDoor
namespace Go.Proofs.YtapbkomicihkkaaDoor
open Go.RowKit
set_option linter.unusedVariables false
set_option linter.unusedSimpArgs false

set_option maxRecDepth 100000 in
set_option maxHeartbeats 2000000 in
theorem pnumber_calls (w : World) (vN vW : Value) (hp : PlanAt w vN vW) : Calls Tryd.prog 31 #[.agg #[vN, vW]] w (GivesOTr w) := by
  obtain ⟨⟨A, n, c, xs, rfl, hn⟩, ⟨A', n', c', xs', rfl, hn'⟩⟩ := id hp
  clear hn hn'
  have hbM := bl_alloc (bl_alloc (bl_alloc (bl_refl w) (.cells #[.slice A n c, .slice A' n' c'] 25)) (.cells #[.int .i64 0, .string ⟨#[]⟩, .int .i64 0, .slice none 0 0] 30)) (.cells #[.slice A n c, .slice A' n' c', .int .i64 0, .int .i64 16, .int .i64 0] 113)
  have hsz1 := alloc_size w (.cells #[.slice A n c, .slice A' n' c'] 25)
  have hsz2 := alloc_size (w.alloc (.cells #[.slice A n c, .slice A' n' c'] 25)) (.cells #[.int .i64 0, .string ⟨#[]⟩, .int .i64 0, .slice none 0 0] 30)
  have hkM := Blk_new ((w.alloc (.cells #[.slice A n c, .slice A' n' c'] 25)).alloc (.cells #[.int .i64 0, .string ⟨#[]⟩, .int .i64 0, .slice none 0 0] 30)) #[.slice A n c, .slice A' n' c', .int .i64 0, .int .i64 16, .int .i64 0] 113 (w.heap.size + 1 + 1) (by omega)
  have hkR := (Blk_new (w.alloc (.cells #[.slice A n c, .slice A' n' c'] 25)) #[.int .i64 0, .string ⟨#[]⟩, .int .i64 0, .slice none 0 0] 30 (w.heap.size + 1) (by omega)).below (bl_alloc (bl_refl _) (.cells #[.slice A n c, .slice A' n' c', .int .i64 0, .int .i64 16, .int .i64 0] 113))
  have hszM := alloc_size ((w.alloc (.cells #[.slice A n c, .slice A' n' c'] 25)).alloc (.cells #[.int .i64 0, .string ⟨#[]⟩, .int .i64 0, .slice none 0 0] 30)) (.cells #[.slice A n c, .slice A' n' c', .int .i64 0, .int .i64 16, .int .i64 0] 113)
  have hsM : w.heap.size + 1 + 1 < (((w.alloc (.cells #[.slice A n c, .slice A' n' c'] 25)).alloc (.cells #[.int .i64 0, .string ⟨#[]⟩, .int .i64 0, .slice none 0 0] 30)).alloc (.cells #[.slice A n c, .slice A' n' c', .int .i64 0, .int .i64 16, .int .i64 0] 113)).heap.size := by omega
  have hM : Mk w (w.heap.size + 1 + 1) (.slice A n c) (.slice A' n' c') 0 16 0 (((w.alloc (.cells #[.slice A n c, .slice A' n' c'] 25)).alloc (.cells #[.int .i64 0, .string ⟨#[]⟩, .int .i64 0, .slice none 0 0] 30)).alloc (.cells #[.slice A n c, .slice A' n' c', .int .i64 0, .int .i64 16, .int .i64 0] 113)) := ⟨hkM, by omega, hbM, hp⟩
  have hr : Calls Tryd.prog 51 #[.pointer (some ⟨w.heap.size + 1 + 1, 0, none⟩), .int .i64 4] (((w.alloc (.cells #[.slice A n c, .slice A' n' c'] 25)).alloc (.cells #[.int .i64 0, .string ⟨#[]⟩, .int .i64 0, .slice none 0 0] 30)).alloc (.cells #[.slice A n c, .slice A' n' c', .int .i64 0, .int .i64 16, .int .i64 0] 113)) (ObsPost w (w.heap.size + 1 + 1) (.slice A n c) (.slice A' n' c') 0 16 0 4 (((w.alloc (.cells #[.slice A n c, .slice A' n' c'] 25)).alloc (.cells #[.int .i64 0, .string ⟨#[]⟩, .int .i64 0, .slice none 0 0] 30)).alloc (.cells #[.slice A n c, .slice A' n' c', .int .i64 0, .int .i64 16, .int .i64 0] 113))) := pobs_calls w (w.heap.size + 1 + 1) (.slice A n c) (.slice A' n' c') 0 4 (by omega) _ 0 16 hM (by decide) (by omega) (by omega)
  unfold ObsPost at hr
  have HR := Lib.hid hr; have HK := Lib.hid hkR; have HS := Lib.hid hsM
  clear hr hkR hsz1 hsz2 hszM hsM hkM hbM hM hp
  go_enter Tryd.func31, Tryd.ntmps31
  go_wp2_with fail
  refine HR.out.mono ?_
  rintro e w2 ⟨t, v, i2, l2, rfl, hT, hf, hm2, hmd⟩
  obtain ⟨A3, c3, cs3, rfl, -, -⟩ := hT.open_
  have hk2 := HK.out.grown hmd.gb (fun e => by injection e with e; omega)
  obtain ⟨⟨k0, k1, k2, k3⟩, ⟨y0, y1, y2, y3⟩⟩ := hk2.four
  have hsz := hmd.gb.size
  have HK2 := Lib.hid hk2; have HMD := Lib.hid hmd; have HM2 := Lib.hid hm2; have HT := Lib.hid hT; have HZ := Lib.hid hsz
  clear hk2 hmd hm2 hT hsz HR HK
  go_wp2_with fail
  (try simp only [Exit.inBlock, Exit.then])
  refine bodyPost_ret (results_T rfl _ _ (w.heap.size + 1) _ _ _ _ _ rfl (HK2.out.set4 _ _ _ _)) rfl ?_
  have h1 := HMD.out.cnt; have h2 := HMD.out.low (by omega); have hs := HS.out
  exact ⟨t, _, rfl, (HT.out.set4 (r := w.heap.size + 1) (by omega) _ _ _ _).mono (by omega), hf, by omega, bl_grown HM2.out.bel (gb4 _ _ _ _ _ _) (by omega)⟩
end Go.Proofs.YtapbkomicihkkaaDoor
