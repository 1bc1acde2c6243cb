/- The head behind an entry. -/
import Derived.Test.YtapbkomicihkkaaDoorPk5
import Derived.Test.YtapbkomicihkkaaDoorSip4
import Derived.Test.YtapbkomicihkkaaDoorKeyB
import Derived.Deep.RegionHeld
import Derived.Deep.RegionWith
namespace Go.Proofs.YtapbkomicihkkaaDoor
open Go.RowKit
set_option linter.unusedVariables false
set_option linter.unusedSimpArgs false

section
variable {P : Program} {ops : Array Oper} {o : Oper} {a : Act} {K : Act → World → Prop} {Q : Exit → Act → World → Prop}
/-- append(v, xs...) in a drawn region. -/
theorem append_anyW {w0 W : World} (s x : Operand) (t e : TypeId) (z : Value) (size bytes : Nat)
    (ho : o.op = .call { callee := .builtin .append, args := #[s, x], argTypes := #[t, t] })
    (ht : P.underlying t = some (.slice e)) (hinfo : (P.info? e).map (fun i => (i.zero, i.size, i.bytes)) = some (some z, size, bytes)) (hz : z.cells.size = size) (hsz : 0 < size)
    (v : Value) (n : Nat) (xs : List Value) (A : Option Addr) (m c : Nat) (news : List Value) (HO : Own w0 W e size v n xs) (HB : Below w0.heap.size w0 W) (hr : Rd W A news) (hs : a.eval s = v) (hx : a.eval x = .slice A m c) (hnl : news.length = m * size) (h1 : ∀ u ∈ news, u.oneCell' = true)
    (hl : (n + m) * bytes ≤ 140737488355328) (hn : n + m ≤ 140737488355328)
    (h : ∀ v1 w1, Own w0 w1 e size v1 (n + m) (xs ++ news) → Below w0.heap.size w0 w1 → W.grownBy w1 v.ownBlock → K (a.put o.dst v1) w1) :
    o.wp P a W K Q := by
  obtain ⟨i0, hi, hzz⟩ := Option.map_eq_some_iff.1 hinfo
  simp only [Prod.mk.injEq] at hzz
  obtain ⟨hz0, hz1, hz2⟩ := hzz
  cases A with
  | some ad =>
    refine wp_append_own _ s x t ho w0.heap.size e i0 z size bytes ht hi hz0 hz1 hz2 hz hsz v n xs hs HO ad m c news hx hnl ?_ h1 (by simp only [maxLen]; omega) hl HB.size ?_
    · intro j u hu
      obtain ⟨ad', e1, hc⟩ := hr j u hu
      cases e1
      exact hc
    · intro v1 w1 hown hg _
      exact h v1 w1 hown (HB.grown hg HB.size (Own.at_base HO)) hg
  | none =>
    cases news with
    | cons y ys => obtain ⟨_, e1, _⟩ := hr 0 y (by simp); cases e1
    | nil =>
      have hm : m = 0 := by
        simp only [List.length_nil] at hnl
        rcases Nat.eq_zero_or_pos m with h | h
        · exact h
        · have := Nat.mul_pos h hsz; omega
      subst hm
      obtain ⟨A', c', rfl, _, hc', _⟩ := HO.read
      have hrun := run_append_empty (P := P) W t o.type e i0 ht hi A' n c' c hc'
      unfold Oper.wp
      simp [execOp, ho, resolve, invoke, builtin, hs, hx, hrun, Result.andThen]
      exact h _ W (by simpa using HO) HB (gb_refl _ _)
end
theorem isU_sipSum (key b : List UInt8) : isU (sipSum key b) := by unfold sipSum sipOf Four.out; exact isU_xor _ _
/-- The head behind an entry. -/
def En.next (key : List UInt8) (h : Int) (x : En) : Int := if x.ev.check = 0 then sipSum key (bytesI h ++ x.pack) else 0
def RetNext (w : World) (h er : Int) (en : Ending) (w' : World) : Prop := en = .returned (.tuple #[.int .u64 h, .int .i64 er]) ∧ Below w.heap.size w w'
set_option maxRecDepth 100000 in
set_option maxHeartbeats 4000000 in
theorem next_calls (key : List UInt8) (hkl : key.length = 16) (h : Int) (hh : isU h) (x : En) (hx : x.ev.small) (w : World) (ht : TabOk w) :
    Calls Tryd.prog 36 #[.agg (byts key).toArray, .int .u64 h, x.val] w (RetNext w (x.next key h) x.ev.check) := by
  unfold RetNext
  have hpe := fun W hW => pentry_calls x hx W hW
  have hcc := x.ev.term.cells_ hx.ok.term
  have ho7 := x.ev.term.one_ hx.ok.term
  have hpl := x.pack_length hx
  have hkb := (Blk.new w (byts key).toArray 76).below (bl_alloc (bl_refl _) (.cells x.cells 86))
  have hb0 := Blk_new (w.alloc (.cells (byts key).toArray 76)) x.cells 86 (w.heap.size + 1) (by simp)
  have hbA := bl_alloc (bl_alloc (bl_refl w) (.cells (byts key).toArray 76)) (.cells x.cells 86)
  unfold En.cells at *
  obtain ⟨f0, f1, f2, f3, f4, f5, f6, f7, f8⟩ := Blk.ens (x := x) hb0
  obtain ⟨W1, hW1⟩ : ∃ W1, (w.alloc (.cells (byts key).toArray 76)).alloc (.cells #[.int .i64 x.ev.kind, .string x.ev.id, .string x.ev.name, .string x.ev.label, .string x.ev.cur, .int .i64 x.ev.day, .int .i64 x.ev.value, x.ev.term.val, .bool x.no] 86) = W1 := ⟨_, rfl⟩
  rw [hW1] at f0 f1 f2 f3 f4 f5 f6 f7 f8 hbA hb0 hkb
  unfold RetPk at hpe
  unfold En.val at hpe ⊢
  have HT := Lib.hid ht; have HW1 := Lib.hid hW1; have HPE := Lib.hid hpe; have HKB := Lib.hid hkb; have HBA := Lib.hid hbA; have HKL := Lib.hid hkl
  clear hW1 hpe hkb hbA ht hb0 hkl
  by_cases hz : x.ev.check = 0
  · have HP : Hid (x.next key h = sipSum key (bytesI h ++ x.pack)) := by show _ = _; unfold En.next; rw [if_pos hz]
    rw [hz] at HPE ⊢
    rw [HP.out]
    clear hz HP
    generalize x.pack = l at *
    have HPL := Lib.hid hpl
    clear hpl
    go_enter Tryd.func36, Tryd.ntmps36
    go_upto_region 1 with fail
    rw [HW1.out]
    go_wp2_with fail
    refine (HPE.out _ (HT.out.below HBA.out)).mono ?_
    rintro en w2 ⟨vb, rfl, hOb, hb2⟩
    obtain ⟨Ab, cb, rfl, hRb, -, -⟩ := hOb.read
    have hk2 := HKB.out.below hb2
    have hB2 := bl_step hb2 HBA.out
    clear f0 f1 f2 f3 f4 f5 f6 f7 f8 HW1 hOb hb2 HPE HKB HBA HT
    go_upto_region 4 with fail
    have hra : w2.rangeAt w.heap.size 0 (byts key) := hk2.range
    have hu := Tryd.underlying76
    have hi : (Tryd.prog.info? 76).map (·.size) = some (byts key).length := by rw [byts_length, HKL.out]; kernel_rfl
    refine wp_region_noPanic ?_
    refine wp_region_held_drew (S := fun w' => w'.rangeAt w.heap.size 0 (byts key)) (by kernel_rfl) hra (fun hHeld => ?_)
    have hB0 := hB2.drew
    have hR0 : Rd w2.drew _ _ := hRb
    have hk0 := hk2.drew
    clear hra hB2 hRb hk2
    generalize w2.drew = w0 at hHeld hB0 hR0 hk0 ⊢
    have hpl := HPL.out
    refine wpAnyH_take (i := 0) (oi := ⟨some 18, .load 76 (.tmp 3), _, _, _, _⟩) (v := .agg (List.toArray (byts key))) rfl (by kernel_rfl) (by kernel_rfl) (by kernel_rfl) (fun _ _ _ h => h) (yieldsIf_load_mid (by rfl) _ _ rfl _ _ rfl (byts key) _ (fun w h => h) hu rfl hi) (by assumption) ?_
    simp only [Act.put, List.setIfInBounds_toArray, List.set_cons_zero, List.set_cons_succ]
    refine wpAnyH_take (i := 1) (oi := ⟨some 19, .move (.tmp 1), _, _, _, _⟩) (v := .int .u64 h) rfl (by kernel_rfl) (by kernel_rfl) (by kernel_rfl) (fun _ _ _ h => h) (Or.inl ⟨by rfl, ?_⟩) (by assumption) ?_
    · intro w hSw; go_simp; try with_reducible rfl
    simp only [Act.put, List.setIfInBounds_toArray, List.set_cons_zero, List.set_cons_succ]
    refine wpAnyH_take (i := 3) (oi := ⟨some 21, .move (.tmp 8), _, _, _, _⟩) (v := .slice Ab l.length cb) rfl (by kernel_rfl) (by kernel_rfl) (by kernel_rfl) (fun _ _ _ h => h) (Or.inl ⟨by rfl, ?_⟩) (by assumption) ?_
    · intro w hSw; go_simp; try with_reducible rfl
    simp only [Act.put, List.setIfInBounds_toArray, List.set_cons_zero, List.set_cons_succ]
    refine wpAnyH_ready (rs := [2]) (by kernel_rfl) (by simp) ?_
    refine AllReadyH.cons (o := ⟨some 20, .call _, _, _, _, _⟩) rfl (fun K hK => ?_) AllReadyH.nil
    go_simp
    refine (bytes_calls h hh _).mono ?_
    rintro e w3 ⟨v, rfl, HO, hb⟩
    go_wp2_with fail
    refine hK.out _ _ ?_ (fun hHeld => ?_)
    · exact range_below hHeld hb
    clear hK K
    try simp only [Act.put, List.setIfInBounds_toArray, List.set_cons_zero, List.set_cons_succ]
    have hB1 := bl_step hb hB0
    have hk1 := hk0.below hb
    have hR1 := hR0.below hb
    have hO1 := HO.mono hB0.size
    clear hb hB0 hR0 hk0 HO
    refine wpAnyH_ready (rs := [4]) (by kernel_rfl) (by simp) ?_
    refine AllReadyH.cons (o := ⟨some 22, .call _, _, _, _, _⟩) rfl (fun K hK => ?_) AllReadyH.nil
    refine Eq.mpr (if_pos (by rfl)) ?_
    refine append_anyW (w0 := w) _ _ 74 5 _ 1 1 rfl Tryd.underlying74 info_u8 rfl (by decide) _ 8 _ Ab _ cb _ hO1 hB1 hR1 rfl rfl (by rw [byts_length, Nat.mul_one]) (byts_one _) (by omega) (by omega) ?_
    intro v1 w4 HO4 HB4 HG4
    have hk4 := hk1.grown HG4 (hO1.ne_blk hk1 (by decide))
    refine hK.out _ _ hk4.range (fun hHeld2 => ?_)
    clear hK K hHeld hO1 hB1 hR1 HG4 hk1
    have hHeld := hHeld2
    clear hHeld2
    simp only [Act.put, List.setIfInBounds_toArray, List.set_cons_zero, List.set_cons_succ]
    obtain ⟨A4, c4, rfl, hR4, hc4, -⟩ := HO4.read
    have hby : byts (bytesI h) ++ byts l = byts (bytesI h ++ l) := by unfold byts; rw [List.map_append]
    rw [hby] at hR4
    have hln : (bytesI h ++ l).length = 8 + l.length := by rw [List.length_append, bytesI_length]
    refine wpAnyH_ready (rs := [5]) (by kernel_rfl) (by simp) ?_
    refine AllReadyH.cons (o := ⟨some 23, .call _, _, _, _, _⟩) rfl (fun K hK => ?_) AllReadyH.nil
    go_simp
    refine (sum_at key HKL.out A4 c4 (8 + l.length) (bytesI h ++ l) _ hln hR4 (by omega) hc4).mono ?_
    rintro e w5 ⟨rfl, hb⟩
    have hk5 := hk4.below hb
    go_wp2_with fail
    refine hK.out _ _ ?_ (fun hHeld => ?_)
    · exact hk5.range
    clear hK K
    try simp only [Act.put, List.setIfInBounds_toArray, List.set_cons_zero, List.set_cons_succ]
    have hB5 := bl_step hb HB4
    clear hb HB4 HO4 hk4 hR4
    obtain ⟨r, hr⟩ : ∃ r, sipSum key (bytesI h ++ l) = r := ⟨_, rfl⟩
    simp only [hr]
    have HR := Lib.hid hr
    clear hr
    refine wpAnyH_take (i := 6) (oi := ⟨some 6, .assign (.tmp 23), _, _, _, _⟩) (v := .int .u64 r) rfl (by kernel_rfl) (by kernel_rfl) (by kernel_rfl) (fun _ _ _ h => h) (Or.inl ⟨by rfl, ?_⟩) (by assumption) ?_
    · intro w hSw; go_simp; try with_reducible rfl
    simp only [Act.put, List.setIfInBounds_toArray, List.set_cons_zero, List.set_cons_succ]
    refine wpAnyH_take (i := 7) (oi := ⟨some 7, .assign _, _, _, _, _⟩) (v := .int .i64 0) rfl (by kernel_rfl) (by kernel_rfl) (by kernel_rfl) (fun _ _ _ h => h) (Or.inl ⟨by rfl, ?_⟩) (by assumption) ?_
    · intro w hSw; go_simp; try with_reducible rfl
    simp only [Act.put, List.setIfInBounds_toArray, List.set_cons_zero, List.set_cons_succ]
    refine wpAnyH_done (by kernel_rfl) ?_ _
    refine NoPanic.normal ?_
    go_wp2_with fail
    go_ret2
    exact ⟨by rw [HR.out]; rfl, hB5⟩
  · have HP : Hid (x.next key h = 0) := by show _ = _; unfold En.next; rw [if_neg hz]
    have hzb : (x.ev.check != 0) = true := by simp [hz]
    rw [HP.out]
    generalize x.ev.check = er at *
    clear hz HP
    go_enter Tryd.func36, Tryd.ntmps36
    go_upto_region 1 with fail
    rw [HW1.out]
    go_wp2_with fail
    refine (HPE.out _ (HT.out.below HBA.out)).mono ?_
    rintro en w2 ⟨vb, rfl, hOb, hb2⟩
    go_wp2_with fail
    go_ret2
    exact ⟨rfl, bl_step hb2 HBA.out⟩
end Go.Proofs.YtapbkomicihkkaaDoor
