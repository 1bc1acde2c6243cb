/- A law's ledger, step by step: what each call leaves. -/
import Derived.Test.YtnekcijganhknaaGreatDoorLdiG
import Derived.Test.YtnekcijganhknaaGreatDoorOwn
namespace Go.Proofs.YtnekcijganhknaaGreatDoor
open Go.RowKit
set_option linter.unusedVariables false
set_option linter.unusedSimpArgs false

/-- An event that a law hands in. -/
structure Ev.fair (e : Ev) : Prop where
  ok : e.ok
  meas : e.term.meas ≤ 1099511627776
  id : e.id.size ≤ 1000000
  name : e.name.size ≤ 1000000
  label : e.label.size ≤ 1000000
  cur : e.cur.size ≤ 1000000
set_option maxRecDepth 100000 in
set_option maxHeartbeats 4000000 in
theorem ldo_calls {w0 w : World} {b : Nat} {l : Lg} {m : Nat} (hm : m ≤ 1000000) (ho : l.ok m) (h : LgAt w0 w b l) (hb : Below w0.heap.size w0 w) (ht : TabOk w) (e : Ev) (by_ : Int) (hf : e.fair) :
    Calls Tryz.prog 40 #[.pointer (some ⟨b, 0, none⟩), e.val, .int .i64 by_] w (StepPost w0 b (l.try_ e by_)) := by
  have HT : Hid (l.try_ e by_ = if by_ ≠ 0 ∧ by_ ≠ 1 then (l, 1) else if e.check ≠ 0 then (l, e.check)
    else if e.kind = 2 then l.trade e else if e.kind = 3 then l.fixing e else if e.kind = 4 then l.choice e by_ else if e.kind = 6 then l.settle e
    else if e.kind = 5 then (if e.day ≤ l.day then (l, 7) else (⟨e.day, l.deals, l.w, l.paid⟩, 0)) else (l, 0)) := rfl
  have he := hf.ok
  obtain ⟨vd, bw, g1, g2, gp, h⟩ := h
  have hc7 := e.term.cells_ he.term; have ho7 := e.term.one_ he.term
  obtain ⟨W1, hW1⟩ : ∃ W1, w.alloc (.cells e.cells 40) = W1 := ⟨_, rfl⟩
  have hb1 : Below w.heap.size w W1 := by rw [← hW1]; exact bl_alloc (bl_refl w) _
  have hk1 : Blk W1 w.heap.size e.cells 40 := by rw [← hW1]; exact Blk.new w _ _
  have HLG := Lib.hid (h.below hb1); have HOK := Lib.hid ho; have HW1 := Lib.hid hW1; have HB1 := Lib.hid hb1; have HK1 := Lib.hid hk1; have HB := Lib.hid (bl_step hb1 hb)
  have HCK := Lib.hid (echeck_calls e he hf.meas W1 (ht.below hb1))
  have HTR := fun (W : World) (h : LgAt w0 W b l) (hb : Below w0.heap.size w0 W) => trade_calls ho h hb e he hf.meas hf.id
  have HFX := fun (W : World) (h : LgAt w0 W b l) (hb : Below w0.heap.size w0 W) => fixing_calls ho h hb e he hf.name
  have HCH := fun (W : World) (h : LgAt w0 W b l) (hb : Below w0.heap.size w0 W) => lchoice_calls hm ho h hb e by_ he hf.id hf.label
  have HST := fun (W : World) (h : LgAt w0 W b l) (hb : Below w0.heap.size w0 W) => settle_calls hm ho h hb e he hf.cur
  have HTR := Lib.hid HTR; have HFX := Lib.hid HFX; have HCH := Lib.hid HCH; have HST := Lib.hid HST
  have hev := hk1
  obtain ⟨j0, j1, j2, j3, j4, j5, j6, j7⟩ := Blk.evs (e := e) hk1
  have HTO := Lib.hid he.term
  generalize l.try_ e by_ = q at *
  clear h ho hW1 hb1 hk1 hb hev ht hm
  unfold StepPost at *
  unfold Ev.val at *
  unfold Ev.cells at *
  by_cases hby : by_ ≠ 0 ∧ by_ ≠ 1
  · have HQ : Hid (q = (l, 1)) := HT.out.trans (if_pos hby)
    have b0 : (by_ != 0) = true := by simp [hby.1]
    have b1 : (by_ != 1) = true := by simp [hby.2]
    clear HT hby
    go_enter Tryz.func40, Tryz.ntmps40
    go_upto_region 1 with fail
    rw [HW1.out]
    go_wp2_with fail
    go_ret
    rw [HQ.out]
    exact StepPost.bad (by decide) HB.out
  · have hby2 : by_ = 0 ∨ by_ = 1 := by omega
    have HT2 : Hid (q = if e.check ≠ 0 then (l, e.check) else if e.kind = 2 then l.trade e else if e.kind = 3 then l.fixing e else if e.kind = 4 then l.choice e by_ else if e.kind = 6 then l.settle e else if e.kind = 5 then (if e.day ≤ l.day then (l, 7) else (⟨e.day, l.deals, l.w, l.paid⟩, 0)) else (l, 0)) := HT.out.trans (if_neg hby)
    have hbb : ((by_ != 0) && (by_ != 1)) = false := by rcases hby2 with rfl | rfl <;> rfl
    clear HT hby
    rcases hby2 with rfl | rfl
    · clear hbb
      by_cases hc : e.check = 0
      · rw [hc] at HCK
        have HT3 : Hid (q = if e.kind = 2 then l.trade e else if e.kind = 3 then l.fixing e else if e.kind = 4 then l.choice e 0 else if e.kind = 6 then l.settle e else if e.kind = 5 then (if e.day ≤ l.day then (l, 7) else (⟨e.day, l.deals, l.w, l.paid⟩, 0)) else (l, 0)) := HT2.out.trans (if_neg (by simp [hc]))
        clear HT2 hc
        by_cases hk : e.kind = 2
        · have HQ : Hid (q = l.trade e) := HT3.out.trans (by exact if_pos hk)
          have h1 : (e.kind == 2) = true := by rw [hk]; rfl
          have h2 : (e.kind == 3) = false := by rw [hk]; rfl
          have h3 : (e.kind == 4) = false := by rw [hk]; rfl
          have h4 : (e.kind == 6) = false := by rw [hk]; rfl
          have h5 : (e.kind == 5) = false := by rw [hk]; rfl
          clear HT3 hk 
          go_enter Tryz.func40, Tryz.ntmps40
          go_upto_region 1 with fail
          rw [HW1.out]
          go_wp2_with fail
          refine (HCK.out).mono ?_
          rintro en w2 ⟨rfl, hb2⟩
          have k2 := HK1.out.below hb2
          obtain ⟨k0, k1, k2', k3, k4, k5, k6, k7⟩ := Blk.evs (e := e) k2
          have HB2 := Lib.hid (bl_step hb2 HB.out); have HL2 := Lib.hid (HLG.out.below hb2)
          clear hb2 k2
          go_wp2_with fail
          refine (HTR.out _ ⟨_, _, _, _, _, HL2.out⟩ HB2.out).mono ?_
          rintro en w3 ⟨rfl, hl3, hb3⟩
          have HL3 := Lib.hid hl3; have HB3 := Lib.hid hb3
          clear hl3 hb3
          go_wp2_with fail
          go_ret
          rw [HQ.out]
          exact ⟨rfl, HL3.out, HB3.out⟩
        · have hk0 := hk
          clear hk
          by_cases hk : e.kind = 3
          · have HQ : Hid (q = l.fixing e) := HT3.out.trans (by rw [if_neg hk0]; exact if_pos hk)
            have h1 : (e.kind == 2) = false := by rw [hk]; rfl
            have h2 : (e.kind == 3) = true := by rw [hk]; rfl
            have h3 : (e.kind == 4) = false := by rw [hk]; rfl
            have h4 : (e.kind == 6) = false := by rw [hk]; rfl
            have h5 : (e.kind == 5) = false := by rw [hk]; rfl
            clear HT3 hk hk0
            go_enter Tryz.func40, Tryz.ntmps40
            go_upto_region 1 with fail
            rw [HW1.out]
            go_wp2_with fail
            refine (HCK.out).mono ?_
            rintro en w2 ⟨rfl, hb2⟩
            have k2 := HK1.out.below hb2
            obtain ⟨k0, k1, k2', k3, k4, k5, k6, k7⟩ := Blk.evs (e := e) k2
            have HB2 := Lib.hid (bl_step hb2 HB.out); have HL2 := Lib.hid (HLG.out.below hb2)
            clear hb2 k2
            go_wp2_with fail
            refine (HFX.out _ ⟨_, _, _, _, _, HL2.out⟩ HB2.out).mono ?_
            rintro en w3 ⟨rfl, hl3, hb3⟩
            have HL3 := Lib.hid hl3; have HB3 := Lib.hid hb3
            clear hl3 hb3
            go_wp2_with fail
            go_ret
            rw [HQ.out]
            exact ⟨rfl, HL3.out, HB3.out⟩
          · have hk1 := hk
            clear hk
            by_cases hk : e.kind = 4
            · have HQ : Hid (q = l.choice e 0) := HT3.out.trans (by rw [if_neg hk0]; rw [if_neg hk1]; exact if_pos hk)
              have h1 : (e.kind == 2) = false := by rw [hk]; rfl
              have h2 : (e.kind == 3) = false := by rw [hk]; rfl
              have h3 : (e.kind == 4) = true := by rw [hk]; rfl
              have h4 : (e.kind == 6) = false := by rw [hk]; rfl
              have h5 : (e.kind == 5) = false := by rw [hk]; rfl
              clear HT3 hk hk0 hk1
              go_enter Tryz.func40, Tryz.ntmps40
              go_upto_region 1 with fail
              rw [HW1.out]
              go_wp2_with fail
              refine (HCK.out).mono ?_
              rintro en w2 ⟨rfl, hb2⟩
              have k2 := HK1.out.below hb2
              obtain ⟨k0, k1, k2', k3, k4, k5, k6, k7⟩ := Blk.evs (e := e) k2
              have HB2 := Lib.hid (bl_step hb2 HB.out); have HL2 := Lib.hid (HLG.out.below hb2)
              clear hb2 k2
              go_wp2_with fail
              refine (HCH.out _ ⟨_, _, _, _, _, HL2.out⟩ HB2.out).mono ?_
              rintro en w3 ⟨rfl, hl3, hb3⟩
              have HL3 := Lib.hid hl3; have HB3 := Lib.hid hb3
              clear hl3 hb3
              go_wp2_with fail
              go_ret
              rw [HQ.out]
              exact ⟨rfl, HL3.out, HB3.out⟩
            · have hk2 := hk
              clear hk
              by_cases hk : e.kind = 6
              · have HQ : Hid (q = l.settle e) := HT3.out.trans (by rw [if_neg hk0]; rw [if_neg hk1]; rw [if_neg hk2]; exact if_pos hk)
                have h1 : (e.kind == 2) = false := by rw [hk]; rfl
                have h2 : (e.kind == 3) = false := by rw [hk]; rfl
                have h3 : (e.kind == 4) = false := by rw [hk]; rfl
                have h4 : (e.kind == 6) = true := by rw [hk]; rfl
                have h5 : (e.kind == 5) = false := by rw [hk]; rfl
                clear HT3 hk hk0 hk1 hk2
                go_enter Tryz.func40, Tryz.ntmps40
                go_upto_region 1 with fail
                rw [HW1.out]
                go_wp2_with fail
                refine (HCK.out).mono ?_
                rintro en w2 ⟨rfl, hb2⟩
                have k2 := HK1.out.below hb2
                obtain ⟨k0, k1, k2', k3, k4, k5, k6, k7⟩ := Blk.evs (e := e) k2
                have HB2 := Lib.hid (bl_step hb2 HB.out); have HL2 := Lib.hid (HLG.out.below hb2)
                clear hb2 k2
                go_wp2_with fail
                refine (HST.out _ ⟨_, _, _, _, _, HL2.out⟩ HB2.out).mono ?_
                rintro en w3 ⟨rfl, hl3, hb3⟩
                have HL3 := Lib.hid hl3; have HB3 := Lib.hid hb3
                clear hl3 hb3
                go_wp2_with fail
                go_ret
                rw [HQ.out]
                exact ⟨rfl, HL3.out, HB3.out⟩
              · have hk3 := hk
                clear hk
                by_cases hk : e.kind = 5
                · have HQ1 : Hid (q = if e.day ≤ l.day then (l, 7) else (⟨e.day, l.deals, l.w, l.paid⟩, 0)) := HT3.out.trans (by rw [if_neg hk0, if_neg hk1, if_neg hk2, if_neg hk3]; exact if_pos hk)
                  have h1 : (e.kind == 2) = false := by rw [hk]; rfl
                  have h2 : (e.kind == 3) = false := by rw [hk]; rfl
                  have h3 : (e.kind == 4) = false := by rw [hk]; rfl
                  have h4 : (e.kind == 6) = false := by rw [hk]; rfl
                  have h5 : (e.kind == 5) = true := by rw [hk]; rfl
                  clear HT3 hk hk0 hk1 hk2 hk3
                  by_cases hd : e.day ≤ l.day
                  · have HQ : Hid (q = (l, 7)) := HQ1.out.trans (if_pos hd)
                    go_enter Tryz.func40, Tryz.ntmps40
                    go_upto_region 1 with fail
                    rw [HW1.out]
                    go_wp2_with fail
                    refine (HCK.out).mono ?_
                    rintro en w2 ⟨rfl, hb2⟩
                    have k2 := HK1.out.below hb2
                    obtain ⟨k0, k1, k2', k3, k4, k5, k6, k7⟩ := Blk.evs (e := e) k2
                    have HB2 := Lib.hid (bl_step hb2 HB.out); have HL2 := Lib.hid (HLG.out.below hb2)
                    clear hb2 k2
                    have c0 := HL2.out.blk.cell 0
                    go_wp2_with fail
                    go_quiet (fail)
                    go_wp2_with fail
                    go_ret
                    rw [HQ.out]
                    exact StepPost.bad (by decide) (bl_drewN HB2.out _)
                  · have HQ : Hid (q = (⟨e.day, l.deals, l.w, l.paid⟩, 0)) := HQ1.out.trans (if_neg hd)
                    have hd2 : l.day < e.day := by omega
                    go_enter Tryz.func40, Tryz.ntmps40
                    go_upto_region 1 with fail
                    rw [HW1.out]
                    go_wp2_with fail
                    refine (HCK.out).mono ?_
                    rintro en w2 ⟨rfl, hb2⟩
                    have k2 := HK1.out.below hb2
                    obtain ⟨k0, k1, k2', k3, k4, k5, k6, k7⟩ := Blk.evs (e := e) k2
                    have HB2 := Lib.hid (bl_step hb2 HB.out); have HL2 := Lib.hid (HLG.out.below hb2)
                    clear hb2 k2
                    have c0 := HL2.out.blk.cell 0
                    go_wp2_with fail
                    go_quiet (fail)
                    have c0' : (w2.drewN nq).cell? ⟨b, 0, none⟩ = some (.int .i64 l.day) := c0
                    have f0' : (w2.drewN nq).frozen? ⟨b, 0, none⟩ = false := HL2.out.blk.frozen 0
                    have l5' : (w2.drewN nq).cell? ⟨w.heap.size, 5, none⟩ = some (.int .i64 e.day) := k5
                    have HL3 : Hid (LgIn w0 (w2.drewN nq) b l vd bw g1 g2 gp) := HL2.out.below (bl_drewN (bl_refl _) _)
                    have HB3 := Lib.hid (bl_drewN HB2.out nq)
                    go_wp2_with fail
                    go_ret
                    rw [HQ.out]
                    exact ⟨rfl, fun _ => ⟨_, _, _, _, _, HL3.out.setDay e.day⟩, bl_grown HB3.out (gb_set 0 _) HL3.out.nb⟩
                · have HQ : Hid (q = (l, 0)) := HT3.out.trans (by rw [if_neg hk0, if_neg hk1, if_neg hk2, if_neg hk3]; exact if_neg hk)
                  have h1 : (e.kind == 2) = false := by simp [hk0]
                  have h2 : (e.kind == 3) = false := by simp [hk1]
                  have h3 : (e.kind == 4) = false := by simp [hk2]
                  have h4 : (e.kind == 6) = false := by simp [hk3]
                  have h5 : (e.kind == 5) = false := by simp [hk]
                  clear HT3 hk hk0 hk1 hk2 hk3
                  go_enter Tryz.func40, Tryz.ntmps40
                  go_upto_region 1 with fail
                  rw [HW1.out]
                  go_wp2_with fail
                  refine (HCK.out).mono ?_
                  rintro en w2 ⟨rfl, hb2⟩
                  have k2 := HK1.out.below hb2
                  obtain ⟨k0, k1, k2', k3, k4, k5, k6, k7⟩ := Blk.evs (e := e) k2
                  have HB2 := Lib.hid (bl_step hb2 HB.out); have HL2 := Lib.hid (HLG.out.below hb2)
                  clear hb2 k2
                  go_wp2_with fail
                  go_ret
                  rw [HQ.out]
                  exact ⟨rfl, fun _ => ⟨_, _, _, _, _, HL2.out⟩, HB2.out⟩
      · have HQ : Hid (q = (l, e.check)) := HT2.out.trans (if_pos hc)
        have hcb : (e.check != 0) = true := by simp [hc]
        have HZ := Lib.hid hc
        generalize e.check = ck at *
        clear HT2 hc
        go_enter Tryz.func40, Tryz.ntmps40
        go_upto_region 1 with fail
        rw [HW1.out]
        go_wp2_with fail
        refine (HCK.out).mono ?_
        rintro en w2 ⟨rfl, hb2⟩
        have k2 := HK1.out.below hb2
        obtain ⟨k0, k1, k2', k3, k4, k5, k6, k7⟩ := Blk.evs (e := e) k2
        have HB2 := Lib.hid (bl_step hb2 HB.out); have HL2 := Lib.hid (HLG.out.below hb2)
        clear hb2 k2
        go_wp2_with fail
        go_ret
        rw [HQ.out]
        exact StepPost.bad HZ.out HB2.out
    · clear hbb
      by_cases hc : e.check = 0
      · rw [hc] at HCK
        have HT3 : Hid (q = if e.kind = 2 then l.trade e else if e.kind = 3 then l.fixing e else if e.kind = 4 then l.choice e 1 else if e.kind = 6 then l.settle e else if e.kind = 5 then (if e.day ≤ l.day then (l, 7) else (⟨e.day, l.deals, l.w, l.paid⟩, 0)) else (l, 0)) := HT2.out.trans (if_neg (by simp [hc]))
        clear HT2 hc
        by_cases hk : e.kind = 2
        · have HQ : Hid (q = l.trade e) := HT3.out.trans (by exact if_pos hk)
          have h1 : (e.kind == 2) = true := by rw [hk]; rfl
          have h2 : (e.kind == 3) = false := by rw [hk]; rfl
          have h3 : (e.kind == 4) = false := by rw [hk]; rfl
          have h4 : (e.kind == 6) = false := by rw [hk]; rfl
          have h5 : (e.kind == 5) = false := by rw [hk]; rfl
          clear HT3 hk 
          go_enter Tryz.func40, Tryz.ntmps40
          go_upto_region 1 with fail
          rw [HW1.out]
          go_wp2_with fail
          refine (HCK.out).mono ?_
          rintro en w2 ⟨rfl, hb2⟩
          have k2 := HK1.out.below hb2
          obtain ⟨k0, k1, k2', k3, k4, k5, k6, k7⟩ := Blk.evs (e := e) k2
          have HB2 := Lib.hid (bl_step hb2 HB.out); have HL2 := Lib.hid (HLG.out.below hb2)
          clear hb2 k2
          go_wp2_with fail
          refine (HTR.out _ ⟨_, _, _, _, _, HL2.out⟩ HB2.out).mono ?_
          rintro en w3 ⟨rfl, hl3, hb3⟩
          have HL3 := Lib.hid hl3; have HB3 := Lib.hid hb3
          clear hl3 hb3
          go_wp2_with fail
          go_ret
          rw [HQ.out]
          exact ⟨rfl, HL3.out, HB3.out⟩
        · have hk0 := hk
          clear hk
          by_cases hk : e.kind = 3
          · have HQ : Hid (q = l.fixing e) := HT3.out.trans (by rw [if_neg hk0]; exact if_pos hk)
            have h1 : (e.kind == 2) = false := by rw [hk]; rfl
            have h2 : (e.kind == 3) = true := by rw [hk]; rfl
            have h3 : (e.kind == 4) = false := by rw [hk]; rfl
            have h4 : (e.kind == 6) = false := by rw [hk]; rfl
            have h5 : (e.kind == 5) = false := by rw [hk]; rfl
            clear HT3 hk hk0
            go_enter Tryz.func40, Tryz.ntmps40
            go_upto_region 1 with fail
            rw [HW1.out]
            go_wp2_with fail
            refine (HCK.out).mono ?_
            rintro en w2 ⟨rfl, hb2⟩
            have k2 := HK1.out.below hb2
            obtain ⟨k0, k1, k2', k3, k4, k5, k6, k7⟩ := Blk.evs (e := e) k2
            have HB2 := Lib.hid (bl_step hb2 HB.out); have HL2 := Lib.hid (HLG.out.below hb2)
            clear hb2 k2
            go_wp2_with fail
            refine (HFX.out _ ⟨_, _, _, _, _, HL2.out⟩ HB2.out).mono ?_
            rintro en w3 ⟨rfl, hl3, hb3⟩
            have HL3 := Lib.hid hl3; have HB3 := Lib.hid hb3
            clear hl3 hb3
            go_wp2_with fail
            go_ret
            rw [HQ.out]
            exact ⟨rfl, HL3.out, HB3.out⟩
          · have hk1 := hk
            clear hk
            by_cases hk : e.kind = 4
            · have HQ : Hid (q = l.choice e 1) := HT3.out.trans (by rw [if_neg hk0]; rw [if_neg hk1]; exact if_pos hk)
              have h1 : (e.kind == 2) = false := by rw [hk]; rfl
              have h2 : (e.kind == 3) = false := by rw [hk]; rfl
              have h3 : (e.kind == 4) = true := by rw [hk]; rfl
              have h4 : (e.kind == 6) = false := by rw [hk]; rfl
              have h5 : (e.kind == 5) = false := by rw [hk]; rfl
              clear HT3 hk hk0 hk1
              go_enter Tryz.func40, Tryz.ntmps40
              go_upto_region 1 with fail
              rw [HW1.out]
              go_wp2_with fail
              refine (HCK.out).mono ?_
              rintro en w2 ⟨rfl, hb2⟩
              have k2 := HK1.out.below hb2
              obtain ⟨k0, k1, k2', k3, k4, k5, k6, k7⟩ := Blk.evs (e := e) k2
              have HB2 := Lib.hid (bl_step hb2 HB.out); have HL2 := Lib.hid (HLG.out.below hb2)
              clear hb2 k2
              go_wp2_with fail
              refine (HCH.out _ ⟨_, _, _, _, _, HL2.out⟩ HB2.out).mono ?_
              rintro en w3 ⟨rfl, hl3, hb3⟩
              have HL3 := Lib.hid hl3; have HB3 := Lib.hid hb3
              clear hl3 hb3
              go_wp2_with fail
              go_ret
              rw [HQ.out]
              exact ⟨rfl, HL3.out, HB3.out⟩
            · have hk2 := hk
              clear hk
              by_cases hk : e.kind = 6
              · have HQ : Hid (q = l.settle e) := HT3.out.trans (by rw [if_neg hk0]; rw [if_neg hk1]; rw [if_neg hk2]; exact if_pos hk)
                have h1 : (e.kind == 2) = false := by rw [hk]; rfl
                have h2 : (e.kind == 3) = false := by rw [hk]; rfl
                have h3 : (e.kind == 4) = false := by rw [hk]; rfl
                have h4 : (e.kind == 6) = true := by rw [hk]; rfl
                have h5 : (e.kind == 5) = false := by rw [hk]; rfl
                clear HT3 hk hk0 hk1 hk2
                go_enter Tryz.func40, Tryz.ntmps40
                go_upto_region 1 with fail
                rw [HW1.out]
                go_wp2_with fail
                refine (HCK.out).mono ?_
                rintro en w2 ⟨rfl, hb2⟩
                have k2 := HK1.out.below hb2
                obtain ⟨k0, k1, k2', k3, k4, k5, k6, k7⟩ := Blk.evs (e := e) k2
                have HB2 := Lib.hid (bl_step hb2 HB.out); have HL2 := Lib.hid (HLG.out.below hb2)
                clear hb2 k2
                go_wp2_with fail
                refine (HST.out _ ⟨_, _, _, _, _, HL2.out⟩ HB2.out).mono ?_
                rintro en w3 ⟨rfl, hl3, hb3⟩
                have HL3 := Lib.hid hl3; have HB3 := Lib.hid hb3
                clear hl3 hb3
                go_wp2_with fail
                go_ret
                rw [HQ.out]
                exact ⟨rfl, HL3.out, HB3.out⟩
              · have hk3 := hk
                clear hk
                by_cases hk : e.kind = 5
                · have HQ1 : Hid (q = if e.day ≤ l.day then (l, 7) else (⟨e.day, l.deals, l.w, l.paid⟩, 0)) := HT3.out.trans (by rw [if_neg hk0, if_neg hk1, if_neg hk2, if_neg hk3]; exact if_pos hk)
                  have h1 : (e.kind == 2) = false := by rw [hk]; rfl
                  have h2 : (e.kind == 3) = false := by rw [hk]; rfl
                  have h3 : (e.kind == 4) = false := by rw [hk]; rfl
                  have h4 : (e.kind == 6) = false := by rw [hk]; rfl
                  have h5 : (e.kind == 5) = true := by rw [hk]; rfl
                  clear HT3 hk hk0 hk1 hk2 hk3
                  by_cases hd : e.day ≤ l.day
                  · have HQ : Hid (q = (l, 7)) := HQ1.out.trans (if_pos hd)
                    go_enter Tryz.func40, Tryz.ntmps40
                    go_upto_region 1 with fail
                    rw [HW1.out]
                    go_wp2_with fail
                    refine (HCK.out).mono ?_
                    rintro en w2 ⟨rfl, hb2⟩
                    have k2 := HK1.out.below hb2
                    obtain ⟨k0, k1, k2', k3, k4, k5, k6, k7⟩ := Blk.evs (e := e) k2
                    have HB2 := Lib.hid (bl_step hb2 HB.out); have HL2 := Lib.hid (HLG.out.below hb2)
                    clear hb2 k2
                    have c0 := HL2.out.blk.cell 0
                    go_wp2_with fail
                    go_quiet (fail)
                    go_wp2_with fail
                    go_ret
                    rw [HQ.out]
                    exact StepPost.bad (by decide) (bl_drewN HB2.out _)
                  · have HQ : Hid (q = (⟨e.day, l.deals, l.w, l.paid⟩, 0)) := HQ1.out.trans (if_neg hd)
                    have hd2 : l.day < e.day := by omega
                    go_enter Tryz.func40, Tryz.ntmps40
                    go_upto_region 1 with fail
                    rw [HW1.out]
                    go_wp2_with fail
                    refine (HCK.out).mono ?_
                    rintro en w2 ⟨rfl, hb2⟩
                    have k2 := HK1.out.below hb2
                    obtain ⟨k0, k1, k2', k3, k4, k5, k6, k7⟩ := Blk.evs (e := e) k2
                    have HB2 := Lib.hid (bl_step hb2 HB.out); have HL2 := Lib.hid (HLG.out.below hb2)
                    clear hb2 k2
                    have c0 := HL2.out.blk.cell 0
                    go_wp2_with fail
                    go_quiet (fail)
                    have c0' : (w2.drewN nq).cell? ⟨b, 0, none⟩ = some (.int .i64 l.day) := c0
                    have f0' : (w2.drewN nq).frozen? ⟨b, 0, none⟩ = false := HL2.out.blk.frozen 0
                    have l5' : (w2.drewN nq).cell? ⟨w.heap.size, 5, none⟩ = some (.int .i64 e.day) := k5
                    have HL3 : Hid (LgIn w0 (w2.drewN nq) b l vd bw g1 g2 gp) := HL2.out.below (bl_drewN (bl_refl _) _)
                    have HB3 := Lib.hid (bl_drewN HB2.out nq)
                    go_wp2_with fail
                    go_ret
                    rw [HQ.out]
                    exact ⟨rfl, fun _ => ⟨_, _, _, _, _, HL3.out.setDay e.day⟩, bl_grown HB3.out (gb_set 0 _) HL3.out.nb⟩
                · have HQ : Hid (q = (l, 0)) := HT3.out.trans (by rw [if_neg hk0, if_neg hk1, if_neg hk2, if_neg hk3]; exact if_neg hk)
                  have h1 : (e.kind == 2) = false := by simp [hk0]
                  have h2 : (e.kind == 3) = false := by simp [hk1]
                  have h3 : (e.kind == 4) = false := by simp [hk2]
                  have h4 : (e.kind == 6) = false := by simp [hk3]
                  have h5 : (e.kind == 5) = false := by simp [hk]
                  clear HT3 hk hk0 hk1 hk2 hk3
                  go_enter Tryz.func40, Tryz.ntmps40
                  go_upto_region 1 with fail
                  rw [HW1.out]
                  go_wp2_with fail
                  refine (HCK.out).mono ?_
                  rintro en w2 ⟨rfl, hb2⟩
                  have k2 := HK1.out.below hb2
                  obtain ⟨k0, k1, k2', k3, k4, k5, k6, k7⟩ := Blk.evs (e := e) k2
                  have HB2 := Lib.hid (bl_step hb2 HB.out); have HL2 := Lib.hid (HLG.out.below hb2)
                  clear hb2 k2
                  go_wp2_with fail
                  go_ret
                  rw [HQ.out]
                  exact ⟨rfl, fun _ => ⟨_, _, _, _, _, HL2.out⟩, HB2.out⟩
      · have HQ : Hid (q = (l, e.check)) := HT2.out.trans (if_pos hc)
        have hcb : (e.check != 0) = true := by simp [hc]
        have HZ := Lib.hid hc
        generalize e.check = ck at *
        clear HT2 hc
        go_enter Tryz.func40, Tryz.ntmps40
        go_upto_region 1 with fail
        rw [HW1.out]
        go_wp2_with fail
        refine (HCK.out).mono ?_
        rintro en w2 ⟨rfl, hb2⟩
        have k2 := HK1.out.below hb2
        obtain ⟨k0, k1, k2', k3, k4, k5, k6, k7⟩ := Blk.evs (e := e) k2
        have HB2 := Lib.hid (bl_step hb2 HB.out); have HL2 := Lib.hid (HLG.out.below hb2)
        clear hb2 k2
        go_wp2_with fail
        go_ret
        rw [HQ.out]
        exact StepPost.bad HZ.out HB2.out
end Go.Proofs.YtnekcijganhknaaGreatDoor
namespace Go.Proofs.YtnekcijganhknaaGreatDoor
open Go.RowKit
set_option linter.unusedVariables false
set_option linter.unusedSimpArgs false

theorem nameB_size {s : ByteArray} (h : nameB s = true) : s.size ≤ 48 := name_size s h
theorem payMore_len (k : Int × List UInt8) (n : Int) (l : List ((Int × List UInt8) × Int)) : (payMore k n l).length ≤ l.length + 1 := by
  rw [(payMore_lookup k n l).2.2]
  split <;> omega
theorem payMore_amt {k : Int × List UInt8} {n : Int} : ∀ {l : List ((Int × List UInt8) × Int)}, (∀ p ∈ l, -500000000000000 ≤ p.2 ∧ p.2 ≤ 500000000000000) → (-500000000000000 ≤ (l.lookup k).getD 0 + n ∧ (l.lookup k).getD 0 + n ≤ 500000000000000) → ∀ p ∈ payMore k n l, -500000000000000 ≤ p.2 ∧ p.2 ≤ 500000000000000
  | [], h, hn, p, hp => by
    obtain rfl := List.mem_singleton.1 hp
    simpa using hn
  | (a, m) :: l, h, hn, p, hp => by
    unfold payMore at hp
    by_cases e : k = a
    · subst e
      simp only [beq_self_eq_true, if_true] at hp
      rcases List.mem_cons.1 hp with rfl | hp
      · simpa [List.lookup] using hn
      · exact h p (by simp [hp])
    · have e1 : (k == a) = false := by rw [beq_eq_false_iff_ne]; exact e
      rw [e1] at hp
      simp only [Bool.false_eq_true, if_false] at hp
      rcases List.mem_cons.1 hp with rfl | hp
      · exact h _ (by simp)
      · exact payMore_amt (l := l) (fun p hp => h p (by simp [hp])) (by simpa [List.lookup, e1] using hn) p hp
theorem Ev.named_id {e : Ev} (h : e.named = true) (hk : e.kind = 2 ∨ e.kind = 4) : nameB e.id = true := by
  have h1 := List.all_eq_true.1 h (73, e.id) (by simp [Ev.texts])
  have h2 : hasB e.kind 73 = true := by rcases hk with hk | hk <;> rw [hk] <;> decide
  simpa [h2] using h1
/-- What a kind names is a name. -/
theorem Ev.check_id {e : Ev} (h : e.check = 0) (hk : e.kind = 2 ∨ e.kind = 4) : nameB e.id = true := by
  unfold Ev.check at h
  split at h
  · cases h
  · rename_i hn
    simp only [Bool.or_eq_true, not_or, Bool.not_eq_true'] at hn
    have h1 : e.named = true := by
      have := hn.2
      simpa using this
    exact Ev.named_id h1 hk
theorem cash_check {id : ByteArray} {t : Tm} {d : Int} {W : Wd} (h : (t.cash id d W).2 = 0) : t.check = 0 := by
  unfold Tm.cash at h
  split at h
  · cases h
  · rename_i hn
    exact Decidable.byContradiction fun e => hn (Or.inl e)
theorem Lg.ok.mono {l : Lg} {m m' : Nat} (h : l.ok m) (hm : m ≤ m') : l.ok m' := ⟨h.day, h.deals, h.max, h.w, h.fx, Nat.le_trans h.pk hm, Nat.le_trans h.pd hm, h.amt⟩
theorem Lg.try_ok {l : Lg} {m : Nat} (h : l.ok m) (e : Ev) (by_ : Int) (he : e.ok) : (l.try_ e by_).1.ok (m + 1) := by
  have h0 := h.mono (Nat.le_succ m)
  unfold Lg.try_
  split
  · exact h0
  split
  · exact h0
  rename_i hc
  have hc : e.check = 0 := Decidable.byContradiction hc
  split
  · rename_i hk
    unfold Lg.trade
    split
    · exact h0
    split
    · exact h0
    rename_i h8
    split
    · exact h0
    rename_i hz
    have hck := cash_check (Decidable.byContradiction hz)
    refine ⟨h.day, fun d hd => ?_, by simp; omega, h.w, h.fx, Nat.le_succ_of_le h.pk, Nat.le_succ_of_le h.pd, h.amt⟩
    rcases List.mem_append.1 hd with hd | hd
    · exact h.deals d hd
    · obtain rfl := List.mem_singleton.1 hd
      exact ⟨he.term, Tm.check_fits hck, h.day, nameB_size (Ev.check_id hc (Or.inl hk))⟩
  split
  · unfold Lg.fixing
    split
    · exact h0
    split
    · exact h0
    exact (h.fix e.name e.day e.value).mono (Nat.le_succ m)
  split
  · unfold Lg.choice
    split
    · exact h0
    split
    · exact h0
    split
    · exact h0
    split
    · exact h0
    split
    · exact h0
    have hw := Wd.choose_ok2 h.w e.id e.label e.value l.day
    refine ⟨h.day, h.deals, h.max, hw, ?_, ?_, Nat.le_succ_of_le h.pd, h.amt⟩
    · show (l.w.choose e.id e.label e.value l.day).1.fixes.length ≤ 32
      unfold Wd.choose
      repeat' split
      all_goals exact h.fx
    · show (l.w.choose e.id e.label e.value l.day).1.picks.length ≤ m + 1
      unfold Wd.choose
      repeat' split
      all_goals first | exact Nat.le_succ_of_le h.pk | (simp; exact h.pk)
  split
  · unfold Lg.settle
    split
    · exact h0
    split
    · exact h0
    split
    · exact h0
    have hb := Lg.paid_owed h e.day e.cur
    exact ⟨h.day, h.deals, h.max, h.w, h.fx, Nat.le_succ_of_le h.pk, Nat.le_trans (payMore_len _ _ _) (Nat.succ_le_succ h.pd), payMore_amt h.amt (by unfold Lg.paidOn at hb; omega)⟩
  split
  · split
    · exact h0
    rename_i hk _
    refine ⟨?_, h.deals, h.max, h.w, h.fx, Nat.le_succ_of_le h.pk, Nat.le_succ_of_le h.pd, h.amt⟩
    unfold Ev.check at hc
    split at hc
    · cases hc
    split at hc
    · cases hc
    rename_i hd
    unfold dayB
    show decide (0 ≤ e.day ∧ e.day ≤ 10000) = true
    rw [decide_eq_true_iff]
    omega
  · exact h0
theorem Lg.done_ok {l : Lg} {m : Nat} (h : l.ok m) (e : Ev) (by_ : Int) (he : e.ok) : (l.done e by_).1.ok (m + 1) := by
  unfold Lg.done
  split
  · exact Lg.try_ok h e by_ he
  · exact h.mono (Nat.le_succ m)
section
variable {w0 w : World} {b : Nat} {l : Lg} {m : Nat}
/-- What Do leaves. -/
def DoPost (w0 w : World) (b : Nat) (q : Lg × Int) (en : Ending) (w' : World) : Prop := en = .returned (.int .i64 q.2) ∧ LgAt w0 w' b q.1 ∧ w.grownBy w' (some b)
theorem LgAt.copy {w W : World} {b' : Nat} {l' : Lg} {cs : Array Value} {vd : Value} {bw g1 g2 gp : Nat} (h : LgIn w W b' l' vd bw g1 g2 gp) (hb : Blk W b cs 106) (h4 : cs.size = 4) (hlt : b < w.heap.size) (hw : w0.heap.size ≤ w.heap.size) (h0 : w0.heap.size ≤ b) (hB : Below w.heap.size w W) :
    LgAt w0 ((((W.setCell ⟨b, 0, none⟩ (.int .i64 l'.day)).setCell ⟨b, 1, none⟩ vd).setCell ⟨b, 2, none⟩ (.pointer (some ⟨bw, 0, none⟩))).setCell ⟨b, 3, none⟩ (.map (some gp))) b l' ∧ w.grownBy ((((W.setCell ⟨b, 0, none⟩ (.int .i64 l'.day)).setCell ⟨b, 1, none⟩ vd).setCell ⟨b, 2, none⟩ (.pointer (some ⟨bw, 0, none⟩))).setCell ⟨b, 3, none⟩ (.map (some gp))) (some b) := by
  have hg : W.grownBy ((((W.setCell ⟨b, 0, none⟩ (.int .i64 l'.day)).setCell ⟨b, 1, none⟩ vd).setCell ⟨b, 2, none⟩ (.pointer (some ⟨bw, 0, none⟩))).setCell ⟨b, 3, none⟩ (.map (some gp))) (some b) :=
    gb_trans (gb_trans (gb_trans (gb_set 0 _) (gb_set 1 _)) (gb_set 2 _)) (gb_set 3 _)
  have hk := (((hb.set 0 (.int .i64 l'.day)).set 1 vd).set 2 (.pointer (some ⟨bw, 0, none⟩))).set 3 (.map (some gp))
  have hcs : ((((cs.setIfInBounds 0 (.int .i64 l'.day)).setIfInBounds 1 vd).setIfInBounds 2 (.pointer (some ⟨bw, 0, none⟩))).setIfInBounds 3 (.map (some gp))) = #[.int .i64 l'.day, vd, .pointer (some ⟨bw, 0, none⟩), .map (some gp)] := by
    obtain ⟨x⟩ := cs
    match x, h4 with
    | [a, b, c, d], _ => simp
  rw [hcs] at hk
  have hne : b ≠ b' := fun e => by have := h.nb; omega
  have h1 := h.mono hw
  refine ⟨⟨vd, bw, g1, g2, gp, ⟨hk, ?_, ?_, ?_, h.n1, h.n2, h1.ng, h0⟩⟩, gb_trans (gb_below hB _) hg⟩
  · exact h1.dl.kept hg (.inr (h1.dl.ne_blk hb (by decide)))
  · exact h1.wd.grown hg (fun e => by injection e with e; exact hb.no_ty h1.wd.blk (by decide) e) (fun e => by injection e with e; exact MapAt.no_blk h1.wd.fx hb e) (fun e => by injection e with e; exact MapAt.no_blk h1.wd.pk hb e)
  · exact MapAt.kept h1.pd hg (fun e => by injection e with e; exact MapAt.no_blk h1.pd hb e.symm)
theorem LgAt.four (h : LgAt w0 w b l) : ∃ cs, Blk w b cs 106 ∧ cs.size = 4 := by
  obtain ⟨vd, bw, g1, g2, gp, h⟩ := h
  exact ⟨_, h.blk, rfl⟩
set_option maxRecDepth 100000 in
set_option maxHeartbeats 4000000 in
theorem lDo_calls (hw : w0.heap.size ≤ w.heap.size) (hm : m ≤ 1000000) (ho : l.ok m) (h : LgAt w0 w b l) (ht : TabOk w) (e : Ev) (by_ : Int) (hf : e.fair) :
    Calls Tryz.prog 13 #[.pointer (some ⟨b, 0, none⟩), e.val, .int .i64 by_] w (DoPost w0 w b (l.done e by_)) := by
  have HD : Hid (l.done e by_ = if (l.try_ e by_).2 = 0 then l.try_ e by_ else (l, (l.try_ e by_).2)) := rfl
  have hlt := h.lt
  have hbs := h.base
  have hf0 := hf
  have he := hf.ok
  have hc7 := e.term.cells_ he.term; have ho7 := e.term.one_ he.term
  obtain ⟨W1, hW1⟩ : ∃ W1, w.alloc (.cells e.cells 40) = W1 := ⟨_, rfl⟩
  have hb1 : Below w.heap.size w W1 := by rw [← hW1]; exact bl_alloc (bl_refl w) _
  have hk1 : Blk W1 w.heap.size e.cells 40 := by rw [← hW1]; exact Blk.new w _ _
  have HH := Lib.hid h; have HB1 := Lib.hid hb1; have HK1 := Lib.hid hk1; have HW1 := Lib.hid hW1; have HT := Lib.hid ht; have HF := Lib.hid hf
  have HCL := Lib.hid (fun (W : World) (h : LgAt w0 W b l) => lclone_calls ho h)
  have HDO := Lib.hid (fun (W0 W : World) (b' : Nat) (h : LgAt W0 W b' l) (hb : Below W0.heap.size W0 W) (ht : TabOk W) => ldo_calls hm ho h hb ht e by_ hf)
  clear h hb1 hk1 hW1 ht ho
  unfold LgNew at HCL
  unfold StepPost at HDO
  unfold Ev.val at *
  unfold Ev.cells at *
  generalize l.done e by_ = q at *
  generalize l.try_ e by_ = z at *
  unfold DoPost
  go_enter Tryz.func13, Tryz.ntmps13
  go_upto_region 1 with fail
  rw [HW1.out]
  go_wp2_with fail
  refine (HCL.out W1 (HH.out.below HB1.out)).mono ?_
  rintro en w2 ⟨b', rfl, hl2, hb2⟩
  obtain ⟨k0, k1, k2, k3, k4, k5, k6, k7⟩ := Blk.evs (e := e) (HK1.out.below hb2)
  have HL2 := Lib.hid hl2; have HB2 := Lib.hid hb2
  clear hl2 hb2
  go_wp2_with fail
  refine (HDO.out W1 w2 b' HL2.out HB2.out (HT.out.below (bl_step HB2.out HB1.out))).mono ?_
  rintro en w3 ⟨rfl, hl3, hb3⟩
  have HB3 := Lib.hid (bl_step hb3 HB1.out)
  have HL3 := Lib.hid hl3
  clear hl3 k0 k1 k2 k3 k4 k5 k6 k7
  by_cases hz : z.2 = 0
  · have HQ : Hid (q = z) := HD.out.trans (if_pos hz)
    obtain ⟨vd, bw, g1, g2, gp, h3⟩ := HL3.out hz
    have hH3 := HH.out.below HB3.out
    obtain ⟨cs, hk, h4⟩ := hH3.four
    have c0 := h3.blk.cell 0; have c1 := h3.blk.cell 1; have c2 := h3.blk.cell 2; have c3 := h3.blk.cell 3
    have hlb : b < w3.heap.size := hk.lt
    have hnb : b ≠ b' := fun e => by have := h3.nb; have := HB1.out.size; omega
    have d0 : w3.cell? ⟨b, 0, none⟩ = some cs[0] := (hk.cell 0).trans (by simp [h4])
    have d1 : w3.cell? ⟨b, 1, none⟩ = some cs[1] := (hk.cell 1).trans (by simp [h4])
    have d2 : w3.cell? ⟨b, 2, none⟩ = some cs[2] := (hk.cell 2).trans (by simp [h4])
    have d3 : w3.cell? ⟨b, 3, none⟩ = some cs[3] := (hk.cell 3).trans (by simp [h4])
    have f0 := hk.frozen 0; have f1 := hk.frozen 1; have f2 := hk.frozen 2; have f3 := hk.frozen 3
    obtain ⟨Av, cv, rfl, -, -, -⟩ := h3.dl.read
    have hcp := LgAt.copy (w := w) (b := b) (h3.mono HB1.out.size) hk h4 hlt hw hbs HB3.out
    have HCP := Lib.hid hcp
    rw [hz]
    clear hb3 hcp h3 hk hH3
    go_wp2_with fail
    go_ret
    rw [HQ.out]
    exact ⟨by rw [hz]; rfl, HCP.out.1, HCP.out.2⟩
  · have HQ : Hid (q = (l, z.2)) := HD.out.trans (if_neg hz)
    have hzb : (z.2 == 0) = false := by simp [hz]
    clear hb3
    go_wp2_with fail
    go_ret
    rw [HQ.out]
    exact ⟨rfl, HH.out.below HB3.out, gb_below HB3.out _⟩
set_option maxRecDepth 100000 in
set_option maxHeartbeats 4000000 in
theorem lTry_calls (hm : m ≤ 1000000) (ho : l.ok m) (h : LgAt w0 w b l) (ht : TabOk w) (e : Ev) (by_ : Int) (hf : e.fair) :
    Calls Tryz.prog 25 #[.pointer (some ⟨b, 0, none⟩), e.val, .int .i64 by_] w fun en w' => en = .returned (.int .i64 (l.try_ e by_).2) ∧ Below w.heap.size w w' := by
  have hf0 := hf
  have he := hf.ok
  have hc7 := e.term.cells_ he.term; have ho7 := e.term.one_ he.term
  obtain ⟨W1, hW1⟩ : ∃ W1, w.alloc (.cells e.cells 40) = W1 := ⟨_, rfl⟩
  have hb1 : Below w.heap.size w W1 := by rw [← hW1]; exact bl_alloc (bl_refl w) _
  have hk1 : Blk W1 w.heap.size e.cells 40 := by rw [← hW1]; exact Blk.new w _ _
  have HH := Lib.hid h; have HB1 := Lib.hid hb1; have HK1 := Lib.hid hk1; have HW1 := Lib.hid hW1; have HT := Lib.hid ht; have HF := Lib.hid hf
  have HCL := Lib.hid (fun (W : World) (h : LgAt w0 W b l) => lclone_calls ho h)
  have HDO := Lib.hid (fun (W0 W : World) (b' : Nat) (h : LgAt W0 W b' l) (hb : Below W0.heap.size W0 W) (ht : TabOk W) => ldo_calls hm ho h hb ht e by_ hf)
  clear h hb1 hk1 hW1 ht ho
  unfold LgNew at HCL
  unfold StepPost at HDO
  unfold Ev.val at *
  unfold Ev.cells at *
  generalize l.try_ e by_ = z at *
  go_enter Tryz.func25, Tryz.ntmps25
  go_upto_region 1 with fail
  rw [HW1.out]
  refine wp_region_noPanic ?_
  refine wp_region_held_drew (S := fun w' => Rd w' (some ⟨w.heap.size, 0, none⟩) [.int .i64 e.kind, .string e.id, .string e.name, .string e.label, .string e.cur, .int .i64 e.day, .int .i64 e.value, e.term.val]) (by kernel_rfl) HK1.out.rd0 (fun hHeld => ?_)
  refine wpAnyH_world (fun W => Below W1.heap.size W1 W) (bl_drew (bl_refl _)) (fun W2 hb2 => ?_)
  refine wpAnyH_lst #[false, false, false, false, false, false] (by rfl) ?_
  clear hHeld
  refine wpAnyH_named (fun A0 hA0 => ?_)
  have HA0 := Lib.hid hA0
  refine sp_in A0 [7, 8, 9, 10, 11, 6] 12 [(0, .pointer (some ⟨b, 0, none⟩)), (2, .int .i64 by_), (4, .pointer (some ⟨w.heap.size, 0, none⟩))] (by rw [hA0]; rfl) (HK1.out.below hb2).rd0 (by rw [hA0]; exact ⟨rfl, rfl, rfl, trivial⟩) ?_
  clear hA0
  refine st 0 [0] rfl ?_
  refine slr 2 4 rfl ⟨w.heap.size, 0, none⟩ [.int .i64 e.kind, .string e.id, .string e.name, .string e.label, .string e.cur, .int .i64 e.day, .int .i64 e.value, e.term.val] _ (fun _ h => h) Tryz.underlying40 (by kernel_rfl) ?_
  refine st 3 [2] rfl ?_
  refine sr 1 (sc 1 [7] rfl (HCL.out W2 (HH.out.below (bl_step hb2 HB1.out))) ?_)
  rintro en W3 ⟨b', rfl, hl3, hb3⟩
  refine ⟨_, rfl, (HK1.out.below (bl_step hb3 hb2)).rd0, ?_⟩
  refine sr 4 (sc 4 [8, 9, 10] rfl (HDO.out W2 W3 b' hl3 hb3 (HT.out.below (bl_step hb3 (bl_step hb2 HB1.out)))) ?_)
  rintro en W4 ⟨rfl, hl4, hb4⟩
  refine ⟨_, rfl, (HK1.out.below (bl_step hb4 hb2)).rd0, ?_⟩
  refine st 5 [11] rfl ?_
  refine sp_done (fun A hO hN hS => NoPanic.normal ?_)
  obtain ⟨fo, hfo⟩ := hO.lit HA0.out
  have g6 := hN.get 6 rfl
  clear hO hN
  dsimp only [putL, List.set_cons_zero, List.set_cons_succ] at hfo
  subst hfo
  have g6 : fo 6 = .int .i64 z.2 := g6
  have HB4 := Lib.hid (bl_step hb4 (bl_step hb2 HB1.out))
  clear hb4 hb2 hb3 hl3 hl4 hS
  simp only [g6]
  go_wp2_with fail
  go_ret
  exact ⟨rfl, HB4.out⟩
end
end Go.Proofs.YtnekcijganhknaaGreatDoor
namespace Go.Proofs.YtnekcijganhknaaGreatDoor
open Go.RowKit
set_option linter.unusedVariables false
set_option linter.unusedSimpArgs false

theorem within_calls (v n : Int) (w : World) (hv : -9223372036854775808 ≤ v ∧ v ≤ 9223372036854775807) (hn : 1 ≤ n ∧ n ≤ 140737488355328) :
    Calls Tryz.prog 12 #[.int .i64 v, .int .i64 n] w fun e w' => e = .returned (.int .i64 (v % n)) ∧ w' = w := by
  go_enter Tryz.func12, Tryz.ntmps12
  obtain ⟨hv0, hv1⟩ := hv
  obtain ⟨hn0, hn1⟩ := hn
  have h1 : v.tmod n < n := Int.tmod_lt_of_pos _ (by omega)
  have h2 : -n < v.tmod n := by have := Int.lt_tmod_of_pos v (show 0 < n by omega); exact this
  have h3 := Lib.hid (Int.tmod_eq_emod (a := v) (b := n))
  have h4 := Int.emod_nonneg v (show n ≠ 0 by omega)
  have h5 := Int.emod_lt_of_pos v (show 0 < n by omega)
  go_wp2
  · go_ret
    refine ⟨?_, rfl⟩
    have h6 : v.tmod n < 0 := by assumption
    have h7 := h3.out
    split at h7
    · omega
    · show Ending.returned (.int .i64 (v.tmod n + n)) = _
      rw [show v.tmod n + n = v % n by omega]
  · go_ret
    refine ⟨?_, rfl⟩
    have h6 : 0 ≤ v.tmod n := by assumption
    have h7 := h3.out
    split at h7
    · show Ending.returned (.int .i64 (v.tmod n)) = _
      rw [show v.tmod n = v % n by omega]
    · omega
end Go.Proofs.YtnekcijganhknaaGreatDoor
namespace Go.Proofs.YtnekcijganhknaaGreatDoor
open Go.RowKit
set_option linter.unusedVariables false
set_option linter.unusedSimpArgs false

/-- A ledger of the law's own. -/
structure LS (w W : World) (b : Nat) (l : Lg) (m : Nat) : Prop where
  at_ : LgAt w W b l
  ok : l.ok m
  bel : Below w.heap.size w W
theorem LS.below {w W W1 : World} {b : Nat} {l : Lg} {m : Nat} (h : LS w W b l m) (hb : Below W.heap.size W W1) : LS w W1 b l m := ⟨h.at_.below hb, h.ok, bl_step hb h.bel⟩
section
variable {w W : World} {b : Nat} {l l' : Lg} {m : Nat} {k n : Int}
theorem lsnew_calls (hw : Below w.heap.size w W) : Calls Tryz.prog 11 #[] W fun en w' => ∃ b, en = .returned (.pointer (some ⟨b, 0, none⟩)) ∧ LS w w' b Lg.none 0 :=
  (lnew_calls W).mono fun en w' h => by
    obtain ⟨b, e, h1, h2⟩ := h
    exact ⟨b, e, h1.mono hw.size, Lg.none_ok, bl_step h2 hw⟩
theorem LS.do_ (h : LS w W b l m) (hm : m ≤ 1000000) (ht : TabOk w) (e : Ev) (by_ : Int) (hf : e.fair) (hd : l.done e by_ = (l', k)) :
    Calls Tryz.prog 13 #[.pointer (some ⟨b, 0, none⟩), e.val, .int .i64 by_] W fun en w' => en = .returned (.int .i64 k) ∧ LS w w' b l' (m + 1) ∧ W.grownBy w' (some b) :=
  (lDo_calls h.bel.size hm h.ok h.at_ (ht.below h.bel) e by_ hf).mono fun en w' q => by
    obtain ⟨q1, q2, q3⟩ := q
    have ho := Lg.done_ok h.ok e by_ hf.ok
    rw [hd] at q1 q2 ho
    exact ⟨q1, ⟨q2, ho, bl_grown h.bel q3 h.at_.base⟩, q3⟩
theorem LS.try_ (h : LS w W b l m) (hm : m ≤ 1000000) (ht : TabOk w) (e : Ev) (by_ : Int) (hf : e.fair) (hd : (l.try_ e by_).2 = k) :
    Calls Tryz.prog 25 #[.pointer (some ⟨b, 0, none⟩), e.val, .int .i64 by_] W fun en w' => en = .returned (.int .i64 k) ∧ LS w w' b l m ∧ Below W.heap.size W w' :=
  (lTry_calls hm h.ok h.at_ (ht.below h.bel) e by_ hf).mono fun en w' q => by
    obtain ⟨q1, q2⟩ := q
    rw [hd] at q1
    exact ⟨q1, h.below q2, q2⟩
theorem LS.owed (h : LS w W b l m) (d : Int) (c : ByteArray) (hd : In64 d) (hc : c.size ≤ 1000) (hn : l.owed d c = n) :
    Calls Tryz.prog 14 #[.pointer (some ⟨b, 0, none⟩), .int .i64 d, .string c] W fun en w' => en = .returned (.int .i64 n) ∧ LS w w' b l m ∧ Below W.heap.size W w' :=
  (lowed_calls d c hd (by unfold maxLen; omega) h.ok h.at_).mono fun en w' q => by
    obtain ⟨q1, q2⟩ := q
    rw [hn] at q1
    exact ⟨q1, h.below q2, q2⟩
theorem LS.paid (h : LS w W b l m) (d : Int) (c : ByteArray) (hd : In64 d) (hc : c.size ≤ 1000) (hn : l.paidOn d c = n) :
    Calls Tryz.prog 15 #[.pointer (some ⟨b, 0, none⟩), .int .i64 d, .string c] W fun en w' => en = .returned (.int .i64 n) ∧ LS w w' b l m ∧ Below W.heap.size W w' :=
  (lpaid_calls d c hd (by unfold maxLen; omega) h.at_).mono fun en w' q => by
    obtain ⟨q1, q2⟩ := q
    rw [hn] at q1
    subst q2
    exact ⟨q1, h, bl_refl _⟩
theorem LS.day (h : LS w W b l m) (hn : l.day = n) :
    Calls Tryz.prog 26 #[.pointer (some ⟨b, 0, none⟩)] W fun en w' => en = .returned (.int .i64 n) ∧ LS w w' b l m ∧ Below W.heap.size W w' :=
  (lday_calls h.at_).mono fun en w' q => by
    obtain ⟨q1, q2⟩ := q
    rw [hn] at q1
    subst q2
    exact ⟨q1, h, bl_refl _⟩
theorem LS.waits (h : LS w W b l m) {ws : List Wt} (hn : l.all.1.waits = ws) :
    Calls Tryz.prog 24 #[.pointer (some ⟨b, 0, none⟩)] W fun en w' => ∃ A c, en = .returned (.slice A ws.length c) ∧ Rd w' A (rowsW ws) ∧ (∀ ad, A = some ad → ∃ g, ad = ⟨g, 0, none⟩) ∧ LS w w' b l m ∧ Below W.heap.size W w' :=
  (lwaits_calls h.ok h.at_).mono fun en w' q => by
    obtain ⟨v, q1, q2, q3⟩ := q
    rw [hn] at q2
    obtain ⟨A, c, rfl, hr, ha⟩ := Own.addr q2
    exact ⟨A, c, q1, hr, ha, h.below q3, q3⟩
theorem LS.flows (h : LS w W b l m) {fs : List Fl} (hn : l.all.1.flows = fs) :
    Calls Tryz.prog 19 #[.pointer (some ⟨b, 0, none⟩)] W fun en w' => ∃ A c, en = .returned (.slice A fs.length c) ∧ Rd w' A (rowsF fs) ∧ (∀ ad, A = some ad → ∃ g, ad = ⟨g, 0, none⟩) ∧ LS w w' b l m ∧ Below W.heap.size W w' :=
  (lflows_calls h.ok h.at_).mono fun en w' q => by
    obtain ⟨v, q1, q2, q3⟩ := q
    rw [hn] at q2
    obtain ⟨A, c, rfl, hr, ha⟩ := Own.addr q2
    exact ⟨A, c, q1, hr, ha, h.below q3, q3⟩
end
/-! Events, and what they do. -/
def bs (l : List UInt8) : ByteArray := ⟨l.toArray⟩
def evT (id : ByteArray) (t : Tm) : Ev := ⟨2, id, ⟨#[]⟩, ⟨#[]⟩, ⟨#[]⟩, 0, 0, t⟩
def evF (name : ByteArray) (d v : Int) : Ev := ⟨3, ⟨#[]⟩, name, ⟨#[]⟩, ⟨#[]⟩, d, v, .odd .nilIface⟩
def evC (id label : ByteArray) (v : Int) : Ev := ⟨4, id, ⟨#[]⟩, label, ⟨#[]⟩, 0, v, .odd .nilIface⟩
def evD (d : Int) : Ev := ⟨5, ⟨#[]⟩, ⟨#[]⟩, ⟨#[]⟩, ⟨#[]⟩, d, 0, .odd .nilIface⟩
def evS (d : Int) (cur : ByteArray) (v : Int) : Ev := ⟨6, ⟨#[]⟩, ⟨#[]⟩, ⟨#[]⟩, cur, d, v, .odd .nilIface⟩
theorem isI_small {n : Int} (h : -1000000000000000 ≤ n ∧ n ≤ 1000000000000000) : IsInt64 n := by unfold IsInt64; omega
theorem Tm.write_ok {t : Tm} (ht : t.ok) (hc : t.check = 0) (hn : t.nodes ≤ 16) : t.write.2 = 0 := by
  unfold Tm.write
  rw [if_pos hc]
  have := t.text_size ht (Tm.check_zero t hc).1
  unfold toldS
  rw [if_neg (by omega)]
theorem evT_check {id : ByteArray} {t : Tm} (hi : nameB id = true) (ht : t.write.2 = 0) : (evT id t).check = 0 := by
  have h1 : qB 2 = false := by kernel_rfl
  have h2 : (evT id t).only = true := by simp [evT, Ev.only, Ev.onlyT, Ev.onlyR, Ev.texts, show hasB 2 73 = true by decide, show hasB 2 84 = true by decide]
  have h3 : (evT id t).named = true := by simp [evT, Ev.named, Ev.texts, hi, show hasB 2 78 = false by decide, show hasB 2 76 = false by decide, show hasB 2 67 = false by decide]
  unfold Ev.check
  rw [h2, h3]
  simp [evT, h1, ht, show validB 0 = true by decide]
theorem evF_check {s : ByteArray} {d v : Int} (hi : nameB s = true) (hd : dayB d = true) (hv : validB v = true) : (evF s d v).check = 0 := by
  have h1 : qB 3 = false := by kernel_rfl
  have h2 : (evF s d v).only = true := by simp [evF, Ev.only, Ev.onlyT, Ev.onlyR, Ev.texts, Tm.isNil, show hasB 3 78 = true by decide, show hasB 3 68 = true by decide, show hasB 3 86 = true by decide]
  have h3 : (evF s d v).named = true := by simp [evF, Ev.named, Ev.texts, hi, show hasB 3 73 = false by decide, show hasB 3 76 = false by decide, show hasB 3 67 = false by decide]
  unfold dayB at hd
  simp at hd
  unfold Ev.check
  rw [h2, h3]
  simp [evF, h1, hv, hd]
theorem evS_check {s : ByteArray} {d v : Int} (hi : nameB s = true) (hd : dayB d = true) (hv : validB v = true) : (evS d s v).check = 0 := by
  have h1 : qB 6 = false := by kernel_rfl
  have h2 : (evS d s v).only = true := by simp [evS, Ev.only, Ev.onlyT, Ev.onlyR, Ev.texts, Tm.isNil, show hasB 6 67 = true by decide, show hasB 6 68 = true by decide, show hasB 6 86 = true by decide]
  have h3 : (evS d s v).named = true := by simp [evS, Ev.named, Ev.texts, hi, show hasB 6 73 = false by decide, show hasB 6 76 = false by decide, show hasB 6 78 = false by decide]
  unfold dayB at hd
  simp at hd
  unfold Ev.check
  rw [h2, h3]
  simp [evS, h1, hv, hd]
theorem evD_check {d : Int} (hd : dayB d = true) : (evD d).check = 0 := by
  have h1 : qB 5 = false := by kernel_rfl
  have h2 : (evD d).only = true := by simp [evD, Ev.only, Ev.onlyT, Ev.onlyR, Ev.texts, Tm.isNil, show hasB 5 68 = true by decide]
  have h3 : (evD d).named = true := by simp [evD, Ev.named, Ev.texts, show hasB 5 73 = false by decide, show hasB 5 76 = false by decide, show hasB 5 78 = false by decide, show hasB 5 67 = false by decide]
  unfold dayB at hd
  simp at hd
  unfold Ev.check
  rw [h2, h3]
  simp [evD, h1, hd, show validB 0 = true by decide]
theorem evC_check {id s : ByteArray} {v : Int} (hi : nameB id = true) (hs : nameB s = true) (hv : v = 0 ∨ v = 1) : (evC id s v).check = 0 := by
  have h1 : qB 4 = false := by kernel_rfl
  have h2 : (evC id s v).only = true := by simp [evC, Ev.only, Ev.onlyT, Ev.onlyR, Ev.texts, Tm.isNil, show hasB 4 73 = true by decide, show hasB 4 76 = true by decide, show hasB 4 86 = true by decide]
  have h3 : (evC id s v).named = true := by simp [evC, Ev.named, Ev.texts, hi, hs, show hasB 4 78 = false by decide, show hasB 4 67 = false by decide]
  unfold Ev.check
  rw [h2, h3]
  rcases hv with rfl | rfl
  · simp [evC, h1, show validB 0 = true by decide]
  · simp [evC, h1, show validB 1 = true by decide]
section
variable {l : Lg} {e : Ev} {by_ : Int}
theorem try_in (hb : by_ = 0 ∨ by_ = 1) (hc : e.check = 0) : l.try_ e by_ = if e.kind = 2 then l.trade e else if e.kind = 3 then l.fixing e else if e.kind = 4 then l.choice e by_ else if e.kind = 6 then l.settle e else if e.kind = 5 then (if e.day ≤ l.day then (l, 7) else (⟨e.day, l.deals, l.w, l.paid⟩, 0)) else (l, 0) := by
  unfold Lg.try_
  rw [if_neg (by omega), if_neg (by simp [hc])]
theorem done_of {l' : Lg} (h : l.try_ e by_ = (l', 0)) : l.done e by_ = (l', 0) := by unfold Lg.done; rw [h]; rfl
theorem done_no {k : Int} (h : (l.try_ e by_).2 = k) (hk : k ≠ 0) : l.done e by_ = (l, k) := by unfold Lg.done; rw [h, if_neg hk]
theorem do_trade {id : ByteArray} {t : Tm} (hb : by_ = 0 ∨ by_ = 1) (hc : (evT id t).check = 0) (hn : l.deals.any (·.id.toList == id.toList) = false) (h8 : l.deals.length < 8) (hz : (t.cash id l.day l.w).2 = 0) : l.try_ (evT id t) by_ = (⟨l.day, l.deals ++ [⟨id, l.day, t⟩], l.w, l.paid⟩, 0) := by
  rw [try_in hb hc]
  show l.trade (evT id t) = _
  unfold Lg.trade
  show (if l.deals.any (·.id.toList == id.toList) = true then _ else _) = _
  rw [hn, if_neg (by decide), if_neg (by omega)]
  show (if (t.cash id l.day l.w).2 ≠ 0 then _ else _) = _
  rw [if_neg (by simp [hz])]
  rfl
theorem do_fix {s : ByteArray} {d v : Int} {D : Wd} (hb : by_ = 0 ∨ by_ = 1) (hc : (evF s d v).check = 0) (hd : d ≤ l.day) (hf : l.w.fix s d v = (D, 0)) : l.try_ (evF s d v) by_ = (⟨l.day, l.deals, D, l.paid⟩, (Lg.mk l.day l.deals D l.paid).all.2) := by
  rw [try_in hb hc]
  show l.fixing (evF s d v) = _
  unfold Lg.fixing
  show (if l.day < d then _ else if (l.w.fix s d v).2 ≠ 0 then _ else (Lg.mk l.day l.deals (l.w.fix s d v).1 l.paid, (Lg.mk l.day l.deals (l.w.fix s d v).1 l.paid).all.2)) = _
  rw [if_neg (by omega), hf]
  rfl
theorem do_settle {c : ByteArray} {d v : Int} (hb : by_ = 0 ∨ by_ = 1) (hc : (evS d c v).check = 0) (hd : d ≤ l.day) (ho : l.owed d c = v) : l.try_ (evS d c v) by_ = if v = 0 then (l, 3) else (⟨l.day, l.deals, l.w, payMore (d, c.toList) v l.paid⟩, 0) := by
  rw [try_in hb hc]
  show l.settle (evS d c v) = _
  unfold Lg.settle
  show (if l.day < d then _ else if l.owed d c = 0 then (l, 3) else if l.owed d c ≠ v then _ else (Lg.mk l.day l.deals l.w (payMore (d, c.toList) (l.owed d c) l.paid), 0)) = _
  rw [if_neg (by omega), ho]
  by_cases h : v = 0
  · rw [if_pos h, if_pos h]
  · rw [if_neg h, if_neg h, if_neg (by simp)]
theorem do_day {d : Int} (hb : by_ = 0 ∨ by_ = 1) (hc : (evD d).check = 0) (hd : l.day < d) : l.try_ (evD d) by_ = (⟨d, l.deals, l.w, l.paid⟩, 0) := by
  rw [try_in hb hc]
  show (if d ≤ l.day then _ else _) = _
  rw [if_neg (by omega)]
  rfl
end
def usd : ByteArray := ⟨#[117, 115, 100]⟩
def eur : ByteArray := ⟨#[101, 117, 114]⟩
end Go.Proofs.YtnekcijganhknaaGreatDoor
