/- The walk of WriteApart. -/
import Derived.Test.YtgcglongjjpkbaaDoorLawETerms
import Derived.Test.YtgcglongjjpkbaaDoorRight
import Derived.Test.YtgcglongjjpkbaaDoorPlan9
import Derived.Test.YtgcglongjjpkbaaDoorConv2
import Derived.Test.YtgcglongjjpkbaaDoorApart
import Derived.Test.YtgcglongjjpkbaaDoorWakes6
namespace Go.Proofs.YtgcglongjjpkbaaDoor
open Go.RowKit
set_option linter.unusedVariables false
set_option linter.unusedSimpArgs false

theorem Tm.write_text (t : Tm) (h : t.write.2 = 0) : t.write.1 = t.text ∧ t.form = true := by
  unfold Tm.write at *
  by_cases hc : t.check = 0
  · rw [if_pos hc] at h ⊢
    unfold toldS at *
    by_cases hs : 1000 < t.text.size
    · rw [if_pos hs] at h; simp at h
    · rw [if_neg hs]; exact ⟨rfl, (t.check_zero hc).1⟩
  · rw [if_neg hc] at h; exact absurd h hc
theorem Ob.write_text (t : Ob) (h : t.write.2 = 0) : t.write.1 = t.text ∧ t.form = true := by
  unfold Ob.write at *
  by_cases hc : t.check = 0
  · rw [if_pos hc] at h ⊢
    unfold toldS at *
    by_cases hs : 1000 < t.text.size
    · rw [if_pos hs] at h; simp at h
    · rw [if_neg hs]; exact ⟨rfl, (t.check_zero hc).1⟩
  · rw [if_neg hc] at h; exact absurd h hc
theorem Tm.apart (a b : Tm) (ha : a.fine) (h : a.write.2 = 0) (h' : b.write.2 = 0) : (a.write.1.toList == b.write.1.toList) = a.same b := by
  obtain ⟨e1, f1⟩ := a.write_text h
  obtain ⟨e2, f2⟩ := b.write_text h'
  rw [e1, e2]
  cases hs : a.same b with
  | true => rw [Tm.same_eq a b hs]; simp
  | false =>
    cases hx : (a.text.toList == b.text.toList) with
    | false => rfl
    | true =>
      have he := Tm.text_eq f1 f2 (ba_eq (by simpa using hx))
      rw [he] at ha hs
      rw [b.same_self ha] at hs
      cases hs
theorem Ob.apart (a b : Ob) (ha : a.fine) (h : a.write.2 = 0) (h' : b.write.2 = 0) : (a.write.1.toList == b.write.1.toList) = a.same b := by
  obtain ⟨e1, f1⟩ := a.write_text h
  obtain ⟨e2, f2⟩ := b.write_text h'
  rw [e1, e2]
  cases hs : a.same b with
  | true => rw [Ob.same_eq a b hs]; simp
  | false =>
    cases hx : (a.text.toList == b.text.toList) with
    | false => rfl
    | true =>
      have he := Ob.text_eq f1 f2 (ba_eq (by simpa using hx))
      rw [he] at ha hs
      rw [b.same_self ha] at hs
      cases hs
set_option maxRecDepth 100000 in
set_option maxHeartbeats 8000000 in
theorem wapart_calls (w : World) (vN vW vN' vW' : Value) (hp : PlanAt w vN vW) (hq : PlanAt w vN' vW') (ht : TabOk w) (same : Bool) :
    Calls Tryd.prog 6 #[.agg #[vN, vW], .agg #[vN', vW'], .bool same] w fun e w' => e = .returned (.bool true) ∧ Below w.heap.size w w' := by
  obtain ⟨⟨A1, n1, c1, xs1, rfl, hn1⟩, ⟨B1, m1, d1, ys1, rfl, hm1⟩⟩ := (show PlanAt w vN vW from hp)
  obtain ⟨⟨A2, n2, c2, xs2, rfl, hn2⟩, ⟨B2, m2, d2, ys2, rfl, hm2⟩⟩ := (show PlanAt w vN' vW' from hq)
  clear hn1 hm1 hn2 hm2
  obtain ⟨W1, hW1⟩ : ∃ W1, (w.alloc (.cells #[.slice A1 n1 c1, .slice B1 m1 d1] 37)).alloc (.cells #[.slice A2 n2 c2, .slice B2 m2 d2] 37) = W1 := ⟨_, rfl⟩
  have hb1 := bl_alloc (bl_alloc (bl_refl w) (.cells #[.slice A1 n1 c1, .slice B1 m1 d1] 37)) (.cells #[.slice A2 n2 c2, .slice B2 m2 d2] 37)
  have hk1 := (Blk.new w #[.slice A1 n1 c1, .slice B1 m1 d1] 37).below (bl_alloc (bl_refl _) (.cells #[.slice A2 n2 c2, .slice B2 m2 d2] 37))
  have hk2 := Blk_new (w.alloc (.cells #[.slice A1 n1 c1, .slice B1 m1 d1] 37)) #[.slice A2 n2 c2, .slice B2 m2 d2] 37 (w.heap.size + 1) (alloc_size _ _).symm
  rw [hW1] at hb1 hk1 hk2
  have p0 := hk1.cell 0
  have p1 := hk1.cell 1
  have q0 := hk2.cell 0
  have q1 := hk2.cell 1
  have z0 := hk2.frozen 0
  have z1 := hk2.frozen 1
  have HW1 := Lib.hid hW1; have HP := Lib.hid hp; have HQ := Lib.hid hq; have HT := Lib.hid ht; have HK1 := Lib.hid hk1; have HK2 := Lib.hid hk2
  clear hW1 hp hq ht hk1 hk2
  go_enter Tryd.func6, Tryd.ntmps6
  go_upto_if 19 with (rw [HW1.out])
  go_cut [] (fun wx => ∃ (A3 : Option Addr) (n3 c3 : Nat) (B3 : Option Addr) (m3 d3 : Nat), PlanAt w (.slice A3 n3 c3) (.slice B3 m3 d3) ∧ Blk wx w.heap.size #[.slice A1 n1 c1, .slice B1 m1 d1] 37 ∧ Blk wx (w.heap.size + 1) #[.slice A3 n3 c3, .slice B3 m3 d3] 37 ∧ Below w.heap.size w wx)
  case first =>
    cases same with
    | true =>
      go_wp2_with fail
      go_meet
      exact ⟨A1, n1, c1, B1, m1, d1, HP.out, (HK1.out.far ⟨w.heap.size + 1, 0, none⟩ (by show w.heap.size ≠ w.heap.size + 1; omega) _).far ⟨w.heap.size + 1, 1, none⟩ (by show w.heap.size ≠ w.heap.size + 1; omega) _, (HK2.out.set 0 _).set 1 _, bl_grown (bl_grown hb1 (gb_set 0 _) (by omega)) (gb_set 1 _) (by omega)⟩
    | false =>
      go_wp2_with fail
      go_meet
      exact ⟨A2, n2, c2, B2, m2, d2, HQ.out, HK1.out, HK2.out, hb1⟩
  clear p0 p1 q0 q1 z0 z1 hb1 HK1 HK2 HQ HW1
  clear W1
  obtain ⟨A3, n3, c3, B3, m3, d3, hq3, hk1, hk2, hbO⟩ := hcut
  rename World => wO
  have p0 := hk1.cell 0
  have p1 := hk1.cell 1
  have q0 := hk2.cell 0
  have q1 := hk2.cell 1
  have HQ := Lib.hid hq3; have HBO := Lib.hid hbO
  clear hq3 hk1 hk2 hbO
  go_upto_region 3 with fail
  go_region_held3 (fun w' => w'.cell? ⟨w.heap.size, 0, none⟩ = some (.slice A1 n1 c1) ∧ w'.cell? ⟨w.heap.size, 1, none⟩ = some (.slice B1 m1 d1) ∧ w'.cell? ⟨w.heap.size + 1, 0, none⟩ = some (.slice A3 n3 c3) ∧ w'.cell? ⟨w.heap.size + 1, 1, none⟩ = some (.slice B3 m3 d3)) (first | exact ⟨cell_below hbV p0, cell_below hbV p1, cell_below hbV q0, cell_below hbV q1⟩ | exact ⟨cell_below hbZ p0, cell_below hbZ p1, cell_below hbZ q0, cell_below hbZ q1⟩ | exact ⟨cell_below hbY p0, cell_below hbY p1, cell_below hbY q0, cell_below hbY q1⟩ | exact ⟨cell_below hbX p0, cell_below hbX p1, cell_below hbX q0, cell_below hbX q1⟩ | exact ⟨p0, p1, q0, q1⟩) ((first | (go_at_call 13; refine (cterm_calls t2 hf2.out _ _ _ hT2.out).mono ?_; rintro e wV ⟨rfl, hb4⟩; have hbV := bl_step hb4 hbZ) | (go_at_call 14; refine (rright_calls wY _ _ (HQ.out.below (bl_step hbY HBO.out))).mono ?_; rintro e wZ ⟨t2, v2, rfl, hTt2, hff2, hss2, hzz2, hb3⟩; obtain ⟨A5, c5, cs5, rfl, -, -⟩ := hTt2.open_; have hbZ := bl_step hb3 hbY; have hf2 := Lib.hid hff2; have hT2 := Lib.hid hTt2; have hs2 := Lib.hid hss2; clear hff2 hTt2 hss2 hzz2) | (go_at_call 13; refine (cterm_calls t1 hf1.out _ _ _ hT1.out).mono ?_; rintro e wY ⟨rfl, hb2⟩; have hbY := bl_step hb2 hbX) | (go_at_call 14; refine (rright_calls wO.drew _ _ (HP.out.below (bl_drew HBO.out))).mono ?_; rintro e wX ⟨t1, v1, rfl, hTt1, hff1, hss1, hzz1, hb1⟩; obtain ⟨A4, c4, cs4, rfl, -, -⟩ := hTt1.open_; have hbX := bl_step hb1 (bl_drew (bl_refl wO)); have hf1 := Lib.hid hff1; have hT1 := Lib.hid hTt1; have hs1 := Lib.hid hss1; clear hff1 hTt1 hss1 hzz1)))
  have hok1 := hf1.out.ok; have hok2 := hf2.out.ok
  have hti1 := t1.isI hok1; have hti2 := t2.isI hok2
  have hm1 := t1.fine_meas hf1.out; have hm2 := t2.fine_meas hf2.out
  have hp1 := hs1.out; have hp2 := hs2.out
  have htw1 := twrite_calls t1 hok1 (by omega) wV (HT.out.below (bl_step hbV HBO.out))
  have htw2 := fun W hW => twrite_calls t2 hok2 (by omega) W hW
  have HTS := Lib.hid (fun W => tsame_calls _ t1 t2 (Nat.le_refl _) hok1 hok2 W)
  have HTW1 := Lib.hid htw1; have HTW2 := Lib.hid htw2
  clear htw1 htw2 hm1 hm2 hp1 hp2 hs1 hs2 hT1 hT2 hb1 hb2 hb3 hb4 hbX hbY hbZ
  go_wp2_with fail
  refine (HTW1.out).mono ?_
  rintro e wA ⟨rfl, hbA⟩
  go_wp2_with fail
  refine (HTW2.out _ (HT.out.below (bl_step (bl_step hbA hbV) HBO.out))).mono ?_
  rintro e wB ⟨rfl, hbB0⟩
  have hbB := bl_step hbB0 (bl_step hbA hbV)
  clear hbB0 hbA hbV HTW1 HTW2
  go_upto_region 6 with fail
  go_region_held3 (fun w' => w'.cell? ⟨w.heap.size, 0, none⟩ = some (.slice A1 n1 c1) ∧ w'.cell? ⟨w.heap.size, 1, none⟩ = some (.slice B1 m1 d1) ∧ w'.cell? ⟨w.heap.size + 1, 0, none⟩ = some (.slice A3 n3 c3) ∧ w'.cell? ⟨w.heap.size + 1, 1, none⟩ = some (.slice B3 m3 d3)) (first | exact ⟨cell_below hbV2 p0, cell_below hbV2 p1, cell_below hbV2 q0, cell_below hbV2 q1⟩ | exact ⟨cell_below hbZ2 p0, cell_below hbZ2 p1, cell_below hbZ2 q0, cell_below hbZ2 q1⟩ | exact ⟨cell_below hbY2 p0, cell_below hbY2 p1, cell_below hbY2 q0, cell_below hbY2 q1⟩ | exact ⟨cell_below hbX2 p0, cell_below hbX2 p1, cell_below hbX2 q0, cell_below hbX2 q1⟩ | exact ⟨cell_below hbB p0, cell_below hbB p1, cell_below hbB q0, cell_below hbB q1⟩) ((first | (go_at_call 19; refine (cobs_calls o2 hg2.out _ _ _ hS2.out).mono ?_; rintro e wV2 ⟨rfl, hb4⟩; have hbV2 := bl_step hb4 hbZ2) | (go_at_call 20; refine (pnumber_calls wY2 _ _ (HQ.out.below (bl_step hbY2 HBO.out))).mono ?_; rintro e wZ2 ⟨o2, v2, rfl, hTt2, hff2, hss2, hb3⟩; obtain ⟨A7, c7, cs7, rfl, -, -⟩ := hTt2.open_; have hbZ2 := bl_step hb3 hbY2; have hg2 := Lib.hid hff2; have hS2 := Lib.hid hTt2; have hr2 := Lib.hid hss2; clear hff2 hTt2 hss2) | (go_at_call 19; refine (cobs_calls o1 hg1.out _ _ _ hS1.out).mono ?_; rintro e wY2 ⟨rfl, hb2⟩; have hbY2 := bl_step hb2 hbX2) | (go_at_call 20; refine (pnumber_calls wB.drew _ _ (HP.out.below (bl_drew (bl_step hbB HBO.out)))).mono ?_; rintro e wX2 ⟨o1, v1, rfl, hTt1, hff1, hss1, hb1⟩; obtain ⟨A6, c6, cs6, rfl, -, -⟩ := hTt1.open_; have hbX2 := bl_step hb1 (bl_drew hbB); have hg1 := Lib.hid hff1; have hS1 := Lib.hid hTt1; have hr1 := Lib.hid hss1; clear hff1 hTt1 hss1)))
  have hok3 := hg1.out.ok; have hok4 := hg2.out.ok
  have hti3 := o1.isI hok3; have hti4 := o2.isI hok4
  have hm1 := o1.fine_meas hg1.out; have hm2 := o2.fine_meas hg2.out
  have hp1 := hr1.out; have hp2 := hr2.out
  have how1 := owrite_calls o1 hok3 (by omega) wV2 (HT.out.below (bl_step hbV2 HBO.out))
  have how2 := fun W hW => owrite_calls o2 hok4 (by omega) W hW
  have HOS := Lib.hid (fun W => same_calls _ o1 o2 (Nat.le_refl _) hok3 hok4 W)
  have HOW1 := Lib.hid how1; have HOW2 := Lib.hid how2
  clear how1 how2 hm1 hm2 hp1 hp2 hr1 hr2 hS1 hS2 hb1 hb2 hb3 hb4 hbX2 hbY2 hbZ2 p0 p1 q0 q1
  go_wp2_with fail
  refine (HOW1.out).mono ?_
  rintro e wC ⟨rfl, hbC⟩
  go_wp2_with fail
  refine (HOW2.out _ (HT.out.below (bl_step (bl_step hbC hbV2) HBO.out))).mono ?_
  rintro e wD ⟨rfl, hbD0⟩
  have HBD := Lib.hid (bl_step (bl_step hbD0 (bl_step hbC hbV2)) HBO.out)
  have HTD := Lib.hid (HT.out.below HBD.out)
  have HTT := Lib.hid (fun (h : t1.write.2 = 0) (h' : t2.write.2 = 0) => Tm.apart t1 t2 hf1.out h h')
  have HOO := Lib.hid (fun (h : o1.write.2 = 0) (h' : o2.write.2 = 0) => Ob.apart o1 o2 hg1.out h h')
  clear hbD0 hbC hbV2 hbB HOW1 HOW2 HT HBO HP HQ hf1 hf2 hg1 hg2
  dsimp only
  generalize t1.write.1 = s1 at *
  generalize t1.write.2 = e1 at *
  generalize t2.write.1 = s2 at *
  generalize t2.write.2 = f1 at *
  generalize o1.write.1 = u1 at *
  generalize o1.write.2 = g1 at *
  generalize o2.write.1 = v1 at *
  generalize o2.write.2 = h1 at *
  by_cases he0 : e1 = 0
  · subst he0
    by_cases hf0 : f1 = 0
    · subst hf0
      have htt := HTT.out rfl rfl
      go_wp2_with fail
      refine (HTS.out _).mono ?_
      rintro e w8 ⟨rfl, hb8⟩
      have HT8 := Lib.hid (HTD.out.below hb8); have HB8 := Lib.hid (bl_step hb8 HBD.out)
      clear hb8
      by_cases hg0 : g1 = 0
      · subst hg0
        by_cases hh0 : h1 = 0
        · subst hh0
          have hoo := HOO.out rfl rfl
          go_wp2_with fail
          refine (HOS.out _).mono ?_
          rintro e w9 ⟨rfl, hb9'⟩
          have HT9 := Lib.hid (HT8.out.below hb9'); have HB9 := Lib.hid (bl_step hb9' HB8.out)
          clear hb9'
          go_wp2_with fail
          refine (wakes6_calls _ HT9.out).mono ?_
          rintro e wZ9 ⟨rfl, hb9⟩
          go_wp2_with fail
          go_ret
          exact ⟨rfl, bl_step hb9 HB9.out⟩
        · have hh0b : (h1 == 0) = false := by simpa using hh0
          go_wp2_with fail
          refine (wakes6_calls _ HT8.out).mono ?_
          rintro e wZ9 ⟨rfl, hb9⟩
          go_wp2_with fail
          go_ret
          exact ⟨rfl, bl_step hb9 HB8.out⟩
      · have hg0b : (g1 == 0) = false := by simpa using hg0
        go_wp2_with fail
        refine (wakes6_calls _ HT8.out).mono ?_
        rintro e wZ9 ⟨rfl, hb9⟩
        go_wp2_with fail
        go_ret
        exact ⟨rfl, bl_step hb9 HB8.out⟩
    · have hf0b : (f1 == 0) = false := by simpa using hf0
      by_cases hg0 : g1 = 0
      · subst hg0
        by_cases hh0 : h1 = 0
        · subst hh0
          have hoo := HOO.out rfl rfl
          go_wp2_with fail
          refine (HOS.out _).mono ?_
          rintro e w9 ⟨rfl, hb9'⟩
          have HT9 := Lib.hid (HTD.out.below hb9'); have HB9 := Lib.hid (bl_step hb9' HBD.out)
          clear hb9'
          go_wp2_with fail
          refine (wakes6_calls _ HT9.out).mono ?_
          rintro e wZ9 ⟨rfl, hb9⟩
          go_wp2_with fail
          go_ret
          exact ⟨rfl, bl_step hb9 HB9.out⟩
        · have hh0b : (h1 == 0) = false := by simpa using hh0
          go_wp2_with fail
          refine (wakes6_calls _ HTD.out).mono ?_
          rintro e wZ9 ⟨rfl, hb9⟩
          go_wp2_with fail
          go_ret
          exact ⟨rfl, bl_step hb9 HBD.out⟩
      · have hg0b : (g1 == 0) = false := by simpa using hg0
        go_wp2_with fail
        refine (wakes6_calls _ HTD.out).mono ?_
        rintro e wZ9 ⟨rfl, hb9⟩
        go_wp2_with fail
        go_ret
        exact ⟨rfl, bl_step hb9 HBD.out⟩
  · have he0b : (e1 == 0) = false := by simpa using he0
    by_cases hg0 : g1 = 0
    · subst hg0
      by_cases hh0 : h1 = 0
      · subst hh0
        have hoo := HOO.out rfl rfl
        go_wp2_with fail
        refine (HOS.out _).mono ?_
        rintro e w9 ⟨rfl, hb9'⟩
        have HT9 := Lib.hid (HTD.out.below hb9'); have HB9 := Lib.hid (bl_step hb9' HBD.out)
        clear hb9'
        go_wp2_with fail
        refine (wakes6_calls _ HT9.out).mono ?_
        rintro e wZ9 ⟨rfl, hb9⟩
        go_wp2_with fail
        go_ret
        exact ⟨rfl, bl_step hb9 HB9.out⟩
      · have hh0b : (h1 == 0) = false := by simpa using hh0
        go_wp2_with fail
        refine (wakes6_calls _ HTD.out).mono ?_
        rintro e wZ9 ⟨rfl, hb9⟩
        go_wp2_with fail
        go_ret
        exact ⟨rfl, bl_step hb9 HBD.out⟩
    · have hg0b : (g1 == 0) = false := by simpa using hg0
      go_wp2_with fail
      refine (wakes6_calls _ HTD.out).mono ?_
      rintro e wZ9 ⟨rfl, hb9⟩
      go_wp2_with fail
      go_ret
      exact ⟨rfl, bl_step hb9 HBD.out⟩
end Go.Proofs.YtgcglongjjpkbaaDoor
