/- LedgerAgain: the walk. -/
import Derived.Test.YtnekcijganhknaaGreatDoorLawLAg
namespace Go.Proofs.YtnekcijganhknaaGreatDoor
open Go.RowKit
set_option linter.unusedVariables false
set_option linter.unusedSimpArgs false

def sT : ByteArray := ⟨#[116]⟩
def wkL : Lg := ⟨0, [⟨sT, 0, .one usd⟩], Wd.none, []⟩
theorem one_ok {c : ByteArray} (h : c.size ≤ 140737488351232) : (Tm.one c).ok := h
theorem wk1 : Lg.none.done (evT sT (.one usd)) 0 = (wkL, 0) :=
  done_of (do_trade (.inl rfl) (evT_check (by kernel_rfl) (Tm.write_ok (one_ok (by decide)) (one_check usd_name) (show 1 ≤ 16 by decide))) rfl (by decide) (by show ((Tm.one usd).cash sT 0 Wd.none).2 = 0; rw [cash_one usd_name day_zero]))
theorem wk2 : wkL.owed 0 usd = 1 := by
  unfold Lg.owed wkL Lg.all
  simp [allOf, cash_one usd_name day_zero, Lg.paidOn]
theorem in0 : In64 0 := by unfold In64; omega
set_option maxRecDepth 100000 in
set_option maxHeartbeats 4000000 in
theorem wakes14_calls (w : World) (ht : TabOk w) : Calls Tryz.prog 16 #[] w fun e w' => e = .returned (.bool true) ∧ Below w.heap.size w w' := by
  have HT := Lib.hid ht
  clear ht
  go_enter Tryz.func16, Tryz.ntmps16
  go_wp2_with fail
  refine (lsnew_calls (bl_refl w)).mono ?_
  rintro e w1 ⟨b, rfl, h1⟩
  have H1 := Lib.hid h1
  clear h1
  go_wp2_with fail
  refine (H1.out.day (n := 0) rfl).mono ?_
  rintro e w2 ⟨rfl, h2, -⟩
  have H2 := Lib.hid h2
  clear h2
  go_wp2_with fail
  refine (H2.out.do_ (by omega) HT.out (evT sT (.one usd)) 0 (evT_fair (by decide) (one_ok (by decide)) (show 1 ≤ 100 by decide)) wk1).mono ?_
  rintro e w3 ⟨rfl, h3, -⟩
  have H3 := Lib.hid h3
  clear h3
  go_wp2_with fail
  refine (H3.out.owed 0 usd in0 (by decide) wk2).mono ?_
  rintro e w4 ⟨rfl, h4, -⟩
  have H4 := Lib.hid h4
  clear h4
  go_wp2_with fail
  go_ret
  exact ⟨rfl, H4.out.bel⟩
set_option maxRecDepth 100000 in
set_option maxHeartbeats 4000000 in
theorem lawAgain_calls (x y z : Int) (hx : IsInt64 x) (hy : IsInt64 y) (hz : IsInt64 z) (w : World) (ht : TabOk w) :
    Calls Tryz.prog 3 #[.int .i64 x, .int .i64 y, .int .i64 z] w fun e w' => e = .returned (.bool true) ∧ Below w.heap.size w w' := by
  have HT := Lib.hid ht
  have hwx := fun w => within_calls x 100 w (by unfold IsInt64 at hx; omega) (by omega)
  have hwy := fun w => within_calls y 100 w (by unfold IsInt64 at hy; omega) (by omega)
  have hwz := fun w => within_calls z 201 w (by unfold IsInt64 at hz; omega) (by omega)
  have a0 := Int.emod_nonneg x (show (100 : Int) ≠ 0 by omega)
  have a1 := Int.emod_lt_of_pos x (show (0 : Int) < 100 by omega)
  have b0 := Int.emod_nonneg y (show (100 : Int) ≠ 0 by omega)
  have b1 := Int.emod_lt_of_pos y (show (0 : Int) < 100 by omega)
  have c0 := Int.emod_nonneg z (show (201 : Int) ≠ 0 by omega)
  have c1 := Int.emod_lt_of_pos z (show (0 : Int) < 201 by omega)
  generalize x % 100 = a' at *
  generalize y % 100 = b' at *
  generalize z % 201 = c' at *
  obtain ⟨a, ha⟩ : ∃ a, 1 + a' = a := ⟨_, rfl⟩
  obtain ⟨b, hb⟩ : ∃ b, 1 + b' = b := ⟨_, rfl⟩
  obtain ⟨c, hc⟩ : ∃ c, c' - 100 = c := ⟨_, rfl⟩
  have wa : IntKind.i64.wrap (1 + a') = a := by rw [ha]; exact wrap_in (by omega)
  have wb : IntKind.i64.wrap (1 + b') = b := by rw [hb]; exact wrap_in (by omega)
  have wc : IntKind.i64.wrap (c' - 100) = c := by rw [hc]; exact wrap_in (by omega)
  have ra : 1 ≤ a ∧ a ≤ 100 := by omega
  have rb : 1 ≤ b ∧ b ≤ 100 := by omega
  have rc : -100 ≤ c ∧ c ≤ 100 := by omega
  have va : validB a = true := valid_of (by omega)
  have vb : validB b = true := valid_of (by omega)
  have vc : validB c = true := valid_of (by omega)
  have rbc : -10000 ≤ b * c ∧ b * c ≤ 10000 := by
    have h1 : b * c ≤ b * 100 := Int.mul_le_mul_of_nonneg_left rc.2 (by omega)
    have h2 : b * (-100) ≤ b * c := Int.mul_le_mul_of_nonneg_left rc.1 (by omega)
    omega
  have vbc : validB (b * c) = true := valid_of (by omega)
  have wbc : IntKind.i64.wrap (b * c) = b * c := wrap_in (by omega)
  have wabc : IntKind.i64.wrap (a + b * c) = a + b * c := wrap_in (by omega)
  have na : a ≠ 0 := by omega
  have HWX := Lib.hid hwx; have HWY := Lib.hid hwy; have HWZ := Lib.hid hwz
  have HV := Lib.hid (And.intro va (And.intro vb (And.intro vc (And.intro vbc na)))); have HRB := Lib.hid rb
  clear hwx hwy hwz a0 a1 b0 b1 c0 c1 ha hb hc ra rb rc va vb vc vbc rbc na hx hy hz ht
  go_enter Tryz.func3, Tryz.ntmps3
  go_wp2_with fail
  refine (lsnew_calls (bl_refl w)).mono ?_
  rintro e w1 ⟨g, rfl, h1⟩
  have H1 := Lib.hid h1
  clear h1
  go_wp2_with fail
  refine (HWX.out _).mono ?_
  rintro e w2 ⟨rfl, hw2⟩
  subst hw2
  go_wp2_with fail
  refine (HWY.out _).mono ?_
  rintro e w2 ⟨rfl, hw2⟩
  subst hw2
  go_wp2_with fail
  refine (HWZ.out _).mono ?_
  rintro e w2 ⟨rfl, hw2⟩
  subst hw2
  go_upto_region 7 with fail
  obtain ⟨W3, hW3⟩ : ∃ W3, (w2.alloc (.cells #[(Ob.const a).val, (Tm.one usd).val] 32)).alloc (.cells #[(Ob.mul (.const b) (.fix xS)).val, (Tm.one usd).val] 32) = W3 := ⟨_, rfl⟩
  have hb3 : Below w2.heap.size w2 W3 := by rw [← hW3]; exact bl_alloc (bl_alloc (bl_refl _) _) _
  have hk8 : Blk W3 w2.heap.size #[(Ob.const a).val, (Tm.one usd).val] 32 := by rw [← hW3]; exact (Blk.new w2 _ _).below (bl_alloc (bl_refl _) _)
  have hk9 : Blk W3 (w2.heap.size + 1) #[(Ob.mul (.const b) (.fix xS)).val, (Tm.one usd).val] 32 := by rw [← hW3]; exact Blk_new _ _ _ _ (by simp)
  simp only [Ob.val, Tm.val, usd, xS] at hW3
  rw [hW3]
  have H3 := Lib.hid (H1.out.below hb3)
  have c80 : W3.cell? ⟨w2.heap.size, 0, none⟩ = some (.iface 26 (.agg #[.int .i64 a])) := hk8.cell 0
  have c81 : W3.cell? ⟨w2.heap.size, 1, none⟩ = some (.iface 28 (.agg #[.string usd])) := hk8.cell 1
  have HK9 := Lib.hid hk9
  clear hW3 hb3 hk8 hk9
  obtain ⟨va, vb, vc, vbc, na⟩ := HV.out
  have hag1 := ag1 va na; have hag2 := ag2 (a := a) vb; have hag3 := ag3 va na vb; have hag4 := ag4 va na vb vc vbc
  have how2 := ag_owed2 va na vb; have how4 := ag_owed4 va na vb vc vbc; have how5 := ag_owed5 va na vb vc vbc
  have hag5 := ag5 va na vb vc vbc; have hag5n := ag5n va na vb vc vbc
  have hft := evT_fair (id := sOne) (by decide) (tO_ok va) (show 3 ≤ 100 by decide); have hfl := evT_fair (id := sLate) (by decide) (tL_ok vb) (show 5 ≤ 100 by decide)
  have hfs := evS_fair (s := usd) (by decide) day_zero va; have hff := evF_fair (s := xS) (by decide) day_zero vc; have hfb := evS_fair (s := usd) (by decide) day_zero vbc
  have HAG := Lib.hid (And.intro hag1 (And.intro hag2 (And.intro hag3 (And.intro hag4 (And.intro hag5 hag5n))))); have HOW := Lib.hid (And.intro how2 (And.intro how4 how5)); have HFA := Lib.hid (And.intro hft (And.intro hfl (And.intro hfs (And.intro hff hfb))))
  clear hag1 hag2 hag3 hag4 hag5 hag5n how2 how4 how5 hft hfl hfs hff hfb va vb vc vbc na
  go_wp2_with fail
  refine (H3.out.do_ (by omega) HT.out (evT sOne (tO a)) 0 HFA.out.1 HAG.out.1).mono ?_
  rintro e w4 ⟨rfl, h4, hg4⟩
  have hk94 := HK9.out.grown hg4 (fun e => by injection e with e; obtain ⟨cs, hl⟩ := H3.out.at_.blk; exact hl.no_ty HK9.out (by decide) e)
  have d0 : w4.cell? ⟨w2.heap.size + 1, 0, none⟩ = some (.iface 36 (.agg #[.iface 26 (.agg #[.int .i64 b]), .iface 34 (.agg #[.string xS])])) := hk94.cell 0
  have d1 : w4.cell? ⟨w2.heap.size + 1, 1, none⟩ = some (.iface 28 (.agg #[.string usd])) := hk94.cell 1
  have H4 := Lib.hid h4
  clear h4 hg4 hk94 c80 c81
  go_wp2_with fail
  refine (H4.out.do_ (by omega) HT.out (evT sLate (tL b)) 0 HFA.out.2.1 HAG.out.2.1).mono ?_
  rintro e w5 ⟨rfl, h5, -⟩
  have H5 := Lib.hid h5
  clear h5 d0 d1
  go_wp2_with fail
  refine (H5.out.owed 0 usd in0 (by decide) HOW.out.1).mono ?_
  rintro e w6 ⟨rfl, h6, -⟩
  have H6 := Lib.hid h6
  clear h6
  go_wp2_with fail
  refine (H6.out.do_ (by omega) HT.out (evS 0 usd a) 0 HFA.out.2.2.1 HAG.out.2.2.1).mono ?_
  rintro e w7 ⟨rfl, h7, -⟩
  have H7 := Lib.hid h7
  clear h7
  go_wp2_with fail
  refine (H7.out.do_ (by omega) HT.out (evF xS 0 c) 0 HFA.out.2.2.2.1 HAG.out.2.2.2.1).mono ?_
  rintro e w8 ⟨rfl, h8, -⟩
  have H8 := Lib.hid h8
  clear h8
  go_wp2_with fail
  refine (H8.out.owed 0 usd in0 (by decide) HOW.out.2.1).mono ?_
  rintro e w9 ⟨rfl, h9, -⟩
  have H9 := Lib.hid h9
  clear h9
  go_wp2_with fail
  refine (H9.out.paid 0 usd in0 (by decide) (n := a) (by simp [agL4, Lg.paidOn, List.lookup])).mono ?_
  rintro e w10 ⟨rfl, h10, -⟩
  have H10 := Lib.hid h10
  clear h10
  by_cases hc0 : c = 0
  · subst hc0
    have hbz : b * 0 = 0 := Int.mul_zero b
    have hN := HAG.out.2.2.2.2.2 hbz
    have hOW := HOW.out.2.1
    have hFB := HFA.out.2.2.2.2
    rw [hbz] at hOW hN hFB
    have HN := Lib.hid hN; have HOW4 := Lib.hid hOW; have HFB := Lib.hid hFB
    clear hOW hN hFB wbc wabc
    have wbc : IntKind.i64.wrap 0 = 0 := by decide
    have wabc : IntKind.i64.wrap a = a := wrap_in (small64 HV.out.1)
    have HPD := Lib.hid (show (agL4 a b 0).paidOn 0 usd = a by simp [agL4, Lg.paidOn, List.lookup])
    clear HAG HOW HFA hbz
    go_wp2_with fail
    refine (H10.out.do_ (by omega) HT.out (evS 0 usd 0) 1 HFB.out HN.out).mono ?_
    rintro e w11 ⟨rfl, h11, -⟩
    have H11 := Lib.hid h11
    clear h11
    go_wp2_with fail
    refine (H11.out.owed 0 usd in0 (by decide) HOW4.out).mono ?_
    rintro e w12 ⟨rfl, h12, -⟩
    have H12 := Lib.hid h12
    clear h12
    go_wp2_with fail
    refine (H12.out.paid 0 usd in0 (by decide) HPD.out).mono ?_
    rintro e w13 ⟨rfl, h13, -⟩
    have H13 := Lib.hid h13
    clear h13
    go_wp2_with fail
    refine (wakes14_calls _ (HT.out.below H13.out.bel)).mono ?_
    rintro e w14 ⟨rfl, hb14⟩
    have HB14 := Lib.hid (bl_step hb14 H13.out.bel)
    clear hb14
    go_wp2_with fail
    go_ret
    exact ⟨rfl, HB14.out⟩
  · have hne : b * c ≠ 0 := by
      have := HRB.out
      intro e
      rcases Int.mul_eq_zero.1 e with h | h
      · omega
      · exact hc0 h
    have hcb : (c == 0) = false := by simp [hc0]
    have HN := Lib.hid (HAG.out.2.2.2.2.1 hne)
    have HOW5 := Lib.hid HOW.out.2.2
    have HFB := Lib.hid HFA.out.2.2.2.2
    have HPD := Lib.hid (show (agL5 a b c).paidOn 0 usd = a + b * c by simp [agL5, Lg.paidOn, List.lookup])
    clear HAG HOW HFA hne hc0
    generalize hbc : b * c = bc at *
    go_wp2_with fail
    refine (H10.out.do_ (by omega) HT.out (evS 0 usd bc) 1 HFB.out HN.out).mono ?_
    rintro e w11 ⟨rfl, h11, -⟩
    have H11 := Lib.hid h11
    clear h11
    go_wp2_with fail
    refine (H11.out.owed 0 usd in0 (by decide) HOW5.out).mono ?_
    rintro e w12 ⟨rfl, h12, -⟩
    have H12 := Lib.hid h12
    clear h12
    go_wp2_with fail
    refine (H12.out.paid 0 usd in0 (by decide) HPD.out).mono ?_
    rintro e w13 ⟨rfl, h13, -⟩
    have H13 := Lib.hid h13
    clear h13
    go_wp2_with fail
    refine (wakes14_calls _ (HT.out.below H13.out.bel)).mono ?_
    rintro e w14 ⟨rfl, hb14⟩
    have HB14 := Lib.hid (bl_step hb14 H13.out.bel)
    clear hb14
    go_wp2_with fail
    go_ret
    exact ⟨rfl, HB14.out⟩
end Go.Proofs.YtnekcijganhknaaGreatDoor
