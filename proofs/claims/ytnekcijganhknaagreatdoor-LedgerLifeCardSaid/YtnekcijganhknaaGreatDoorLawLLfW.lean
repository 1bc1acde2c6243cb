/- LedgerLife: the walk. -/
import Derived.Test.YtnekcijganhknaaGreatDoorLawLLf
namespace Go.Proofs.YtnekcijganhknaaGreatDoor
open Go.RowKit
set_option linter.unusedVariables false
set_option linter.unusedSimpArgs false

theorem neq_wt (a b : Wt) (w : World) : (binOp .neq 82 (wtV a) (wtV b)).run Tryz.prog w = .ok (.bool (!a.same b)) w := by
  have h := eql_wt a b w
  unfold wtV at *
  rw [run_eql_struct] at h
  rw [run_neq_struct]
  cases hq : (Op.equalIn 10000 82 (.agg #[.bool a.choice, .string a.name, .string a.label, .int .i64 a.day, .int .i64 a.side]) (.agg #[.bool b.choice, .string b.name, .string b.label, .int .i64 b.day, .int .i64 b.side])).run Tryz.prog w with
  | ok v w1 =>
    rw [hq] at h
    simp only [Result.andThen_ok] at h ⊢
    rw [Result.ok.injEq] at h
    obtain ⟨h1, h2⟩ := h
    obtain rfl : v = a.same b := by simpa using h1
    rw [h2]
  | halt x w1 =>
    rw [hq] at h
    cases h
def Fl.same (a b : Fl) : Bool := a.day == b.day && (a.cur.toList == b.cur.toList && a.amount == b.amount)
theorem neq_fl (a b : Fl) (w : World) : (binOp .neq 70 (.agg #[.int .i64 a.day, .string a.cur, .int .i64 a.amount]) (.agg #[.int .i64 b.day, .string b.cur, .int .i64 b.amount])).run Tryz.prog w = .ok (.bool (!a.same b)) w := by
  rw [run_neq_struct, run_equalIn_agg w 9999 _ _ _ (by kernel_rfl) (by kernel_rfl)]
  unfold Program.fieldsOf
  rw [Tryz.underlying70]
  have u2 := Tryz.underlying9
  have u3 := Tryz.underlying3
  simp [Op.eqFields, go_sem]
  unfold Fl.same
  repeat' split
  all_goals simp [*]
theorem Wt.same_self (a : Wt) : a.same a = true := by unfold Wt.same; simp
theorem Fl.same_self (a : Fl) : a.same a = true := by unfold Fl.same; simp
theorem wt_cells {W : World} {g : Nat} {y : Wt} {l : List Wt} (h : Rd W (some ⟨g, 0, none⟩) (rowsW (y :: l))) : W.cell? ⟨g, 0, none⟩ = some (.bool y.choice) ∧ W.cell? ⟨g, 1, none⟩ = some (.string y.name) ∧ W.cell? ⟨g, 2, none⟩ = some (.string y.label) ∧ W.cell? ⟨g, 3, none⟩ = some (.int .i64 y.day) ∧ W.cell? ⟨g, 4, none⟩ = some (.int .i64 y.side) := by
  have h' := fun j v hj => Rd.ad0 h (v := v) j hj
  simp only [addr_at, Nat.zero_add] at h'
  exact ⟨h' 0 _ rfl, h' 1 _ rfl, h' 2 _ rfl, h' 3 _ rfl, h' 4 _ rfl⟩
theorem fl_cells {W : World} {g : Nat} {y : Fl} {l : List Fl} (h : Rd W (some ⟨g, 0, none⟩) (rowsF (y :: l))) : W.cell? ⟨g, 0, none⟩ = some (.int .i64 y.day) ∧ W.cell? ⟨g, 1, none⟩ = some (.string y.cur) ∧ W.cell? ⟨g, 2, none⟩ = some (.int .i64 y.amount) := by
  have h' := fun j v hj => Rd.ad0 h (v := v) j hj
  simp only [addr_at, Nat.zero_add] at h'
  exact ⟨h' 0 _ rfl, h' 1 _ rfl, h' 2 _ rfl⟩
/-- What the law needs of its numbers. -/
structure LfN (n D d : Int) : Prop where
  hn : validB n = true
  hD : dayB D = true
  h0 : 0 < D
  hd : D ≤ d
  hdd : dayB d = true
  hv : validB (n * 3) = true
  hz : n * 3 ≠ 0
set_option maxRecDepth 100000 in
set_option maxHeartbeats 8000000 in
theorem lawLife_calls (x y : Int) (early : Bool) (hx : IsInt64 x) (hy : IsInt64 y) (w : World) (ht : TabOk w) :
    Calls Tryz.prog 6 #[.int .i64 x, .int .i64 y, .bool early] w fun e w' => e = .returned (.bool true) ∧ Below w.heap.size w w' := by
  have HT := Lib.hid ht
  have hwx := fun w => within_calls x 1000 w (by unfold IsInt64 at hx; omega) (by omega)
  have hwy := fun w => within_calls y 20 w (by unfold IsInt64 at hy; omega) (by omega)
  have a0 := Int.emod_nonneg x (show (1000 : Int) ≠ 0 by omega)
  have a1 := Int.emod_lt_of_pos x (show (0 : Int) < 1000 by omega)
  have b0 := Int.emod_nonneg y (show (20 : Int) ≠ 0 by omega)
  have b1 := Int.emod_lt_of_pos y (show (0 : Int) < 20 by omega)
  generalize x % 1000 = a' at *
  generalize y % 20 = b' at *
  obtain ⟨n, hn⟩ : ∃ n, 1 + a' = n := ⟨_, rfl⟩
  obtain ⟨D, hD⟩ : ∃ D, 2 + b' = D := ⟨_, rfl⟩
  have wa : IntKind.i64.wrap (1 + a') = n := by rw [hn]; exact wrap_in (by omega)
  have wb : IntKind.i64.wrap (2 + b') = D := by rw [hD]; exact wrap_in (by omega)
  have wc : IntKind.i64.wrap (D + 3) = D + 3 := wrap_in (by omega)
  have wm : IntKind.i64.wrap (3 * n) = n * 3 := by rw [Int.mul_comm]; exact wrap_in (by omega)
  have HN : ∀ d, d = D ∨ d = D + 3 → LfN n D d := fun d hd => ⟨valid_of (by omega), by unfold dayB; simp; omega, by omega, by omega, by unfold dayB; simp; omega, valid_of (by omega), by omega⟩
  have HN := Lib.hid HN; have HWX := Lib.hid hwx; have HWY := Lib.hid hwy
  clear hwx hwy a0 a1 b0 b1 hn hD hx hy ht
  go_enter Tryz.func6, Tryz.ntmps6
  go_wp2_with fail
  refine (lsnew_calls (bl_refl w)).mono ?_
  rintro e w1 ⟨g, rfl, h1⟩
  have H1 := Lib.hid h1
  clear h1
  go_wp2_with fail
  refine (HWX.out _).mono ?_
  rintro e w2 ⟨rfl, hw2⟩
  subst hw2
  go_wp2_with fail
  refine (HWY.out _).mono ?_
  rintro e w2 ⟨rfl, hw2⟩
  subst hw2
  go_upto_region 6 with fail
  obtain ⟨W3, hW3⟩ : ∃ W3, w2.alloc (.cells #[.int .i64 D, (Tm.or sTake (tO n) (tR n)).val] 80) = W3 := ⟨_, rfl⟩
  have hb3 : Below w2.heap.size w2 W3 := by rw [← hW3]; exact bl_alloc (bl_refl _) _
  have hk8 : Blk W3 w2.heap.size #[.int .i64 D, (Tm.or sTake (tO n) (tR n)).val] 80 := by rw [← hW3]; exact Blk.new w2 _ _
  simp only [tO, tR, Ob.val, Tm.val, usd, eur, sRate, sTake] at hW3 hk8
  rw [hW3]
  have H3 := Lib.hid (H1.out.below hb3)
  have c80 := hk8.cell 0
  have c81 := hk8.cell 1
  clear hW3 hb3 hk8
  obtain ⟨hn, hD, h0, hd, hdd, hv, hz⟩ := HN.out D (.inl rfl)
  have HV := Lib.hid (And.intro hn (And.intro hD h0))
  clear hn hD h0 hd hdd hv hz
  go_wp2_with fail
  refine (H3.out.do_ (by omega) HT.out (evT sBond (tB n D)) 1 (evT_fair (by decide) (tB_ok HV.out.1 HV.out.2.1) (show 10 ≤ 100 by decide)) (lf1 HV.out.1 HV.out.2.1 (Int.le_of_lt HV.out.2.2))).mono ?_
  rintro e w4 ⟨rfl, h4, -⟩
  have H4 := Lib.hid h4
  clear h4 c80 c81
  go_wp2_with fail
  refine (H4.out.try_ (by omega) HT.out (evC sBond sTake 0) 0 (evC_fair (by decide) (by decide) (by decide)) (lf_try1 HV.out.1 HV.out.2.1 HV.out.2.2)).mono ?_
  rintro e w5 ⟨rfl, h5, -⟩
  have H5 := Lib.hid h5
  clear h5
  obtain ⟨d, hdE⟩ : ∃ d, d = if early then D else D + 3 := ⟨_, rfl⟩
  have HDD := Lib.hid (HN.out d (by rw [hdE]; cases early <;> simp))
  go_upto_if 58 with fail
  go_cut [9] (fun s9 wx => s9 = .int .i64 d ∧ wx = w5)
  case first =>
    cases early with
    | true =>
      simp only [if_true] at hdE
      subst hdE
      go_wp2_with fail
      go_meet
      exact ⟨rfl, rfl⟩
    | false =>
      simp only [Bool.false_eq_true, if_false] at hdE
      subst hdE
      go_wp2_with fail
      go_meet
      exact ⟨rfl, rfl⟩
  obtain ⟨rfl, hwx⟩ := hcut
  subst hwx
  rename World => wA
  clear hdE
  obtain ⟨hn, hD, h0, hd, hdd, hv, hz⟩ := HDD.out
  have hd0 : 0 < d := by omega
  have hs2 := lf2 (n := n) (D := D) hdd hd0; have ht2 := lf_try2 hn hD (Int.le_of_lt h0) hd; have hw2 := lf_waits2 (d := d) hn hD (Int.le_of_lt h0)
  have hs3 := lf3 hn hD (Int.le_of_lt h0) hd hdd; have ho3 := lf_owed3 hn hD (Int.le_of_lt h0) hd; have hw3 := congrArg (fun q => q.1.waits) (lf_all3 hn hD (Int.le_of_lt h0) hd)
  have hs4 := lf4 hn hD (Int.le_of_lt h0) hd hdd hv hz; have ho4 := lf_owed4 hn hD (Int.le_of_lt h0) hd hv hz; have hf4 := congrArg (fun q => q.1.flows) (lf_all4 hn hD (Int.le_of_lt h0) hd hv hz (p := []))
  have hs5 := lf5 hn hD (Int.le_of_lt h0) hd hdd hv hz; have ho5 := lf_owed5 hn hD (Int.le_of_lt h0) hd hv hz; have hp5 := lf_paid5 (n := n) (D := D) (d := d)
  have ha5 := lf_all4 hn hD (Int.le_of_lt h0) hd hv hz (p := [((d, eur.toList), n * 3)])
  have hf5 := congrArg (fun q => q.1.flows) ha5; have hw5 := congrArg (fun q => q.1.waits) ha5
  have hf2 := evD_fair hdd; have hf3 := evF_fair (s := sRate) (v := 3) (by decide) hdd (by decide); have hfs := evS_fair (s := eur) (by decide) hdd hv
  have S2 := Lib.hid hs2; have T2 := Lib.hid ht2; have P2 := Lib.hid hw2; have S3 := Lib.hid hs3; have O3 := Lib.hid ho3; have P3 := Lib.hid hw3; have S4 := Lib.hid hs4; have O4 := Lib.hid ho4; have F4 := Lib.hid hf4; have S5 := Lib.hid hs5; have O5 := Lib.hid ho5; have Q5 := Lib.hid hp5; have F5 := Lib.hid hf5; have P5 := Lib.hid hw5; have FD := Lib.hid hf2; have FF := Lib.hid hf3; have FS := Lib.hid hfs
  have ID : Hid (In64 d) := In64.of_day hdd
  clear hs2 ht2 hw2 hs3 ho3 hw3 hs4 ho4 hf4 hs5 ho5 hp5 ha5 hf5 hw5 hf2 hf3 hfs hn hD h0 hd hdd hv hz hd0
  generalize n * 3 = m3 at *
  go_wp2_with fail
  refine (H5.out.do_ (by omega) HT.out (evD d) 0 FD.out S2.out).mono ?_
  rintro e w6 ⟨rfl, h6, -⟩
  have H6 := Lib.hid h6
  clear h6
  go_wp2_with fail
  refine (H6.out.try_ (by omega) HT.out (evC sBond sTake 0) 1 (evC_fair (by decide) (by decide) (by decide)) T2.out).mono ?_
  rintro e w7 ⟨rfl, h7, -⟩
  have H7 := Lib.hid h7
  clear h7
  go_wp2_with fail
  refine (H7.out.waits P2.out).mono ?_
  rintro e w8 ⟨A8, c8, rfl, hr8, ha8, h8, -⟩
  obtain ⟨ad8, rfl⟩ := rows_ad (m := 0) Wt.row_length (by omega) hr8 rfl
  obtain ⟨g8, rfl⟩ := ha8 ad8 rfl
  obtain ⟨x0, x1, x2, x3, x4⟩ := wt_cells hr8
  have hne := fun w => neq_wt ⟨true, ⟨#[]⟩, sTake, D, 0⟩ ⟨true, ⟨#[]⟩, sTake, D, 0⟩ w
  rw [Wt.same_self] at hne
  unfold wtV at hne
  simp only [sTake, Bool.not_true] at hne x0 x1 x2 x3 x4
  have H8 := Lib.hid h8
  clear h8 hr8 ha8
  go_wp2_with fail
  refine (H8.out.do_ (by omega) HT.out (evC sBond sTake 1) 0 (evC_fair (by decide) (by decide) (by decide)) S3.out).mono ?_
  rintro e w9 ⟨rfl, h9, -⟩
  have H9 := Lib.hid h9
  clear h9 x0 x1 x2 x3 x4 hne
  go_wp2_with fail
  refine (H9.out.owed d eur ID.out (by decide) O3.out).mono ?_
  rintro e w10 ⟨rfl, h10, -⟩
  have H10 := Lib.hid h10
  clear h10
  go_wp2_with fail
  refine (H10.out.waits P3.out).mono ?_
  rintro e w11 ⟨A11, c11, rfl, hr11, ha11, h11, -⟩
  obtain ⟨ad11, rfl⟩ := rows_ad (m := 0) Wt.row_length (by omega) hr11 rfl
  obtain ⟨g11, rfl⟩ := ha11 ad11 rfl
  obtain ⟨x0, x1, x2, x3, x4⟩ := wt_cells hr11
  have hne := fun w => neq_wt ⟨false, sRate, ⟨#[]⟩, d, 0⟩ ⟨false, sRate, ⟨#[]⟩, d, 0⟩ w
  rw [Wt.same_self] at hne
  unfold wtV at hne
  simp only [sRate, Bool.not_true] at hne x0 x1 x2 x3 x4
  have H11 := Lib.hid h11
  clear h11 hr11 ha11
  go_wp2_with fail
  refine (H11.out.do_ (by omega) HT.out (evF sRate d 3) 1 FF.out S4.out).mono ?_
  rintro e w12 ⟨rfl, h12, -⟩
  have H12 := Lib.hid h12
  clear h12 x0 x1 x2 x3 x4 hne
  go_wp2_with fail
  refine (H12.out.flows F4.out).mono ?_
  rintro e w13 ⟨A13, c13, rfl, hr13, ha13, h13, -⟩
  obtain ⟨ad13, rfl⟩ := rows_ad (m := 0) Fl.row_length (by omega) hr13 rfl
  obtain ⟨g13, rfl⟩ := ha13 ad13 rfl
  obtain ⟨x0, x1, x2⟩ := fl_cells hr13
  have hne := fun w => neq_fl ⟨d, eur, m3⟩ ⟨d, eur, m3⟩ w
  rw [Fl.same_self] at hne
  simp only [eur, Bool.not_true] at hne x0 x1 x2
  have H13 := Lib.hid h13
  clear h13 hr13 ha13
  go_wp2_with fail
  refine (H13.out.owed d eur ID.out (by decide) O4.out).mono ?_
  rintro e w14 ⟨rfl, h14, -⟩
  have H14 := Lib.hid h14
  clear h14 x0 x1 x2 hne
  go_wp2_with fail
  refine (H14.out.do_ (by omega) HT.out (evS d eur m3) 1 FS.out S5.out).mono ?_
  rintro e w15 ⟨rfl, h15, -⟩
  have H15 := Lib.hid h15
  clear h15
  go_wp2_with fail
  refine (H15.out.owed d eur ID.out (by decide) O5.out).mono ?_
  rintro e w16 ⟨rfl, h16, -⟩
  have H16 := Lib.hid h16
  clear h16
  go_wp2_with fail
  refine (H16.out.paid d eur ID.out (by decide) Q5.out).mono ?_
  rintro e w17 ⟨rfl, h17, -⟩
  have H17 := Lib.hid h17
  clear h17
  go_wp2_with fail
  refine (H17.out.waits P5.out).mono ?_
  rintro e w18 ⟨A18, c18, rfl, -, -, h18, -⟩
  have H18 := Lib.hid h18
  clear h18
  go_wp2_with fail
  refine (H18.out.flows F5.out).mono ?_
  rintro e w19 ⟨A19, c19, rfl, -, -, h19, -⟩
  have H19 := Lib.hid h19
  clear h19
  go_wp2_with fail
  refine (wakes14_calls _ (HT.out.below H19.out.bel)).mono ?_
  rintro e w20 ⟨rfl, hb20⟩
  have HB20 := Lib.hid (bl_step hb20 H19.out.bel)
  clear hb20
  go_wp2_with fail
  go_ret
  exact ⟨rfl, HB20.out⟩
end Go.Proofs.YtnekcijganhknaaGreatDoor
