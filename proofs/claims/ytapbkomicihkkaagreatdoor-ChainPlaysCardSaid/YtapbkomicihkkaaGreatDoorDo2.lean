/- A command's event: a trade. -/
import Derived.Test.YtapbkomicihkkaaGreatDoorDo1
import Derived.Test.YtapbkomicihkkaaGreatDoorRightG
namespace Go.Proofs.YtapbkomicihkkaaGreatDoor
open Go.RowKit
set_option linter.unusedVariables false
set_option linter.unusedSimpArgs false

def tradeX (id : ByteArray) (t : Tm) : Ev := ⟨2, id, eS, eS, eS, 0, 0, t⟩
theorem tradeX_fit (id : ByteArray) (t : Tm) (h : id.size ≤ 14) (hf : t.fine) (hp : t.parts ≤ 34) : (tradeX id t).fit :=
  ⟨by show (0 : Int) ≤ 2 ∧ (2 : Int) ≤ 8; decide, by show id.size ≤ 100; omega, by show eS.size ≤ 100; decide, by show eS.size ≤ 100; decide, by show eS.size ≤ 100; decide, by unfold IsInt64; show _ ≤ (0 : Int) ∧ (0 : Int) < _; decide, by unfold IsInt64; show _ ≤ (0 : Int) ∧ (0 : Int) < _; decide, .inr ⟨hf, hp⟩⟩
set_option maxRecDepth 100000 in
set_option maxHeartbeats 8000000 in
theorem do_b (w : World) (c : Cm) (vN vW : Value) (hc : c.ok) (hp : PlanAt w vN vW) (day : Int) (hday : 0 ≤ day ∧ day ≤ 1000000) (hk : 1 ≤ c.kind % 20 ∧ c.kind % 20 < 7) :
    Calls Tryz.prog 34 #[.pointer none, c.val vN vW, .int .i64 day] w (GivesEv w) := by
  unfold GivesEv
  unfold Cm.val
  obtain ⟨⟨A, n, cc, xs, rfl, hn⟩, ⟨A', n', cc', xs', rfl, hn'⟩⟩ := (show PlanAt w vN vW from hp)
  clear hn hn'
  obtain ⟨W1, hW1⟩ : ∃ W1, ((w.alloc (.cells #[.int .i64 c.kind, .int .i64 c.a, .int .i64 c.b, .int .i64 c.day, .int .i64 c.value, .string c.word, .slice A n cc, .slice A' n' cc'] 27)).alloc (.cells #[.int .i64 0, .string ⟨#[]⟩, .string ⟨#[]⟩, .string ⟨#[]⟩, .string ⟨#[]⟩, .int .i64 0, .int .i64 0, .int .i64 0, .string ⟨#[]⟩, .int .i64 0, .slice none 0 0] 35)).alloc (.cells #[.int .i64 0, .string ⟨#[]⟩, .string ⟨#[]⟩, .string ⟨#[]⟩, .string ⟨#[]⟩, .int .i64 0, .int .i64 0, .int .i64 0, .string ⟨#[]⟩, .int .i64 0, .slice none 0 0] 35) = W1 := ⟨_, rfl⟩
  have hb1 := bl_alloc (bl_alloc (bl_alloc (bl_refl w) (.cells #[.int .i64 c.kind, .int .i64 c.a, .int .i64 c.b, .int .i64 c.day, .int .i64 c.value, .string c.word, .slice A n cc, .slice A' n' cc'] 27)) (.cells #[.int .i64 0, .string ⟨#[]⟩, .string ⟨#[]⟩, .string ⟨#[]⟩, .string ⟨#[]⟩, .int .i64 0, .int .i64 0, .int .i64 0, .string ⟨#[]⟩, .int .i64 0, .slice none 0 0] 35)) (.cells #[.int .i64 0, .string ⟨#[]⟩, .string ⟨#[]⟩, .string ⟨#[]⟩, .string ⟨#[]⟩, .int .i64 0, .int .i64 0, .int .i64 0, .string ⟨#[]⟩, .int .i64 0, .slice none 0 0] 35)
  obtain ⟨hkC, hkR, hkE, hs1⟩ := do_blocks w #[.int .i64 c.kind, .int .i64 c.a, .int .i64 c.b, .int .i64 c.day, .int .i64 c.value, .string c.word, .slice A n cc, .slice A' n' cc'] 27 #[.int .i64 0, .string ⟨#[]⟩, .string ⟨#[]⟩, .string ⟨#[]⟩, .string ⟨#[]⟩, .int .i64 0, .int .i64 0, .int .i64 0, .string ⟨#[]⟩, .int .i64 0, .slice none 0 0] 35
  rw [hW1] at hb1 hkC hkR hkE hs1
  have hnm := kname_calls c.a hc.a
  have hwi := fun W => within_calls c.kind 20 W (by have := hc.kind; unfold IsInt64 at this; omega) (by omega)
  have htx := fun W => text_calls c.word 14 hc.word (by omega) W
  have hts : (c.word.extract 0 (min c.word.size 14)).size ≤ 14 := by simp; omega
  have hns := nameS_size (c.a % 5).toNat
  obtain ⟨hi1, hi2, hi3, hi4, hi5, hi6⟩ := hc
  unfold IsInt64 at hi1 hi2 hi3 hi4 hi5
  generalize c.word.extract 0 (min c.word.size 14) = wd at *
  generalize nameS (c.a % 5).toNat = nm at *
  generalize c.kind % 20 = kk at *
  generalize c.kind = ck at *
  generalize c.a = ca at *
  generalize c.b = cb at *
  generalize c.day = cd at *
  generalize c.value = cv at *
  generalize c.word = cw at *
  have HW1 := Lib.hid hW1; have HP := Lib.hid hp; have HNM := Lib.hid hnm; have HWI := Lib.hid hwi; have HTX := Lib.hid htx; have HKC := Lib.hid hkC; have HKE := Lib.hid hkE; have HKR := Lib.hid hkR; have HB1 := Lib.hid hb1; have HS1 := Lib.hid hs1
  clear hW1 hp hnm hwi htx hkC hkR hkE hb1 hs1
  obtain ⟨p0, p1, p2, p3, p4, p5, p6, p7⟩ := HKC.out.eight
  go_enter Tryz.func34, Tryz.ntmps34
  go_upto_region 2 with fail
  rw [HW1.out]
  go_wp2_with fail
  refine (HNM.out _).mono ?_
  rintro e w2 ⟨rfl, hb2⟩
  have HB2 := Lib.hid (bl_step hb2 HB1.out)
  have HKC2 := Lib.hid (HKC.out.below hb2); have HKE2 := Lib.hid (HKE.out.below hb2); have HKR2 := Lib.hid (HKR.out.below hb2)
  have HS2 := Lib.hid (show w.heap.size + 1 + 1 < w2.heap.size by have := hb2.size; have := HS1.out; omega)
  replace p0 := cell_below hb2 p0
  replace p1 := cell_below hb2 p1
  replace p2 := cell_below hb2 p2
  replace p3 := cell_below hb2 p3
  replace p4 := cell_below hb2 p4
  replace p5 := cell_below hb2 p5
  replace p6 := cell_below hb2 p6
  replace p7 := cell_below hb2 p7
  clear hb2 HB1 HKC HKE HKR HW1 HS1 HNM
  clear W1
  go_upto_if 28 with fail
  go_cut [8] (fun v wx => ∃ id : ByteArray, id.size ≤ 14 ∧ v = .string id ∧ wx = w2)
  case first =>
    by_cases hm : ca.tmod 19 = 18
    · go_wp2_with fail
      refine (HTX.out _).mono ?_
      rintro e w3 ⟨rfl, rfl⟩
      go_wp2_with fail
      go_meet
      exact ⟨wd, hts, rfl, rfl⟩
    · have hmb : (ca.tmod 19 == 18) = false := by simpa using hm
      go_wp2_with fail
      go_meet
      exact ⟨nm, by omega, rfl, rfl⟩
  obtain ⟨id, hidl, rfl, rfl⟩ := hcut
  clear hts hns HTX
  obtain ⟨e0, e1, e2, e3, e4, e5, e6, e7, e8, e9, e10⟩ := HKE2.out.eleven
  have ez := fun j => HKE2.out.frozen j
  go_wp2_with fail
  refine (HWI.out _).mono ?_
  rintro e w3 ⟨rfl, rfl⟩
  clear HWI
  obtain ⟨hk1, hk2⟩ := hk
  have hk0 : (kk == 0) = false := by simp; omega
  have hr := fun (W : World) (h : Below w.heap.size w W) => rright_calls W _ _ (HP.out.below h)
  have hcn := fun (W : World) (h : Below w.heap.size w W) => pcontract_calls W _ _ (HP.out.below h)
  unfold GivesR at hr
  unfold GivesTr at hcn
  have HR := Lib.hid hr; have HCN := Lib.hid hcn
  clear hr hcn
  go_wp2_with fail
  refine (HR.out _ HB2.out).mono ?_
  rintro e w4 ⟨t, v, rfl, hT, hf, hparts, hchk, hb4⟩
  clear hchk
  obtain ⟨A4, c4, cs4, rfl, -, -⟩ := hT.open_
  have HT4 := Lib.hid hT
  have HS3 := HS2
  replace p0 := cell_below hb4 p0
  replace p1 := cell_below hb4 p1
  replace p2 := cell_below hb4 p2
  replace p3 := cell_below hb4 p3
  replace p4 := cell_below hb4 p4
  replace p5 := cell_below hb4 p5
  replace p6 := cell_below hb4 p6
  replace p7 := cell_below hb4 p7
  replace HKC2 := Lib.hid (HKC2.out.below hb4)
  replace HKE2 := Lib.hid (HKE2.out.below hb4)
  replace HKR2 := Lib.hid (HKR2.out.below hb4)
  replace HB2 := Lib.hid (bl_step hb4 HB2.out)
  replace HS2 := Lib.hid (Nat.lt_of_lt_of_le HS2.out (hb4).size)
  clear e0 e1 e2 e3 e4 e5 e6 e7 e8 e9 e10 ez
  obtain ⟨e0, e1, e2, e3, e4, e5, e6, e7, e8, e9, e10⟩ := HKE2.out.eleven
  have ez := fun j => HKE2.out.frozen j
  clear hT hb4
  by_cases hm : cb.tmod 17 = 16
  · have hEM := HKE2.out.sets [(0, .int .i64 2), (1, .string id), (7, .int .i64 t.tr.kind), (8, .string t.tr.s), (9, .int .i64 t.tr.n), (10, .slice A4 t.tr.ks.length c4)]
    simp only [List.foldl_cons, List.foldl_nil, List.setIfInBounds_toArray, List.set_cons_zero, List.set_cons_succ] at hEM
    have hCM := HKC2.out.sets_far (r := w.heap.size + 1 + 1) [(0, .int .i64 2), (1, .string id), (7, .int .i64 t.tr.kind), (8, .string t.tr.s), (9, .int .i64 t.tr.n), (10, .slice A4 t.tr.ks.length c4)] (by omega)
    have hRM := HKR2.out.sets_far (r := w.heap.size + 1 + 1) [(0, .int .i64 2), (1, .string id), (7, .int .i64 t.tr.kind), (8, .string t.tr.s), (9, .int .i64 t.tr.n), (10, .slice A4 t.tr.ks.length c4)] (by omega)
    have hBM := bl_sets HB2.out (w.heap.size + 1 + 1) (by omega) [(0, .int .i64 2), (1, .string id), (7, .int .i64 t.tr.kind), (8, .string t.tr.s), (9, .int .i64 t.tr.n), (10, .slice A4 t.tr.ks.length c4)]
    have hSM : w.heap.size + 1 + 1 < (wsets w4 (w.heap.size + 1 + 1) [(0, .int .i64 2), (1, .string id), (7, .int .i64 t.tr.kind), (8, .string t.tr.s), (9, .int .i64 t.tr.n), (10, .slice A4 t.tr.ks.length c4)]).heap.size := by rw [wsets_size]; exact HS2.out
    obtain ⟨WM, hWM⟩ : ∃ WM, wsets w4 (w.heap.size + 1 + 1) [(0, .int .i64 2), (1, .string id), (7, .int .i64 t.tr.kind), (8, .string t.tr.s), (9, .int .i64 t.tr.n), (10, .slice A4 t.tr.ks.length c4)] = WM := ⟨_, rfl⟩
    rw [hWM] at hEM hCM hRM hBM hSM
    unfold wsets at hWM
    simp only [List.foldl_cons, List.foldl_nil] at hWM
    have HWM := Lib.hid hWM
    clear hWM HT4 hparts hf
    go_upto_region 12 with fail
    rw [HWM.out]
    clear HWM
    replace HKC2 := Lib.hid hCM
    replace HKE2 := Lib.hid hEM
    replace HKR2 := Lib.hid hRM
    replace HB2 := Lib.hid hBM
    replace HS2 := Lib.hid hSM
    clear e0 e1 e2 e3 e4 e5 e6 e7 e8 e9 e10 ez p0 p1 p2 p3 p4 p5 p6 p7 hEM hCM hRM hBM hSM
    obtain ⟨e0, e1, e2, e3, e4, e5, e6, e7, e8, e9, e10⟩ := HKE2.out.eleven
    have ez := fun j => HKE2.out.frozen j
    obtain ⟨p0, p1, p2, p3, p4, p5, p6, p7⟩ := HKC2.out.eight
    go_wp2_with fail
    refine (HCN.out _ HB2.out).mono ?_
    rintro e w5 ⟨u, v, rfl, hT, hf, hparts, hb4⟩
    obtain ⟨A6, c6, cs6, rfl, -, -⟩ := hT.open_
    have HT4 := Lib.hid hT
    have hs3 := HS2.out
    replace p0 := cell_below hb4 p0
    replace p1 := cell_below hb4 p1
    replace p2 := cell_below hb4 p2
    replace p3 := cell_below hb4 p3
    replace p4 := cell_below hb4 p4
    replace p5 := cell_below hb4 p5
    replace p6 := cell_below hb4 p6
    replace p7 := cell_below hb4 p7
    replace HKC2 := Lib.hid (HKC2.out.below hb4)
    replace HKE2 := Lib.hid (HKE2.out.below hb4)
    replace HKR2 := Lib.hid (HKR2.out.below hb4)
    replace HB2 := Lib.hid (bl_step hb4 HB2.out)
    replace HS2 := Lib.hid (Nat.lt_of_lt_of_le HS2.out (hb4).size)
    clear e0 e1 e2 e3 e4 e5 e6 e7 e8 e9 e10 ez
    obtain ⟨e0, e1, e2, e3, e4, e5, e6, e7, e8, e9, e10⟩ := HKE2.out.eleven
    have ez := fun j => HKE2.out.frozen j
    clear hT hb4
    obtain ⟨WF, hWF⟩ : ∃ WF, wsets w5 (w.heap.size + 1 + 1) [(7, .int .i64 u.tr.kind), (8, .string u.tr.s), (9, .int .i64 u.tr.n), (10, .slice A6 u.tr.ks.length c6)] = WF := ⟨_, rfl⟩
    have hEF := HKE2.out.sets [(7, .int .i64 u.tr.kind), (8, .string u.tr.s), (9, .int .i64 u.tr.n), (10, .slice A6 u.tr.ks.length c6)]
    simp only [List.foldl_cons, List.foldl_nil, List.setIfInBounds_toArray, List.set_cons_zero, List.set_cons_succ] at hEF
    have hRF := HKR2.out.sets_far (r := w.heap.size + 1 + 1) [(7, .int .i64 u.tr.kind), (8, .string u.tr.s), (9, .int .i64 u.tr.n), (10, .slice A6 u.tr.ks.length c6)] (by omega)
    have hBF := bl_sets HB2.out (w.heap.size + 1 + 1) (by omega) [(7, .int .i64 u.tr.kind), (8, .string u.tr.s), (9, .int .i64 u.tr.n), (10, .slice A6 u.tr.ks.length c6)]
    have hSF : w.heap.size + 1 + 1 < (wsets w5 (w.heap.size + 1 + 1) [(7, .int .i64 u.tr.kind), (8, .string u.tr.s), (9, .int .i64 u.tr.n), (10, .slice A6 u.tr.ks.length c6)]).heap.size := by rw [wsets_size]; exact HS2.out
    have hTF := TrAt.mono (y := w.heap.size + 1 + 1) (TrAt.sets (r := w.heap.size + 1 + 1) (HT4.out) (by omega) [(7, .int .i64 u.tr.kind), (8, .string u.tr.s), (9, .int .i64 u.tr.n), (10, .slice A6 u.tr.ks.length c6)]) (by omega)
    rw [hWF] at hEF hRF hBF hSF hTF
    unfold wsets at hWF
    simp only [List.foldl_cons, List.foldl_nil] at hWF
    have HWF := Lib.hid hWF
    clear hWF
    go_upto_region 52 with fail
    rw [HWF.out]
    clear HWF
    clear p0 p1 p2 p3 p4 p5 p6 p7 e0 e1 e2 e3 e4 e5 e6 e7 e8 e9 e10 ez
    have HEF := Lib.hid hEF; have HRF := Lib.hid hRF; have HBF := Lib.hid hBF; have HTF := Lib.hid hTF; have HSF := Lib.hid hSF
    clear hEF hRF hBF hTF hSF
    obtain ⟨e0, e1, e2, e3, e4, e5, e6, e7, e8, e9, e10⟩ := HEF.out.eleven
    obtain ⟨r0, r1, r2, r3, r4, r5, r6, r7, r8, r9, r10⟩ := HRF.out.eleven
    have rz := fun j => HRF.out.frozen j
    go_wp2_with fail
    (try simp only [Exit.inBlock, Exit.then])
    refine bodyPost_ret (results_E rfl _ _ (w.heap.size + 1) _ _ _ _ _ _ _ _ _ _ _ _ rfl (HRF.out.set11 _ _ _ _ _ _ _ _ _ _ _)) rfl ?_
    exact do_post (ev := tradeX id u) HBF.out HTF.out HSF.out ⟨tradeX_fit id u hidl hf hparts, rfl, rfl, rfl, rfl, rfl, rfl, rfl⟩
  · have hmb : (cb.tmod 17 == 16) = false := by simpa using hm
    have hs3 := HS3.out
    obtain ⟨WF, hWF⟩ : ∃ WF, wsets w4 (w.heap.size + 1 + 1) [(0, .int .i64 2), (1, .string id), (7, .int .i64 t.tr.kind), (8, .string t.tr.s), (9, .int .i64 t.tr.n), (10, .slice A4 t.tr.ks.length c4)] = WF := ⟨_, rfl⟩
    have hEF := HKE2.out.sets [(0, .int .i64 2), (1, .string id), (7, .int .i64 t.tr.kind), (8, .string t.tr.s), (9, .int .i64 t.tr.n), (10, .slice A4 t.tr.ks.length c4)]
    simp only [List.foldl_cons, List.foldl_nil, List.setIfInBounds_toArray, List.set_cons_zero, List.set_cons_succ] at hEF
    have hRF := HKR2.out.sets_far (r := w.heap.size + 1 + 1) [(0, .int .i64 2), (1, .string id), (7, .int .i64 t.tr.kind), (8, .string t.tr.s), (9, .int .i64 t.tr.n), (10, .slice A4 t.tr.ks.length c4)] (by omega)
    have hBF := bl_sets HB2.out (w.heap.size + 1 + 1) (by omega) [(0, .int .i64 2), (1, .string id), (7, .int .i64 t.tr.kind), (8, .string t.tr.s), (9, .int .i64 t.tr.n), (10, .slice A4 t.tr.ks.length c4)]
    have hSF : w.heap.size + 1 + 1 < (wsets w4 (w.heap.size + 1 + 1) [(0, .int .i64 2), (1, .string id), (7, .int .i64 t.tr.kind), (8, .string t.tr.s), (9, .int .i64 t.tr.n), (10, .slice A4 t.tr.ks.length c4)]).heap.size := by rw [wsets_size]; exact HS2.out
    have hTF := TrAt.mono (y := w.heap.size + 1 + 1) (TrAt.sets (r := w.heap.size + 1 + 1) (HT4.out) (by omega) [(0, .int .i64 2), (1, .string id), (7, .int .i64 t.tr.kind), (8, .string t.tr.s), (9, .int .i64 t.tr.n), (10, .slice A4 t.tr.ks.length c4)]) (by omega)
    rw [hWF] at hEF hRF hBF hSF hTF
    unfold wsets at hWF
    simp only [List.foldl_cons, List.foldl_nil] at hWF
    have HWF := Lib.hid hWF
    clear hWF
    go_upto_region 52 with fail
    rw [HWF.out]
    clear HWF
    clear p0 p1 p2 p3 p4 p5 p6 p7 e0 e1 e2 e3 e4 e5 e6 e7 e8 e9 e10 ez
    have HEF := Lib.hid hEF; have HRF := Lib.hid hRF; have HBF := Lib.hid hBF; have HTF := Lib.hid hTF; have HSF := Lib.hid hSF
    clear hEF hRF hBF hTF hSF
    obtain ⟨e0, e1, e2, e3, e4, e5, e6, e7, e8, e9, e10⟩ := HEF.out.eleven
    obtain ⟨r0, r1, r2, r3, r4, r5, r6, r7, r8, r9, r10⟩ := HRF.out.eleven
    have rz := fun j => HRF.out.frozen j
    go_wp2_with fail
    (try simp only [Exit.inBlock, Exit.then])
    refine bodyPost_ret (results_E rfl _ _ (w.heap.size + 1) _ _ _ _ _ _ _ _ _ _ _ _ rfl (HRF.out.set11 _ _ _ _ _ _ _ _ _ _ _)) rfl ?_
    exact do_post (ev := tradeX id t) HBF.out HTF.out HSF.out ⟨tradeX_fit id t hidl hf hparts, rfl, rfl, rfl, rfl, rfl, rfl, rfl⟩
end Go.Proofs.YtapbkomicihkkaaGreatDoor
