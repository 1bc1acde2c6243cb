/- A command's event: of any kind. -/
import Derived.Test.YtapbkomicihkkaaGreatDoorDo1
namespace Go.Proofs.YtapbkomicihkkaaGreatDoor
open Go.RowKit
set_option linter.unusedVariables false
set_option linter.unusedSimpArgs false

def dayX (d : Int) : Ev := ⟨5, eS, eS, eS, eS, d, 0, .odd .nilIface⟩
theorem dayX_fit (d : Int) (hd : IsInt64 d) : (dayX d).fit :=
  ⟨by show (0 : Int) ≤ 5 ∧ (5 : Int) ≤ 8; decide, by show eS.size ≤ 100; decide, by show eS.size ≤ 100; decide, by show eS.size ≤ 100; decide, by show eS.size ≤ 100; decide, hd, by unfold IsInt64; show _ ≤ (0 : Int) ∧ (0 : Int) < _; decide, .inl rfl⟩
set_option maxRecDepth 100000 in
set_option maxHeartbeats 8000000 in
theorem do_e (w : World) (c : Cm) (vN vW : Value) (hc : c.ok) (hp : PlanAt w vN vW) (day : Int) (hday : 0 ≤ day ∧ day ≤ 1000000) (hk : 14 ≤ c.kind % 20 ∧ c.kind % 20 < 17) :
    Calls Tryz.prog 34 #[.pointer none, c.val vN vW, .int .i64 day] w (GivesEv w) := by
  unfold GivesEv
  unfold Cm.val
  obtain ⟨⟨A, n, cc, xs, rfl, hn⟩, ⟨A', n', cc', xs', rfl, hn'⟩⟩ := (show PlanAt w vN vW from hp)
  clear hn hn'
  obtain ⟨W1, hW1⟩ : ∃ W1, ((w.alloc (.cells #[.int .i64 c.kind, .int .i64 c.a, .int .i64 c.b, .int .i64 c.day, .int .i64 c.value, .string c.word, .slice A n cc, .slice A' n' cc'] 27)).alloc (.cells #[.int .i64 0, .string ⟨#[]⟩, .string ⟨#[]⟩, .string ⟨#[]⟩, .string ⟨#[]⟩, .int .i64 0, .int .i64 0, .int .i64 0, .string ⟨#[]⟩, .int .i64 0, .slice none 0 0] 35)).alloc (.cells #[.int .i64 0, .string ⟨#[]⟩, .string ⟨#[]⟩, .string ⟨#[]⟩, .string ⟨#[]⟩, .int .i64 0, .int .i64 0, .int .i64 0, .string ⟨#[]⟩, .int .i64 0, .slice none 0 0] 35) = W1 := ⟨_, rfl⟩
  have hb1 := bl_alloc (bl_alloc (bl_alloc (bl_refl w) (.cells #[.int .i64 c.kind, .int .i64 c.a, .int .i64 c.b, .int .i64 c.day, .int .i64 c.value, .string c.word, .slice A n cc, .slice A' n' cc'] 27)) (.cells #[.int .i64 0, .string ⟨#[]⟩, .string ⟨#[]⟩, .string ⟨#[]⟩, .string ⟨#[]⟩, .int .i64 0, .int .i64 0, .int .i64 0, .string ⟨#[]⟩, .int .i64 0, .slice none 0 0] 35)) (.cells #[.int .i64 0, .string ⟨#[]⟩, .string ⟨#[]⟩, .string ⟨#[]⟩, .string ⟨#[]⟩, .int .i64 0, .int .i64 0, .int .i64 0, .string ⟨#[]⟩, .int .i64 0, .slice none 0 0] 35)
  obtain ⟨hkC, hkR, hkE, hs1⟩ := do_blocks w #[.int .i64 c.kind, .int .i64 c.a, .int .i64 c.b, .int .i64 c.day, .int .i64 c.value, .string c.word, .slice A n cc, .slice A' n' cc'] 27 #[.int .i64 0, .string ⟨#[]⟩, .string ⟨#[]⟩, .string ⟨#[]⟩, .string ⟨#[]⟩, .int .i64 0, .int .i64 0, .int .i64 0, .string ⟨#[]⟩, .int .i64 0, .slice none 0 0] 35
  rw [hW1] at hb1 hkC hkR hkE hs1
  have hnm := kname_calls c.a hc.a
  have hwi := fun W => within_calls c.kind 20 W (by have := hc.kind; unfold IsInt64 at this; omega) (by omega)
  have htx := fun W => text_calls c.word 14 hc.word (by omega) W
  have hts : (c.word.extract 0 (min c.word.size 14)).size ≤ 14 := by simp; omega
  have hns := nameS_size (c.a % 5).toNat
  obtain ⟨hi1, hi2, hi3, hi4, hi5, hi6⟩ := hc
  unfold IsInt64 at hi1 hi2 hi3 hi4 hi5
  generalize c.word.extract 0 (min c.word.size 14) = wd at *
  generalize nameS (c.a % 5).toNat = nm at *
  generalize c.kind % 20 = kk at *
  generalize c.kind = ck at *
  generalize c.a = ca at *
  generalize c.b = cb at *
  generalize c.day = cd at *
  generalize c.value = cv at *
  generalize c.word = cw at *
  have HW1 := Lib.hid hW1; have HP := Lib.hid hp; have HNM := Lib.hid hnm; have HWI := Lib.hid hwi; have HTX := Lib.hid htx; have HKC := Lib.hid hkC; have HKE := Lib.hid hkE; have HKR := Lib.hid hkR; have HB1 := Lib.hid hb1; have HS1 := Lib.hid hs1
  clear hW1 hp hnm hwi htx hkC hkR hkE hb1 hs1
  obtain ⟨p0, p1, p2, p3, p4, p5, p6, p7⟩ := HKC.out.eight
  go_enter Tryz.func34, Tryz.ntmps34
  go_upto_region 2 with fail
  rw [HW1.out]
  go_wp2_with fail
  refine (HNM.out _).mono ?_
  rintro e w2 ⟨rfl, hb2⟩
  have HB2 := Lib.hid (bl_step hb2 HB1.out)
  have HKC2 := Lib.hid (HKC.out.below hb2); have HKE2 := Lib.hid (HKE.out.below hb2); have HKR2 := Lib.hid (HKR.out.below hb2)
  have HS2 := Lib.hid (show w.heap.size + 1 + 1 < w2.heap.size by have := hb2.size; have := HS1.out; omega)
  replace p0 := cell_below hb2 p0
  replace p1 := cell_below hb2 p1
  replace p2 := cell_below hb2 p2
  replace p3 := cell_below hb2 p3
  replace p4 := cell_below hb2 p4
  replace p5 := cell_below hb2 p5
  replace p6 := cell_below hb2 p6
  replace p7 := cell_below hb2 p7
  clear hb2 HB1 HKC HKE HKR HW1 HS1 HNM
  clear W1
  go_upto_if 28 with fail
  go_cut [8] (fun v wx => ∃ id : ByteArray, id.size ≤ 14 ∧ v = .string id ∧ wx = w2)
  case first =>
    by_cases hm : ca.tmod 19 = 18
    · go_wp2_with fail
      refine (HTX.out _).mono ?_
      rintro e w3 ⟨rfl, rfl⟩
      go_wp2_with fail
      go_meet
      exact ⟨wd, hts, rfl, rfl⟩
    · have hmb : (ca.tmod 19 == 18) = false := by simpa using hm
      go_wp2_with fail
      go_meet
      exact ⟨nm, by omega, rfl, rfl⟩
  obtain ⟨id, hidl, rfl, rfl⟩ := hcut
  clear hts hns HTX
  obtain ⟨e0, e1, e2, e3, e4, e5, e6, e7, e8, e9, e10⟩ := HKE2.out.eleven
  have ez := fun j => HKE2.out.frozen j
  go_wp2_with fail
  refine (HWI.out _).mono ?_
  rintro e w3 ⟨rfl, rfl⟩
  clear HWI
  obtain ⟨hk1, hk2⟩ := hk
  have hk0 : (kk == 0) = false := by simp; omega
  have hw := fun W => within_calls cd 4 W (by omega) (by omega)
  have hd0 := Int.emod_nonneg cd (show (4 : Int) ≠ 0 by omega)
  have hd1 := Int.emod_lt_of_pos cd (show (0 : Int) < 4 by omega)
  generalize cd % 4 = dm at *
  have HW := Lib.hid hw
  clear hw
  go_wp2_with fail
  refine (HW.out _).mono ?_
  rintro e w4 ⟨rfl, rfl⟩
  have hdd : IsInt64 (dm + day) := by unfold IsInt64; omega
  have HDD := Lib.hid hdd
  clear hdd
  obtain ⟨WF, hWF⟩ : ∃ WF, wsets w4 (w.heap.size + 1 + 1) [(0, .int .i64 5), (5, .int .i64 (dm + day))] = WF := ⟨_, rfl⟩
  have hEF := HKE2.out.sets [(0, .int .i64 5), (5, .int .i64 (dm + day))]
  simp only [List.foldl_cons, List.foldl_nil, List.setIfInBounds_toArray, List.set_cons_zero, List.set_cons_succ] at hEF
  have hRF := HKR2.out.sets_far (r := w.heap.size + 1 + 1) [(0, .int .i64 5), (5, .int .i64 (dm + day))] (by omega)
  have hBF := bl_sets HB2.out (w.heap.size + 1 + 1) (by omega) [(0, .int .i64 5), (5, .int .i64 (dm + day))]
  have hSF : w.heap.size + 1 + 1 < (wsets w4 (w.heap.size + 1 + 1) [(0, .int .i64 5), (5, .int .i64 (dm + day))]).heap.size := by rw [wsets_size]; exact HS2.out
  have hTF := TrAt.mono (y := w.heap.size + 1 + 1) (TrAt.sets (r := w.heap.size + 1 + 1) (TrAt.leaf (w.heap.size + 1 + 1 + 1) w4 0 ⟨#[]⟩ 0 0) (by omega) [(0, .int .i64 5), (5, .int .i64 (dm + day))]) (by omega)
  rw [hWF] at hEF hRF hBF hSF hTF
  unfold wsets at hWF
  simp only [List.foldl_cons, List.foldl_nil] at hWF
  have HWF := Lib.hid hWF
  clear hWF
  go_upto_region 52 with fail
  rw [HWF.out]
  clear HWF
  clear p0 p1 p2 p3 p4 p5 p6 p7 e0 e1 e2 e3 e4 e5 e6 e7 e8 e9 e10 ez
  have HEF := Lib.hid hEF; have HRF := Lib.hid hRF; have HBF := Lib.hid hBF; have HTF := Lib.hid hTF; have HSF := Lib.hid hSF
  clear hEF hRF hBF hTF hSF
  obtain ⟨e0, e1, e2, e3, e4, e5, e6, e7, e8, e9, e10⟩ := HEF.out.eleven
  obtain ⟨r0, r1, r2, r3, r4, r5, r6, r7, r8, r9, r10⟩ := HRF.out.eleven
  have rz := fun j => HRF.out.frozen j
  go_wp2_with fail
  (try simp only [Exit.inBlock, Exit.then])
  refine bodyPost_ret (results_E rfl _ _ (w.heap.size + 1) _ _ _ _ _ _ _ _ _ _ _ _ rfl (HRF.out.set11 _ _ _ _ _ _ _ _ _ _ _)) rfl ?_
  exact do_post (ev := dayX (dm + day)) HBF.out HTF.out HSF.out ⟨dayX_fit (dm + day) HDD.out, rfl, rfl, rfl, rfl, rfl, rfl, rfl⟩
end Go.Proofs.YtapbkomicihkkaaGreatDoor
namespace Go.Proofs.YtapbkomicihkkaaGreatDoor
open Go.RowKit
set_option linter.unusedVariables false
set_option linter.unusedSimpArgs false

def oddX (k : Int) (s : ByteArray) (d v : Int) : Ev := ⟨k, s, eS, eS, eS, d, v, .odd .nilIface⟩
theorem oddX_fit (k : Int) (s : ByteArray) (d v : Int) (hk : 0 ≤ k ∧ k ≤ 8) (h : s.size ≤ 14) (hd : IsInt64 d) (hv : IsInt64 v) : (oddX k s d v).fit :=
  ⟨hk, by show s.size ≤ 100; omega, by show eS.size ≤ 100; decide, by show eS.size ≤ 100; decide, by show eS.size ≤ 100; decide, hd, hv, .inl rfl⟩
set_option maxRecDepth 100000 in
set_option maxHeartbeats 8000000 in
theorem do_g (w : World) (c : Cm) (vN vW : Value) (hc : c.ok) (hp : PlanAt w vN vW) (day : Int) (hday : 0 ≤ day ∧ day ≤ 1000000) (hk : 19 ≤ c.kind % 20) :
    Calls Tryz.prog 34 #[.pointer none, c.val vN vW, .int .i64 day] w (GivesEv w) := by
  unfold GivesEv
  unfold Cm.val
  have htw := fun W => text_calls c.word 5 hc.word (by omega) W
  have htz : (c.word.extract 0 (min c.word.size 5)).size ≤ 14 := by simp; omega
  obtain ⟨tw, htwd⟩ : ∃ tw, c.word.extract 0 (min c.word.size 5) = tw := ⟨_, rfl⟩
  rw [htwd] at htw htz
  have HTW := Lib.hid htw; have HTZ := Lib.hid htz
  clear htw htz htwd
  obtain ⟨⟨A, n, cc, xs, rfl, hn⟩, ⟨A', n', cc', xs', rfl, hn'⟩⟩ := (show PlanAt w vN vW from hp)
  clear hn hn'
  obtain ⟨W1, hW1⟩ : ∃ W1, ((w.alloc (.cells #[.int .i64 c.kind, .int .i64 c.a, .int .i64 c.b, .int .i64 c.day, .int .i64 c.value, .string c.word, .slice A n cc, .slice A' n' cc'] 27)).alloc (.cells #[.int .i64 0, .string ⟨#[]⟩, .string ⟨#[]⟩, .string ⟨#[]⟩, .string ⟨#[]⟩, .int .i64 0, .int .i64 0, .int .i64 0, .string ⟨#[]⟩, .int .i64 0, .slice none 0 0] 35)).alloc (.cells #[.int .i64 0, .string ⟨#[]⟩, .string ⟨#[]⟩, .string ⟨#[]⟩, .string ⟨#[]⟩, .int .i64 0, .int .i64 0, .int .i64 0, .string ⟨#[]⟩, .int .i64 0, .slice none 0 0] 35) = W1 := ⟨_, rfl⟩
  have hb1 := bl_alloc (bl_alloc (bl_alloc (bl_refl w) (.cells #[.int .i64 c.kind, .int .i64 c.a, .int .i64 c.b, .int .i64 c.day, .int .i64 c.value, .string c.word, .slice A n cc, .slice A' n' cc'] 27)) (.cells #[.int .i64 0, .string ⟨#[]⟩, .string ⟨#[]⟩, .string ⟨#[]⟩, .string ⟨#[]⟩, .int .i64 0, .int .i64 0, .int .i64 0, .string ⟨#[]⟩, .int .i64 0, .slice none 0 0] 35)) (.cells #[.int .i64 0, .string ⟨#[]⟩, .string ⟨#[]⟩, .string ⟨#[]⟩, .string ⟨#[]⟩, .int .i64 0, .int .i64 0, .int .i64 0, .string ⟨#[]⟩, .int .i64 0, .slice none 0 0] 35)
  obtain ⟨hkC, hkR, hkE, hs1⟩ := do_blocks w #[.int .i64 c.kind, .int .i64 c.a, .int .i64 c.b, .int .i64 c.day, .int .i64 c.value, .string c.word, .slice A n cc, .slice A' n' cc'] 27 #[.int .i64 0, .string ⟨#[]⟩, .string ⟨#[]⟩, .string ⟨#[]⟩, .string ⟨#[]⟩, .int .i64 0, .int .i64 0, .int .i64 0, .string ⟨#[]⟩, .int .i64 0, .slice none 0 0] 35
  rw [hW1] at hb1 hkC hkR hkE hs1
  have hnm := kname_calls c.a hc.a
  have hwi := fun W => within_calls c.kind 20 W (by have := hc.kind; unfold IsInt64 at this; omega) (by omega)
  have htx := fun W => text_calls c.word 14 hc.word (by omega) W
  have hts : (c.word.extract 0 (min c.word.size 14)).size ≤ 14 := by simp; omega
  have hns := nameS_size (c.a % 5).toNat
  obtain ⟨hi1, hi2, hi3, hi4, hi5, hi6⟩ := hc
  unfold IsInt64 at hi1 hi2 hi3 hi4 hi5
  generalize c.word.extract 0 (min c.word.size 14) = wd at *
  generalize nameS (c.a % 5).toNat = nm at *
  generalize c.kind % 20 = kk at *
  generalize c.kind = ck at *
  generalize c.a = ca at *
  generalize c.b = cb at *
  generalize c.day = cd at *
  generalize c.value = cv at *
  generalize c.word = cw at *
  have HW1 := Lib.hid hW1; have HP := Lib.hid hp; have HNM := Lib.hid hnm; have HWI := Lib.hid hwi; have HTX := Lib.hid htx; have HKC := Lib.hid hkC; have HKE := Lib.hid hkE; have HKR := Lib.hid hkR; have HB1 := Lib.hid hb1; have HS1 := Lib.hid hs1
  clear hW1 hp hnm hwi htx hkC hkR hkE hb1 hs1
  obtain ⟨p0, p1, p2, p3, p4, p5, p6, p7⟩ := HKC.out.eight
  go_enter Tryz.func34, Tryz.ntmps34
  go_upto_region 2 with fail
  rw [HW1.out]
  go_wp2_with fail
  refine (HNM.out _).mono ?_
  rintro e w2 ⟨rfl, hb2⟩
  have HB2 := Lib.hid (bl_step hb2 HB1.out)
  have HKC2 := Lib.hid (HKC.out.below hb2); have HKE2 := Lib.hid (HKE.out.below hb2); have HKR2 := Lib.hid (HKR.out.below hb2)
  have HS2 := Lib.hid (show w.heap.size + 1 + 1 < w2.heap.size by have := hb2.size; have := HS1.out; omega)
  replace p0 := cell_below hb2 p0
  replace p1 := cell_below hb2 p1
  replace p2 := cell_below hb2 p2
  replace p3 := cell_below hb2 p3
  replace p4 := cell_below hb2 p4
  replace p5 := cell_below hb2 p5
  replace p6 := cell_below hb2 p6
  replace p7 := cell_below hb2 p7
  clear hb2 HB1 HKC HKE HKR HW1 HS1 HNM
  clear W1
  go_upto_if 28 with fail
  go_cut [8] (fun v wx => ∃ id : ByteArray, id.size ≤ 14 ∧ v = .string id ∧ wx = w2)
  case first =>
    by_cases hm : ca.tmod 19 = 18
    · go_wp2_with fail
      refine (HTX.out _).mono ?_
      rintro e w3 ⟨rfl, rfl⟩
      go_wp2_with fail
      go_meet
      exact ⟨wd, hts, rfl, rfl⟩
    · have hmb : (ca.tmod 19 == 18) = false := by simpa using hm
      go_wp2_with fail
      go_meet
      exact ⟨nm, by omega, rfl, rfl⟩
  obtain ⟨id, hidl, rfl, rfl⟩ := hcut
  clear hts hns HTX
  obtain ⟨e0, e1, e2, e3, e4, e5, e6, e7, e8, e9, e10⟩ := HKE2.out.eleven
  have ez := fun j => HKE2.out.frozen j
  go_wp2_with fail
  refine (HWI.out _).mono ?_
  rintro e w3 ⟨rfl, rfl⟩
  clear HWI
  have hk0 : (kk == 0) = false := by simp; omega
  have hw1 := fun W => within_calls ca 9 W (by omega) (by omega)
  have hd0 := Int.emod_nonneg ca (show (9 : Int) ≠ 0 by omega)
  have hd1 := Int.emod_lt_of_pos ca (show (0 : Int) < 9 by omega)
  generalize ca % 9 = km at *
  have hkm : 0 ≤ km ∧ km ≤ 8 := by omega
  have hcd : IsInt64 cd := by unfold IsInt64; omega
  have hcv : IsInt64 cv := by unfold IsInt64; omega
  have HW1 := Lib.hid hw1; have HKM := Lib.hid hkm; have HCD := Lib.hid hcd; have HCV := Lib.hid hcv
  clear hw1 hkm hcd hcv
  have hD0 : DoSt w w3 #[.int .i64 ck, .int .i64 ca, .int .i64 cb, .int .i64 cd, .int .i64 cv, .string cw, .slice A n cc, .slice A' n' cc'] #[.int .i64 0, .string ⟨#[]⟩, .string ⟨#[]⟩, .string ⟨#[]⟩, .string ⟨#[]⟩, .int .i64 0, .int .i64 0, .int .i64 0, .string ⟨#[]⟩, .int .i64 0, .slice none 0 0] := ⟨HKC2.out, HKE2.out, HKR2.out, HB2.out, HS2.out⟩
  go_upto_region 6 with fail
  clear e0 e1 e2 e3 e4 e5 e6 e7 e8 e9 e10 ez
  refine wp_region_noPanic ?_
  refine wp_region_held_drew (S := fun w' => w'.cell? ⟨w.heap.size, 1, none⟩ = some (.int .i64 ca) ∧ w'.cell? ⟨w.heap.size, 3, none⟩ = some (.int .i64 cd) ∧ w'.cell? ⟨w.heap.size, 4, none⟩ = some (.int .i64 cv) ∧ w'.cell? ⟨w.heap.size, 5, none⟩ = some (.string cw)) (by kernel_rfl) ⟨p1, p3, p4, p5⟩ (fun hH => ?_)
  have hD2 := hD0.drew
  clear p0 p1 p2 p3 p4 p5 p6 p7 HKC2 HKE2 HKR2 HB2 HS2
  refine wpAnyH_world (fun W => DoSt w W _ _) hD2 (fun W1 hD => ?_)
  clear hH hD2 hD0
  clear w3
  have hH : W1.cell? ⟨w.heap.size, 1, none⟩ = some (.int .i64 ca) ∧ W1.cell? ⟨w.heap.size, 3, none⟩ = some (.int .i64 cd) ∧ W1.cell? ⟨w.heap.size, 4, none⟩ = some (.int .i64 cv) ∧ W1.cell? ⟨w.heap.size, 5, none⟩ = some (.string cw) := (And.intro (hD.cmd.cell 1) (And.intro (hD.cmd.cell 3) (And.intro (hD.cmd.cell 4) (hD.cmd.cell 5))))
  refine tkx 0 rfl ?_
  refine tkx 1 rfl ?_
  refine tkx 3 rfl ?_
  refine tkx 4 rfl ?_
  refine tkx 6 rfl ?_
  refine tkx 7 rfl ?_
  refine tkx 8 rfl ?_
  refine tkx 9 rfl ?_
  refine wpAnyH_ready (rs := [2]) (by kernel_rfl) (by simp) ?_
  refine AllReadyH.cons rfl (fun K hK => ?_) AllReadyH.nil
  (try go_simp)
  (with_reducible refine (HW1.out _).mono ?_)
  rintro e wq ⟨rfl, rfl⟩
  (try go_simp)
  refine hK.out _ _ hH (fun hH9 => ?_)
  clear hK K hH9
  (try dsimp only [Act.put, List.setIfInBounds_toArray, List.set_cons_zero, List.set_cons_succ])
  refine wpAnyH_ready (rs := [5]) (by kernel_rfl) (by simp) ?_
  refine AllReadyH.cons rfl (fun K hK => ?_) AllReadyH.nil
  (try go_simp)
  refine (HTW.out _).mono ?_
  rintro e wr ⟨rfl, rfl⟩
  (try go_simp)
  refine hK.out _ _ hH (fun hH9 => ?_)
  clear hK K hH9
  (try simp only [Act.put, List.setIfInBounds_toArray, List.set_cons_zero, List.set_cons_succ])
  refine tkx 10 rfl ?_
  obtain ⟨e0, e1, e2, e3, e4, e5, e6, e7, e8, e9, e10⟩ := hD.ev.eleven
  have ez := fun j => hD.ev.frozen j
  refine wpAnyH_ready (rs := [11]) (by kernel_rfl) (by simp) ?_
  refine AllReadyH.cons rfl (fun K hK => ?_) AllReadyH.nil
  (try go_simp)
  have hD2 := (((((((((((hD.set 0 (.int .i64 km)).set 1 (.string tw)).set 2 (.string ⟨#[]⟩)).set 3 (.string ⟨#[]⟩)).set 4 (.string ⟨#[]⟩)).set 5 (.int .i64 cd)).set 6 (.int .i64 cv)).set 7 (.int .i64 0)).set 8 (.string ⟨#[]⟩)).set 9 (.int .i64 0)).set 10 (.slice none 0 0))
  simp only [List.setIfInBounds_toArray, List.set_cons_zero, List.set_cons_succ] at hD2
  refine hK.out _ _ (And.intro (hD2.cmd.cell 1) (And.intro (hD2.cmd.cell 3) (And.intro (hD2.cmd.cell 4) (hD2.cmd.cell 5)))) (fun hH9 => ?_)
  (try simp only [Act.put, List.setIfInBounds_toArray, List.set_cons_zero, List.set_cons_succ])
  refine wpAnyH_world (fun W => DoSt w W _ _) hD2 (fun WF hD3 => ?_)
  clear hK K hH hH9 hD2 hD e0 e1 e2 e3 e4 e5 e6 e7 e8 e9 e10 ez
  have HD := Lib.hid hD3
  clear hD3
  refine wpAnyH_done (by kernel_rfl) ?_ _
  refine NoPanic.normal ?_
  go_upto_region 52 with fail
  have hD := HD.out
  clear HD
  have hRF := hD.res
  have hTF := TrAt.leaf (w.heap.size + 1 + 1) WF 0 ⟨#[]⟩ 0 0
  have HEF := Lib.hid hD.ev; have HRF := Lib.hid hRF; have HBF := Lib.hid hD.bel; have HTF := Lib.hid hTF; have HSF := Lib.hid hD.size
  clear hRF hTF hD
  obtain ⟨e0, e1, e2, e3, e4, e5, e6, e7, e8, e9, e10⟩ := HEF.out.eleven
  obtain ⟨r0, r1, r2, r3, r4, r5, r6, r7, r8, r9, r10⟩ := HRF.out.eleven
  have rz := fun j => HRF.out.frozen j
  go_wp2_with fail
  (try simp only [Exit.inBlock, Exit.then])
  refine bodyPost_ret (results_E rfl _ _ (w.heap.size + 1) _ _ _ _ _ _ _ _ _ _ _ _ rfl (HRF.out.set11 _ _ _ _ _ _ _ _ _ _ _)) rfl ?_
  exact do_post (ev := oddX km tw cd cv) HBF.out HTF.out HSF.out ⟨oddX_fit km tw cd cv HKM.out HTZ.out HCD.out HCV.out, rfl, rfl, rfl, rfl, rfl, rfl, rfl⟩
end Go.Proofs.YtapbkomicihkkaaGreatDoor
