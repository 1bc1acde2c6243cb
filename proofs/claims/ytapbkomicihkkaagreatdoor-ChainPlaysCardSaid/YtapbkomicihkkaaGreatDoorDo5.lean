/- A command's event: a choice. -/
import Derived.Test.YtapbkomicihkkaaGreatDoorDo1
import Derived.Test.YtapbkomicihkkaaGreatDoorTk
namespace Go.Proofs.YtapbkomicihkkaaGreatDoor
open Go.RowKit
set_option linter.unusedVariables false
set_option linter.unusedSimpArgs false

def chS (n : Int) : ByteArray := ⟨#[99, 104]⟩ ++ itoaS n
theorem chS_size (n : Int) (h : (itoaS n).size ≤ 21) : (chS n).size ≤ 23 := by
  unfold chS; rw [ByteArray.size_append]; have : (⟨#[99, 104]⟩ : ByteArray).size = 2 := rfl; omega
def choX (id lb : ByteArray) (v : Int) : Ev := ⟨4, id, eS, lb, eS, 0, v, .odd .nilIface⟩
theorem choX_fit (id lb : ByteArray) (v : Int) (h : id.size ≤ 14) (hl : lb.size ≤ 23) (hv : IsInt64 v) : (choX id lb v).fit :=
  ⟨by show (0 : Int) ≤ 4 ∧ (4 : Int) ≤ 8; decide, by show id.size ≤ 100; omega, by show eS.size ≤ 100; decide, by show lb.size ≤ 100; omega, by show eS.size ≤ 100; decide, by unfold IsInt64; show _ ≤ (0 : Int) ∧ (0 : Int) < _; decide, hv, .inl rfl⟩
set_option maxRecDepth 100000 in
set_option maxHeartbeats 8000000 in
theorem do_d (w : World) (c : Cm) (vN vW : Value) (hc : c.ok) (hp : PlanAt w vN vW) (day : Int) (hday : 0 ≤ day ∧ day ≤ 1000000) (hk : 11 ≤ c.kind % 20 ∧ c.kind % 20 < 14) :
    Calls Tryz.prog 34 #[.pointer none, c.val vN vW, .int .i64 day] w (GivesEv w) := by
  unfold GivesEv
  unfold Cm.val
  obtain ⟨⟨A, n, cc, xs, rfl, hn⟩, ⟨A', n', cc', xs', rfl, hn'⟩⟩ := (show PlanAt w vN vW from hp)
  clear hn hn'
  obtain ⟨W1, hW1⟩ : ∃ W1, ((w.alloc (.cells #[.int .i64 c.kind, .int .i64 c.a, .int .i64 c.b, .int .i64 c.day, .int .i64 c.value, .string c.word, .slice A n cc, .slice A' n' cc'] 27)).alloc (.cells #[.int .i64 0, .string ⟨#[]⟩, .string ⟨#[]⟩, .string ⟨#[]⟩, .string ⟨#[]⟩, .int .i64 0, .int .i64 0, .int .i64 0, .string ⟨#[]⟩, .int .i64 0, .slice none 0 0] 35)).alloc (.cells #[.int .i64 0, .string ⟨#[]⟩, .string ⟨#[]⟩, .string ⟨#[]⟩, .string ⟨#[]⟩, .int .i64 0, .int .i64 0, .int .i64 0, .string ⟨#[]⟩, .int .i64 0, .slice none 0 0] 35) = W1 := ⟨_, rfl⟩
  have hb1 := bl_alloc (bl_alloc (bl_alloc (bl_refl w) (.cells #[.int .i64 c.kind, .int .i64 c.a, .int .i64 c.b, .int .i64 c.day, .int .i64 c.value, .string c.word, .slice A n cc, .slice A' n' cc'] 27)) (.cells #[.int .i64 0, .string ⟨#[]⟩, .string ⟨#[]⟩, .string ⟨#[]⟩, .string ⟨#[]⟩, .int .i64 0, .int .i64 0, .int .i64 0, .string ⟨#[]⟩, .int .i64 0, .slice none 0 0] 35)) (.cells #[.int .i64 0, .string ⟨#[]⟩, .string ⟨#[]⟩, .string ⟨#[]⟩, .string ⟨#[]⟩, .int .i64 0, .int .i64 0, .int .i64 0, .string ⟨#[]⟩, .int .i64 0, .slice none 0 0] 35)
  obtain ⟨hkC, hkR, hkE, hs1⟩ := do_blocks w #[.int .i64 c.kind, .int .i64 c.a, .int .i64 c.b, .int .i64 c.day, .int .i64 c.value, .string c.word, .slice A n cc, .slice A' n' cc'] 27 #[.int .i64 0, .string ⟨#[]⟩, .string ⟨#[]⟩, .string ⟨#[]⟩, .string ⟨#[]⟩, .int .i64 0, .int .i64 0, .int .i64 0, .string ⟨#[]⟩, .int .i64 0, .slice none 0 0] 35
  rw [hW1] at hb1 hkC hkR hkE hs1
  have hnm := kname_calls c.a hc.a
  have hwi := fun W => within_calls c.kind 20 W (by have := hc.kind; unfold IsInt64 at this; omega) (by omega)
  have htx := fun W => text_calls c.word 14 hc.word (by omega) W
  have hts : (c.word.extract 0 (min c.word.size 14)).size ≤ 14 := by simp; omega
  have hns := nameS_size (c.a % 5).toNat
  obtain ⟨hi1, hi2, hi3, hi4, hi5, hi6⟩ := hc
  unfold IsInt64 at hi1 hi2 hi3 hi4 hi5
  generalize c.word.extract 0 (min c.word.size 14) = wd at *
  generalize nameS (c.a % 5).toNat = nm at *
  generalize c.kind % 20 = kk at *
  generalize c.kind = ck at *
  generalize c.a = ca at *
  generalize c.b = cb at *
  generalize c.day = cd at *
  generalize c.value = cv at *
  generalize c.word = cw at *
  have HW1 := Lib.hid hW1; have HP := Lib.hid hp; have HNM := Lib.hid hnm; have HWI := Lib.hid hwi; have HTX := Lib.hid htx; have HKC := Lib.hid hkC; have HKE := Lib.hid hkE; have HKR := Lib.hid hkR; have HB1 := Lib.hid hb1; have HS1 := Lib.hid hs1
  clear hW1 hp hnm hwi htx hkC hkR hkE hb1 hs1
  obtain ⟨p0, p1, p2, p3, p4, p5, p6, p7⟩ := HKC.out.eight
  go_enter Tryz.func34, Tryz.ntmps34
  go_upto_region 2 with fail
  rw [HW1.out]
  go_wp2_with fail
  refine (HNM.out _).mono ?_
  rintro e w2 ⟨rfl, hb2⟩
  have HB2 := Lib.hid (bl_step hb2 HB1.out)
  have HKC2 := Lib.hid (HKC.out.below hb2); have HKE2 := Lib.hid (HKE.out.below hb2); have HKR2 := Lib.hid (HKR.out.below hb2)
  have HS2 := Lib.hid (show w.heap.size + 1 + 1 < w2.heap.size by have := hb2.size; have := HS1.out; omega)
  replace p0 := cell_below hb2 p0
  replace p1 := cell_below hb2 p1
  replace p2 := cell_below hb2 p2
  replace p3 := cell_below hb2 p3
  replace p4 := cell_below hb2 p4
  replace p5 := cell_below hb2 p5
  replace p6 := cell_below hb2 p6
  replace p7 := cell_below hb2 p7
  clear hb2 HB1 HKC HKE HKR HW1 HS1 HNM
  clear W1
  go_upto_if 28 with fail
  go_cut [8] (fun v wx => ∃ id : ByteArray, id.size ≤ 14 ∧ v = .string id ∧ wx = w2)
  case first =>
    by_cases hm : ca.tmod 19 = 18
    · go_wp2_with fail
      refine (HTX.out _).mono ?_
      rintro e w3 ⟨rfl, rfl⟩
      go_wp2_with fail
      go_meet
      exact ⟨wd, hts, rfl, rfl⟩
    · have hmb : (ca.tmod 19 == 18) = false := by simpa using hm
      go_wp2_with fail
      go_meet
      exact ⟨nm, by omega, rfl, rfl⟩
  obtain ⟨id, hidl, rfl, rfl⟩ := hcut
  clear hts hns HTX
  obtain ⟨e0, e1, e2, e3, e4, e5, e6, e7, e8, e9, e10⟩ := HKE2.out.eleven
  have ez := fun j => HKE2.out.frozen j
  go_wp2_with fail
  refine (HWI.out _).mono ?_
  rintro e w3 ⟨rfl, rfl⟩
  clear HWI
  obtain ⟨hk1, hk2⟩ := hk
  have hk0 : (kk == 0) = false := by simp; omega
  have hw1 := fun W => within_calls cb 3 W (by omega) (by omega)
  have hw2 := fun W => within_calls cv 2 W (by omega) (by omega)
  have hd0 := Int.emod_nonneg cb (show (3 : Int) ≠ 0 by omega)
  have hd1 := Int.emod_lt_of_pos cb (show (0 : Int) < 3 by omega)
  have hv0 := Int.emod_nonneg cv (show (2 : Int) ≠ 0 by omega)
  have hv1 := Int.emod_lt_of_pos cv (show (0 : Int) < 2 by omega)
  generalize cb % 3 = bm at *
  generalize cv % 2 = vm at *
  have hdg := fun W => digits_calls (1 + bm) (by omega) (by omega) W
  have his := itoaS_size (1 + bm) (by omega) (by omega)
  have hcs := chS_size (1 + bm) his
  have hcS : Hid (chS (1 + bm) = ⟨#[99, 104]⟩ ++ itoaS (1 + bm)) := rfl
  obtain ⟨ds, hds⟩ : ∃ ds, itoaS (1 + bm) = ds := ⟨_, rfl⟩
  rw [hds] at hdg his hcS
  obtain ⟨lb, hlb⟩ : ∃ lb, chS (1 + bm) = lb := ⟨_, rfl⟩
  rw [hlb] at hcs hcS
  have HCS := Lib.hid hcS.out
  have hfar : w.heap.size ≠ w.heap.size + 1 + 1 := by omega
  have hss1 : (9223372036854775807 < 2 + ds.size) = False := eq_false (by omega)
  have hss2 : (9223372036854775807 < (⟨#[99, 104]⟩ : ByteArray).size + ds.size) = False := hss1
  have hwr1 : IntKind.i64.wrap (1 + bm) = 1 + bm := IntWalk.i64_in _ (by omega)
  have HW1 := Lib.hid hw1; have HW2 := Lib.hid hw2; have HDG := Lib.hid hdg; have HVM : Hid (IsInt64 vm) := by unfold IsInt64; exact ⟨by omega, by omega⟩
  have HLB := Lib.hid hcs
  clear hw1 hw2 hdg hds hlb hcS hcs
  have hD0 : DoSt w w3 #[.int .i64 ck, .int .i64 ca, .int .i64 cb, .int .i64 cd, .int .i64 cv, .string cw, .slice A n cc, .slice A' n' cc'] #[.int .i64 0, .string ⟨#[]⟩, .string ⟨#[]⟩, .string ⟨#[]⟩, .string ⟨#[]⟩, .int .i64 0, .int .i64 0, .int .i64 0, .string ⟨#[]⟩, .int .i64 0, .slice none 0 0] := ⟨HKC2.out, HKE2.out, HKR2.out, HB2.out, HS2.out⟩
  go_upto_region 25 with fail
  go_cut [] (fun wx => DoSt w wx #[.int .i64 ck, .int .i64 ca, .int .i64 cb, .int .i64 cd, .int .i64 cv, .string cw, .slice A n cc, .slice A' n' cc'] #[.int .i64 4, .string id, .string ⟨#[]⟩, .string lb, .string ⟨#[]⟩, .int .i64 0, .int .i64 vm, .int .i64 0, .string ⟨#[]⟩, .int .i64 0, .slice none 0 0])
  case first =>
    clear e0 e1 e2 e3 e4 e5 e6 e7 e8 e9 e10 ez
    refine wp_region_noPanic ?_
    refine wp_region_held_drew (S := fun w' => w'.cell? ⟨w.heap.size, 2, none⟩ = some (.int .i64 cb) ∧ w'.cell? ⟨w.heap.size, 4, none⟩ = some (.int .i64 cv)) (by kernel_rfl) ⟨p2, p4⟩ (fun hH => ?_)
    have hD2 := hD0.drew
    clear p0 p1 p2 p3 p4 p5 p6 p7 HKC2 HKE2 HKR2 HB2 HS2
    refine wpAnyH_world (fun W => DoSt w W _ _) hD2 (fun W1 hD => ?_)
    clear hH hD2 hD0
    clear w3
    have hH : W1.cell? ⟨w.heap.size, 2, none⟩ = some (.int .i64 cb) ∧ W1.cell? ⟨w.heap.size, 4, none⟩ = some (.int .i64 cv) := ⟨hD.cmd.cell 2, hD.cmd.cell 4⟩
    refine tkx 0 rfl ?_
    refine tkx 1 rfl ?_
    refine tkx 2 rfl ?_
    refine tkx 7 rfl ?_
    refine tkx 8 rfl ?_
    refine tkx 10 rfl ?_
    refine wpAnyH_ready (rs := [3]) (by kernel_rfl) (by simp) ?_
    refine AllReadyH.cons rfl (fun K hK => ?_) AllReadyH.nil
    (try go_simp)
    (with_reducible refine (HW1.out _).mono ?_)
    rintro e w5 ⟨rfl, rfl⟩
    (try go_simp)
    refine hK.out _ _ hH (fun hH9 => ?_)
    clear hK K hH9
    (try simp only [Act.put, List.setIfInBounds_toArray, List.set_cons_zero, List.set_cons_succ])
    refine tkx 4 rfl ?_
    refine wpAnyH_ready (rs := [5]) (by kernel_rfl) (by simp) ?_
    refine AllReadyH.cons rfl (fun K hK => ?_) AllReadyH.nil
    (try go_simp)
    (with_reducible refine (HDG.out _).mono ?_)
    rintro e w6 ⟨rfl, hb6⟩
    (try go_simp)
    have hD2 := hD.below hb6
    refine hK.out _ _ ⟨hD2.cmd.cell 2, hD2.cmd.cell 4⟩ (fun hH9 => ?_)
    clear hK K hH hb6 hD
    have hH := hH9
    have hD := hD2
    clear hH9 hD2
    (try simp only [Act.put, List.setIfInBounds_toArray, List.set_cons_zero, List.set_cons_succ])
    refine tkx 6 rfl ?_
    refine wpAnyH_ready (rs := [9]) (by kernel_rfl) (by simp) ?_
    refine AllReadyH.cons rfl (fun K hK => ?_) AllReadyH.nil
    (try go_simp)
    (with_reducible refine (HW2.out _).mono ?_)
    rintro e wq ⟨rfl, rfl⟩
    (try go_simp)
    refine hK.out _ _ hH (fun hH9 => ?_)
    clear hK K hH9
    (try dsimp only [Act.put, List.setIfInBounds_toArray, List.set_cons_zero, List.set_cons_succ])
    obtain ⟨ov, ex⟩ : ∃ ov, wq.cell? ⟨w.heap.size + 1 + 1, 0, none⟩ = some ov := ⟨_, hD.ev.cell 0⟩
    have ez := hD.ev.frozen 0
    have hD2 := hD.set 0 (.int .i64 4)
    refine wpAnyH_ready (rs := [11]) (by kernel_rfl) (by simp) ?_
    refine AllReadyH.cons rfl (fun K hK => ?_) AllReadyH.nil
    (try go_simp)
    refine hK.out _ _ ⟨hD2.cmd.cell 2, hD2.cmd.cell 4⟩ (fun hH9 => ?_)
    (try dsimp only [Act.put, List.setIfInBounds_toArray, List.set_cons_zero, List.set_cons_succ])
    refine wpAnyH_world (fun W => DoSt w W _ _) hD2 (fun W2 hD3 => ?_)
    clear hK K hH hH9 hD2 hD ex ez ov
    have hD := hD3
    have hH : W2.cell? ⟨w.heap.size, 2, none⟩ = some (.int .i64 cb) ∧ W2.cell? ⟨w.heap.size, 4, none⟩ = some (.int .i64 cv) := ⟨hD3.cmd.cell 2, hD3.cmd.cell 4⟩
    clear hD3
    refine tkx 12 rfl ?_
    obtain ⟨ov, ex⟩ : ∃ ov, W2.cell? ⟨w.heap.size + 1 + 1, 1, none⟩ = some ov := ⟨_, hD.ev.cell 1⟩
    have ez := hD.ev.frozen 1
    have hD2 := hD.set 1 (.string id)
    refine wpAnyH_ready (rs := [13]) (by kernel_rfl) (by simp) ?_
    refine AllReadyH.cons rfl (fun K hK => ?_) AllReadyH.nil
    (try go_simp)
    refine hK.out _ _ ⟨hD2.cmd.cell 2, hD2.cmd.cell 4⟩ (fun hH9 => ?_)
    (try dsimp only [Act.put, List.setIfInBounds_toArray, List.set_cons_zero, List.set_cons_succ])
    refine wpAnyH_world (fun W => DoSt w W _ _) hD2 (fun W3 hD3 => ?_)
    clear hK K hH hH9 hD2 hD ex ez ov
    have hD := hD3
    have hH : W3.cell? ⟨w.heap.size, 2, none⟩ = some (.int .i64 cb) ∧ W3.cell? ⟨w.heap.size, 4, none⟩ = some (.int .i64 cv) := ⟨hD3.cmd.cell 2, hD3.cmd.cell 4⟩
    clear hD3
    refine tkx 14 rfl ?_
    obtain ⟨ov, ex⟩ : ∃ ov, W3.cell? ⟨w.heap.size + 1 + 1, 3, none⟩ = some ov := ⟨_, hD.ev.cell 3⟩
    have ez := hD.ev.frozen 3
    have hD2 := hD.set 3 (.string (⟨#[99, 104]⟩ ++ ds))
    refine wpAnyH_ready (rs := [15]) (by kernel_rfl) (by simp) ?_
    refine AllReadyH.cons rfl (fun K hK => ?_) AllReadyH.nil
    (try go_simp)
    refine hK.out _ _ ⟨hD2.cmd.cell 2, hD2.cmd.cell 4⟩ (fun hH9 => ?_)
    (try dsimp only [Act.put, List.setIfInBounds_toArray, List.set_cons_zero, List.set_cons_succ])
    refine wpAnyH_world (fun W => DoSt w W _ _) hD2 (fun W4 hD3 => ?_)
    clear hK K hH hH9 hD2 hD ex ez ov
    have hD := hD3
    have hH : W4.cell? ⟨w.heap.size, 2, none⟩ = some (.int .i64 cb) ∧ W4.cell? ⟨w.heap.size, 4, none⟩ = some (.int .i64 cv) := ⟨hD3.cmd.cell 2, hD3.cmd.cell 4⟩
    clear hD3
    refine tkx 16 rfl ?_
    obtain ⟨ov, ex⟩ : ∃ ov, W4.cell? ⟨w.heap.size + 1 + 1, 6, none⟩ = some ov := ⟨_, hD.ev.cell 6⟩
    have ez := hD.ev.frozen 6
    have hD2 := hD.set 6 (.int .i64 vm)
    refine wpAnyH_ready (rs := [17]) (by kernel_rfl) (by simp) ?_
    refine AllReadyH.cons rfl (fun K hK => ?_) AllReadyH.nil
    (try go_simp)
    refine hK.out _ _ ⟨hD2.cmd.cell 2, hD2.cmd.cell 4⟩ (fun hH9 => ?_)
    (try dsimp only [Act.put, List.setIfInBounds_toArray, List.set_cons_zero, List.set_cons_succ])
    refine wpAnyH_world (fun W => DoSt w W _ _) hD2 (fun W5 hD3 => ?_)
    clear hK K hH hH9 hD2 hD ex ez ov
    have hD := hD3
    have hH : W5.cell? ⟨w.heap.size, 2, none⟩ = some (.int .i64 cb) ∧ W5.cell? ⟨w.heap.size, 4, none⟩ = some (.int .i64 cv) := ⟨hD3.cmd.cell 2, hD3.cmd.cell 4⟩
    clear hD3
    refine wpAnyH_done (by kernel_rfl) ?_ _
    refine NoPanic.normal ?_
    go_wp2_with fail
    go_meet
    have hD4 := hD
    simp only [List.setIfInBounds_toArray, List.set_cons_zero, List.set_cons_succ] at hD4
    rw [HCS.out]
    exact hD4
  clear hD0 e0 e1 e2 e3 e4 e5 e6 e7 e8 e9 e10 ez p0 p1 p2 p3 p4 p5 p6 p7 HKC2 HKE2 HKR2 HB2 HS2 HW1 HW2 HDG
  have hD := hcut
  clear hcut
  rename World => WF
  have p2 := hD.cmd.cell 2
  rw [show (#[Value.int .i64 ck, .int .i64 ca, .int .i64 cb, .int .i64 cd, .int .i64 cv, .string cw, .slice A n cc, .slice A' n' cc'] : Array Value)[2]? = some (.int .i64 cb) from rfl] at p2
  have HD := Lib.hid hD
  clear hD
  by_cases hm : cb.tmod 3 = 0
  · go_upto_region 52 with fail
    have hD := HD.out
    have hRF := hD.res
    have hTF := TrAt.leaf (w.heap.size + 1 + 1) WF 0 ⟨#[]⟩ 0 0
    have HEF := Lib.hid hD.ev; have HRF := Lib.hid hRF; have HBF := Lib.hid hD.bel; have HTF := Lib.hid hTF; have HSF := Lib.hid hD.size
    clear hRF hTF hD
    obtain ⟨e0, e1, e2, e3, e4, e5, e6, e7, e8, e9, e10⟩ := HEF.out.eleven
    obtain ⟨r0, r1, r2, r3, r4, r5, r6, r7, r8, r9, r10⟩ := HRF.out.eleven
    have rz := fun j => HRF.out.frozen j
    go_wp2_with fail
    (try simp only [Exit.inBlock, Exit.then])
    refine bodyPost_ret (results_E rfl _ _ (w.heap.size + 1) _ _ _ _ _ _ _ _ _ _ _ _ rfl (HRF.out.set11 _ _ _ _ _ _ _ _ _ _ _)) rfl ?_
    exact do_post (ev := choX id lb vm) HBF.out HTF.out HSF.out ⟨choX_fit id lb vm hidl HLB.out HVM.out, rfl, rfl, rfl, rfl, rfl, rfl, rfl⟩
  · have hmb : (cb.tmod 3 == 0) = false := by simpa using hm
    go_upto_region 52 with fail
    have hD := HD.out
    have hRF := hD.res
    have hTF := TrAt.leaf (w.heap.size + 1 + 1) WF 0 ⟨#[]⟩ 0 0
    have HEF := Lib.hid hD.ev; have HRF := Lib.hid hRF; have HBF := Lib.hid hD.bel; have HTF := Lib.hid hTF; have HSF := Lib.hid hD.size
    clear hRF hTF hD
    obtain ⟨e0, e1, e2, e3, e4, e5, e6, e7, e8, e9, e10⟩ := HEF.out.eleven
    obtain ⟨r0, r1, r2, r3, r4, r5, r6, r7, r8, r9, r10⟩ := HRF.out.eleven
    have rz := fun j => HRF.out.frozen j
    go_wp2_with fail
    (try simp only [Exit.inBlock, Exit.then])
    refine bodyPost_ret (results_E rfl _ _ (w.heap.size + 1) _ _ _ _ _ _ _ _ _ _ _ _ rfl (HRF.out.set11 _ _ _ _ _ _ _ _ _ _ _)) rfl ?_
    exact do_post (ev := choX id lb vm) HBF.out HTF.out HSF.out ⟨choX_fit id lb vm hidl HLB.out HVM.out, rfl, rfl, rfl, rfl, rfl, rfl, rfl⟩
end Go.Proofs.YtapbkomicihkkaaGreatDoor
