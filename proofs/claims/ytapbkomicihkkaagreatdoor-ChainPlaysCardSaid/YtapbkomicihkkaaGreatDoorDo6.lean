/- A command's event: a payment. -/
import Derived.Test.YtapbkomicihkkaaGreatDoorDo1
namespace Go.Proofs.YtapbkomicihkkaaGreatDoor
open Go.RowKit
set_option linter.unusedVariables false
set_option linter.unusedSimpArgs false

def setX (cu : ByteArray) (d v : Int) : Ev := ⟨6, eS, eS, eS, cu, d, v, .odd .nilIface⟩
theorem setX_fit (cu : ByteArray) (d v : Int) (h : cu.size ≤ 14) (hd : IsInt64 d) (hv : IsInt64 v) : (setX cu d v).fit :=
  ⟨by show (0 : Int) ≤ 6 ∧ (6 : Int) ≤ 8; decide, by show eS.size ≤ 100; decide, by show eS.size ≤ 100; decide, by show eS.size ≤ 100; decide, by show cu.size ≤ 100; omega, hd, hv, .inl rfl⟩
def curs3 : Nat → ByteArray
  | 0 => ⟨#[117, 115, 100]⟩
  | 1 => ⟨#[101, 117, 114]⟩
  | _ => ⟨#[103, 98, 112]⟩
theorem curs3_size (j : Nat) : (curs3 j).size ≤ 14 := by unfold curs3; split <;> decide
theorem tabC {j : Nat} (hj : j < 3) (X : World) (n : Nat) (h : X.heap.size = n) : (X.alloc (.cells #[.string ⟨#[117, 115, 100]⟩, .string ⟨#[101, 117, 114]⟩, .string ⟨#[103, 98, 112]⟩] 9)).cell? ⟨n, j, none⟩ = some (.string (curs3 j)) := by
  subst h
  refine ((Blk.new X _ _).cell j).trans ?_
  match j, hj with
  | 0, _ => rfl
  | 1, _ => rfl
  | 2, _ => rfl
set_option maxRecDepth 100000 in
set_option maxHeartbeats 8000000 in
theorem do_f (w : World) (c : Cm) (vN vW : Value) (hc : c.ok) (hp : PlanAt w vN vW) (day : Int) (hday : 0 ≤ day ∧ day ≤ 1000000) (hk : 17 ≤ c.kind % 20 ∧ c.kind % 20 < 19) :
    Calls Tryz.prog 34 #[.pointer none, c.val vN vW, .int .i64 day] w (GivesEv w) := by
  unfold GivesEv
  unfold Cm.val
  obtain ⟨⟨A, n, cc, xs, rfl, hn⟩, ⟨A', n', cc', xs', rfl, hn'⟩⟩ := (show PlanAt w vN vW from hp)
  clear hn hn'
  obtain ⟨W1, hW1⟩ : ∃ W1, ((w.alloc (.cells #[.int .i64 c.kind, .int .i64 c.a, .int .i64 c.b, .int .i64 c.day, .int .i64 c.value, .string c.word, .slice A n cc, .slice A' n' cc'] 27)).alloc (.cells #[.int .i64 0, .string ⟨#[]⟩, .string ⟨#[]⟩, .string ⟨#[]⟩, .string ⟨#[]⟩, .int .i64 0, .int .i64 0, .int .i64 0, .string ⟨#[]⟩, .int .i64 0, .slice none 0 0] 35)).alloc (.cells #[.int .i64 0, .string ⟨#[]⟩, .string ⟨#[]⟩, .string ⟨#[]⟩, .string ⟨#[]⟩, .int .i64 0, .int .i64 0, .int .i64 0, .string ⟨#[]⟩, .int .i64 0, .slice none 0 0] 35) = W1 := ⟨_, rfl⟩
  have hb1 := bl_alloc (bl_alloc (bl_alloc (bl_refl w) (.cells #[.int .i64 c.kind, .int .i64 c.a, .int .i64 c.b, .int .i64 c.day, .int .i64 c.value, .string c.word, .slice A n cc, .slice A' n' cc'] 27)) (.cells #[.int .i64 0, .string ⟨#[]⟩, .string ⟨#[]⟩, .string ⟨#[]⟩, .string ⟨#[]⟩, .int .i64 0, .int .i64 0, .int .i64 0, .string ⟨#[]⟩, .int .i64 0, .slice none 0 0] 35)) (.cells #[.int .i64 0, .string ⟨#[]⟩, .string ⟨#[]⟩, .string ⟨#[]⟩, .string ⟨#[]⟩, .int .i64 0, .int .i64 0, .int .i64 0, .string ⟨#[]⟩, .int .i64 0, .slice none 0 0] 35)
  obtain ⟨hkC, hkR, hkE, hs1⟩ := do_blocks w #[.int .i64 c.kind, .int .i64 c.a, .int .i64 c.b, .int .i64 c.day, .int .i64 c.value, .string c.word, .slice A n cc, .slice A' n' cc'] 27 #[.int .i64 0, .string ⟨#[]⟩, .string ⟨#[]⟩, .string ⟨#[]⟩, .string ⟨#[]⟩, .int .i64 0, .int .i64 0, .int .i64 0, .string ⟨#[]⟩, .int .i64 0, .slice none 0 0] 35
  rw [hW1] at hb1 hkC hkR hkE hs1
  have hnm := kname_calls c.a hc.a
  have hwi := fun W => within_calls c.kind 20 W (by have := hc.kind; unfold IsInt64 at this; omega) (by omega)
  have htx := fun W => text_calls c.word 14 hc.word (by omega) W
  have hts : (c.word.extract 0 (min c.word.size 14)).size ≤ 14 := by simp; omega
  have hns := nameS_size (c.a % 5).toNat
  obtain ⟨hi1, hi2, hi3, hi4, hi5, hi6⟩ := hc
  unfold IsInt64 at hi1 hi2 hi3 hi4 hi5
  generalize c.word.extract 0 (min c.word.size 14) = wd at *
  generalize nameS (c.a % 5).toNat = nm at *
  generalize c.kind % 20 = kk at *
  generalize c.kind = ck at *
  generalize c.a = ca at *
  generalize c.b = cb at *
  generalize c.day = cd at *
  generalize c.value = cv at *
  generalize c.word = cw at *
  have HW1 := Lib.hid hW1; have HP := Lib.hid hp; have HNM := Lib.hid hnm; have HWI := Lib.hid hwi; have HTX := Lib.hid htx; have HKC := Lib.hid hkC; have HKE := Lib.hid hkE; have HKR := Lib.hid hkR; have HB1 := Lib.hid hb1; have HS1 := Lib.hid hs1
  clear hW1 hp hnm hwi htx hkC hkR hkE hb1 hs1
  obtain ⟨p0, p1, p2, p3, p4, p5, p6, p7⟩ := HKC.out.eight
  go_enter Tryz.func34, Tryz.ntmps34
  go_upto_region 2 with fail
  rw [HW1.out]
  go_wp2_with fail
  refine (HNM.out _).mono ?_
  rintro e w2 ⟨rfl, hb2⟩
  have HB2 := Lib.hid (bl_step hb2 HB1.out)
  have HKC2 := Lib.hid (HKC.out.below hb2); have HKE2 := Lib.hid (HKE.out.below hb2); have HKR2 := Lib.hid (HKR.out.below hb2)
  have HS2 := Lib.hid (show w.heap.size + 1 + 1 < w2.heap.size by have := hb2.size; have := HS1.out; omega)
  replace p0 := cell_below hb2 p0
  replace p1 := cell_below hb2 p1
  replace p2 := cell_below hb2 p2
  replace p3 := cell_below hb2 p3
  replace p4 := cell_below hb2 p4
  replace p5 := cell_below hb2 p5
  replace p6 := cell_below hb2 p6
  replace p7 := cell_below hb2 p7
  clear hb2 HB1 HKC HKE HKR HW1 HS1 HNM
  clear W1
  go_upto_if 28 with fail
  go_cut [8] (fun v wx => ∃ id : ByteArray, id.size ≤ 14 ∧ v = .string id ∧ wx = w2)
  case first =>
    by_cases hm : ca.tmod 19 = 18
    · go_wp2_with fail
      refine (HTX.out _).mono ?_
      rintro e w3 ⟨rfl, rfl⟩
      go_wp2_with fail
      go_meet
      exact ⟨wd, hts, rfl, rfl⟩
    · have hmb : (ca.tmod 19 == 18) = false := by simpa using hm
      go_wp2_with fail
      go_meet
      exact ⟨nm, by omega, rfl, rfl⟩
  obtain ⟨id, hidl, rfl, rfl⟩ := hcut
  clear hts hns HTX
  obtain ⟨e0, e1, e2, e3, e4, e5, e6, e7, e8, e9, e10⟩ := HKE2.out.eleven
  have ez := fun j => HKE2.out.frozen j
  go_wp2_with fail
  refine (HWI.out _).mono ?_
  rintro e w3 ⟨rfl, rfl⟩
  clear HWI
  obtain ⟨hk1, hk2⟩ := hk
  have hk0 : (kk == 0) = false := by simp; omega
  have hw1 := fun W => within_calls ca 3 W (by omega) (by omega)
  have hw2 := fun W => within_calls cd (day + 2) W (by omega) (by omega)
  have hd0 := Int.emod_nonneg cd (show day + 2 ≠ 0 by omega)
  have hd1 := Int.emod_lt_of_pos cd (show 0 < day + 2 by omega)
  obtain ⟨j, hj⟩ : ∃ j : Nat, ca % 3 = (j : Int) := ⟨(ca % 3).toNat, by omega⟩
  have hj3 : j < 3 := by omega
  rw [hj] at hw1
  generalize cd % (day + 2) = dm at *
  have hwr1 : IntKind.i64.wrap (day + 2) = day + 2 := IntWalk.i64_in _ (by omega)
  have HW1 := Lib.hid hw1; have HW2 := Lib.hid hw2
  clear hw1 hw2 hj
  have hD0 : DoSt w w3 #[.int .i64 ck, .int .i64 ca, .int .i64 cb, .int .i64 cd, .int .i64 cv, .string cw, .slice A n cc, .slice A' n' cc'] #[.int .i64 0, .string ⟨#[]⟩, .string ⟨#[]⟩, .string ⟨#[]⟩, .string ⟨#[]⟩, .int .i64 0, .int .i64 0, .int .i64 0, .string ⟨#[]⟩, .int .i64 0, .slice none 0 0] := ⟨HKC2.out, HKE2.out, HKR2.out, HB2.out, HS2.out⟩
  go_upto_region 41 with fail
  go_cut [] (fun wx => DoSt w wx #[.int .i64 ck, .int .i64 ca, .int .i64 cb, .int .i64 cd, .int .i64 cv, .string cw, .slice A n cc, .slice A' n' cc'] #[.int .i64 6, .string ⟨#[]⟩, .string ⟨#[]⟩, .string ⟨#[]⟩, .string (curs3 j), .int .i64 dm, .int .i64 0, .int .i64 0, .string ⟨#[]⟩, .int .i64 0, .slice none 0 0])
  case first =>
    have hj0I : (0 : Int) ≤ (j : Int) := by omega
    have hj1I : (j : Int) < 3 := by omega
    clear e0 e1 e2 e3 e4 e5 e6 e7 e8 e9 e10 ez
    refine wp_region_noPanic ?_
    refine wp_region_held_drew (S := fun w' => w'.cell? ⟨w.heap.size, 1, none⟩ = some (.int .i64 ca) ∧ w'.cell? ⟨w.heap.size, 3, none⟩ = some (.int .i64 cd)) (by kernel_rfl) ⟨p1, p3⟩ (fun hH => ?_)
    have hD2 := hD0.drew
    clear p0 p1 p2 p3 p4 p5 p6 p7 HKC2 HKE2 HKR2 HB2 HS2
    refine wpAnyH_world (fun W => DoSt w W _ _) hD2 (fun W1 hD => ?_)
    clear hH hD2 hD0
    clear w3
    have hH : W1.cell? ⟨w.heap.size, 1, none⟩ = some (.int .i64 ca) ∧ W1.cell? ⟨w.heap.size, 3, none⟩ = some (.int .i64 cd) := (And.intro (hD.cmd.cell 1) (hD.cmd.cell 3))
    refine tkx 0 rfl ?_
    refine tkx 1 rfl ?_
    refine tkx 2 rfl ?_
    refine tkx 3 rfl ?_
    refine tkx 6 rfl ?_
    refine tkx 7 rfl ?_
    refine tkx 11 rfl ?_
    revert hH hD
    apply join2 (fun q W => DoSt w W #[.int .i64 ck, .int .i64 ca, .int .i64 cb, .int .i64 cd, .int .i64 cv, .string cw, .slice A n cc, .slice A' n' cc'] #[.int .i64 0, .string ⟨#[]⟩, .string ⟨#[]⟩, .string ⟨#[]⟩, .string ⟨#[]⟩, .int .i64 0, .int .i64 0, .int .i64 0, .string ⟨#[]⟩, .int .i64 0, .slice none 0 0] ∧ W.cell? ⟨q, j, none⟩ = some (.string (curs3 j)) ∧ w.heap.size + 1 + 1 < q)
    case main =>
      intro key2
      apply join2 (fun q W => DoSt w W #[.int .i64 ck, .int .i64 ca, .int .i64 cb, .int .i64 cd, .int .i64 cv, .string cw, .slice A n cc, .slice A' n' cc'] #[.int .i64 0, .string ⟨#[]⟩, .string ⟨#[]⟩, .string ⟨#[]⟩, .string ⟨#[]⟩, .int .i64 0, .int .i64 0, .int .i64 0, .string ⟨#[]⟩, .int .i64 0, .slice none 0 0] ∧ W.cell? ⟨q, j, none⟩ = some (.string (curs3 j)) ∧ w.heap.size + 1 + 1 < q)
      case main =>
        intro key1
        intro hD hH
        refine wpAnyH_ready (rs := [4, 5]) (by kernel_rfl) (by simp) ?_
        refine AllReadyH.cons rfl (fun K hK => ?_) (AllReadyH.cons rfl (fun K hK => ?_) AllReadyH.nil)
        · skip
          (try go_simp)
          (with_reducible refine (HW2.out _).mono ?_)
          rintro e wq ⟨rfl, rfl⟩
          (try go_simp)
          refine hK.out _ _ hH (fun hH9 => ?_)
          clear hK K hH9
          (try dsimp only [Act.put, List.setIfInBounds_toArray, List.set_cons_zero, List.set_cons_succ])
          refine wpAnyH_ready (rs := [5, 8]) (by kernel_rfl) (by simp) ?_
          refine AllReadyH.cons rfl (fun K hK => ?_) (AllReadyH.cons rfl (fun K hK => ?_) AllReadyH.nil)
          · (try go_simp)
            refine hK.out _ _ (And.intro ((hD.alloc _).cmd.cell 1) ((hD.alloc _).cmd.cell 3)) (fun hH9 => ?_)
            clear hK K hH9
            (try dsimp only [Act.put, List.setIfInBounds_toArray, List.set_cons_zero, List.set_cons_succ])
            obtain ⟨q, hq⟩ : ∃ q, wq.heap.size = q := ⟨_, rfl⟩
            have hqs := hD.size
            rw [hq] at hqs ⊢
            refine wpAnyH_more (S' := fun w' => (w'.cell? ⟨w.heap.size, 1, none⟩ = some (.int .i64 ca) ∧ w'.cell? ⟨w.heap.size, 3, none⟩ = some (.int .i64 cd)) ∧ w'.cell? ⟨q, j, none⟩ = some (.string (curs3 j))) (fun _ h => h.1) _ _ _ _ ?_
            refine wpAnyH_world (fun X => DoSt w X _ _ ∧ X.cell? ⟨q, j, none⟩ = some (.string (curs3 j))) (And.intro (hD.alloc _) (tabC hj3 wq q hq)) (fun WA hD3 => ?_)
            clear hH hD hq
            obtain ⟨hD, hTb⟩ := hD3
            have hH : (WA.cell? ⟨w.heap.size, 1, none⟩ = some (.int .i64 ca) ∧ WA.cell? ⟨w.heap.size, 3, none⟩ = some (.int .i64 cd)) ∧ WA.cell? ⟨q, j, none⟩ = some (.string (curs3 j)) := And.intro (And.intro (hD.cmd.cell 1) (hD.cmd.cell 3)) hTb
            exact key1 q WA ⟨hD, hTb, hqs⟩
          · skip
            (try go_simp)
            (with_reducible refine (HW1.out _).mono ?_)
            rintro e wq ⟨rfl, rfl⟩
            (try go_simp)
            refine hK.out _ _ hH (fun hH9 => ?_)
            clear hK K hH9
            (try dsimp only [Act.put, List.setIfInBounds_toArray, List.set_cons_zero, List.set_cons_succ])
            obtain ⟨ov, ex⟩ : ∃ ov, wq.cell? ⟨w.heap.size + 1 + 1, 0, none⟩ = some ov := ⟨_, hD.ev.cell 0⟩
            have ez := hD.ev.frozen 0
            refine wpAnyH_ready (rs := [5, 12]) (by kernel_rfl) (by simp) ?_
            refine AllReadyH.cons rfl (fun K hK => ?_) (AllReadyH.cons rfl (fun K hK => ?_) AllReadyH.nil)
            · (try go_simp)
              clear ex ez
              refine hK.out _ _ (And.intro ((hD.alloc _).cmd.cell 1) ((hD.alloc _).cmd.cell 3)) (fun hH9 => ?_)
              clear hK K hH9
              (try dsimp only [Act.put, List.setIfInBounds_toArray, List.set_cons_zero, List.set_cons_succ])
              obtain ⟨q, hq⟩ : ∃ q, wq.heap.size = q := ⟨_, rfl⟩
              have hqs := hD.size
              rw [hq] at hqs ⊢
              refine wpAnyH_more (S' := fun w' => (w'.cell? ⟨w.heap.size, 1, none⟩ = some (.int .i64 ca) ∧ w'.cell? ⟨w.heap.size, 3, none⟩ = some (.int .i64 cd)) ∧ w'.cell? ⟨q, j, none⟩ = some (.string (curs3 j))) (fun _ h => h.1) _ _ _ _ ?_
              refine wpAnyH_world (fun X => DoSt w X _ _ ∧ X.cell? ⟨q, j, none⟩ = some (.string (curs3 j))) (And.intro (hD.alloc _) (tabC hj3 wq q hq)) (fun WA hD3 => ?_)
              clear hH hD hq
              obtain ⟨hD, hTb⟩ := hD3
              have hH : (WA.cell? ⟨w.heap.size, 1, none⟩ = some (.int .i64 ca) ∧ WA.cell? ⟨w.heap.size, 3, none⟩ = some (.int .i64 cd)) ∧ WA.cell? ⟨q, j, none⟩ = some (.string (curs3 j)) := And.intro (And.intro (hD.cmd.cell 1) (hD.cmd.cell 3)) hTb
              exact key2 q WA ⟨hD, hTb, hqs⟩
            · (try go_simp)
              clear key1 key2
              have hD2 := hD.set 0 (.int .i64 6)
              refine hK.out _ _ (And.intro (hD2.cmd.cell 1) (hD2.cmd.cell 3)) (fun hH9 => ?_)
              (try simp only [Act.put, List.setIfInBounds_toArray, List.set_cons_zero, List.set_cons_succ])
              refine wpAnyH_world (fun W => DoSt w W _ _) hD2 (fun W2 hD3 => ?_)
              clear hK K hH hH9 hD2 hD ex ez
              have hD := hD3
              have hH : W2.cell? ⟨w.heap.size, 1, none⟩ = some (.int .i64 ca) ∧ W2.cell? ⟨w.heap.size, 3, none⟩ = some (.int .i64 cd) := (And.intro (hD3.cmd.cell 1) (hD3.cmd.cell 3))
              clear hD3
              refine tkx 13 rfl ?_
              obtain ⟨ov2, ex⟩ : ∃ ov, W2.cell? ⟨w.heap.size + 1 + 1, 5, none⟩ = some ov := ⟨_, hD.ev.cell 5⟩
              have ez := hD.ev.frozen 5
              refine wpAnyH_ready (rs := [5, 14]) (by kernel_rfl) (by simp) ?_
              refine AllReadyH.cons rfl (fun K hK => ?_) (AllReadyH.cons rfl (fun K hK => ?_) AllReadyH.nil)
              · (try go_simp)
                clear ex ez
                refine hK.out _ _ (And.intro ((hD.alloc _).cmd.cell 1) ((hD.alloc _).cmd.cell 3)) (fun hH9 => ?_)
                clear hK K hH9
                (try dsimp only [Act.put, List.setIfInBounds_toArray, List.set_cons_zero, List.set_cons_succ])
                obtain ⟨q, hq⟩ : ∃ q, W2.heap.size = q := ⟨_, rfl⟩
                have hqs := hD.size
                rw [hq] at hqs ⊢
                refine wpAnyH_more (S' := fun w' => (w'.cell? ⟨w.heap.size, 1, none⟩ = some (.int .i64 ca) ∧ w'.cell? ⟨w.heap.size, 3, none⟩ = some (.int .i64 cd)) ∧ w'.cell? ⟨q, j, none⟩ = some (.string (curs3 j))) (fun _ h => h.1) _ _ _ _ ?_
                refine wpAnyH_world (fun X => DoSt w X _ _ ∧ X.cell? ⟨q, j, none⟩ = some (.string (curs3 j))) (And.intro (hD.alloc _) (tabC hj3 W2 q hq)) (fun WA hD3 => ?_)
                clear hH hD hq
                obtain ⟨hD, hTb⟩ := hD3
                have hH : (WA.cell? ⟨w.heap.size, 1, none⟩ = some (.int .i64 ca) ∧ WA.cell? ⟨w.heap.size, 3, none⟩ = some (.int .i64 cd)) ∧ WA.cell? ⟨q, j, none⟩ = some (.string (curs3 j)) := And.intro (And.intro (hD.cmd.cell 1) (hD.cmd.cell 3)) hTb
                refine tkx 9 rfl ?_
                refine tkx 10 rfl ?_
                obtain ⟨ov, ex⟩ : ∃ ov, WA.cell? ⟨w.heap.size + 1 + 1, 5, none⟩ = some ov := ⟨_, hD.ev.cell 5⟩
                have ez := hD.ev.frozen 5
                have hD2 := hD.set 5 (.int .i64 dm)
                have hTb2 := gb_cell (gb_set (w := WA) (g := w.heap.size + 1 + 1) 5 (.int .i64 dm)) (by omega) hTb
                refine wpAnyH_ready (rs := [14]) (by kernel_rfl) (by simp) ?_
                refine AllReadyH.cons rfl (fun K hK => ?_) AllReadyH.nil
                (try go_simp)
                refine hK.out _ _ (And.intro (And.intro (hD2.cmd.cell 1) (hD2.cmd.cell 3)) hTb2) (fun hH9 => ?_)
                (try dsimp only [Act.put, List.setIfInBounds_toArray, List.set_cons_zero, List.set_cons_succ])
                refine wpAnyH_world (fun W => DoSt w W _ _ ∧ W.cell? ⟨q, j, none⟩ = some (.string (curs3 j))) (And.intro hD2 hTb2) (fun W3 hD3 => ?_)
                clear hK K hH hH9 hD2 hTb2 hD hTb ex ez ov
                obtain ⟨hD, hTb⟩ := hD3
                have hH : (W3.cell? ⟨w.heap.size, 1, none⟩ = some (.int .i64 ca) ∧ W3.cell? ⟨w.heap.size, 3, none⟩ = some (.int .i64 cd)) ∧ W3.cell? ⟨q, j, none⟩ = some (.string (curs3 j)) := And.intro (And.intro (hD.cmd.cell 1) (hD.cmd.cell 3)) hTb
                refine tkx 15 rfl ?_
                obtain ⟨ov, ex⟩ : ∃ ov, W3.cell? ⟨w.heap.size + 1 + 1, 4, none⟩ = some ov := ⟨_, hD.ev.cell 4⟩
                have ez := hD.ev.frozen 4
                have hD2 := hD.set 4 (.string (curs3 j))
                have hTb2 := gb_cell (gb_set (w := W3) (g := w.heap.size + 1 + 1) 4 (.string (curs3 j))) (by omega) hTb
                refine wpAnyH_ready (rs := [16]) (by kernel_rfl) (by simp) ?_
                refine AllReadyH.cons rfl (fun K hK => ?_) AllReadyH.nil
                (try go_simp)
                refine hK.out _ _ (And.intro (And.intro (hD2.cmd.cell 1) (hD2.cmd.cell 3)) hTb2) (fun hH9 => ?_)
                (try dsimp only [Act.put, List.setIfInBounds_toArray, List.set_cons_zero, List.set_cons_succ])
                refine wpAnyH_world (fun W => DoSt w W _ _ ∧ W.cell? ⟨q, j, none⟩ = some (.string (curs3 j))) (And.intro hD2 hTb2) (fun W5 hD3 => ?_)
                clear hK K hH hH9 hD2 hTb2 hD hTb ex ez ov
                obtain ⟨hD, hTb⟩ := hD3
                have hH : (W5.cell? ⟨w.heap.size, 1, none⟩ = some (.int .i64 ca) ∧ W5.cell? ⟨w.heap.size, 3, none⟩ = some (.int .i64 cd)) ∧ W5.cell? ⟨q, j, none⟩ = some (.string (curs3 j)) := And.intro (And.intro (hD.cmd.cell 1) (hD.cmd.cell 3)) hTb
                refine wpAnyH_done (by kernel_rfl) ?_ _
                refine NoPanic.normal ?_
                go_wp2_with fail
                go_meet
                have hD4 := hD
                simp only [List.setIfInBounds_toArray, List.set_cons_zero, List.set_cons_succ] at hD4
                exact hD4
              · (try go_simp)
                have hD2 := hD.set 5 (.int .i64 dm)
                refine hK.out _ _ (And.intro (hD2.cmd.cell 1) (hD2.cmd.cell 3)) (fun hH9 => ?_)
                (try simp only [Act.put, List.setIfInBounds_toArray, List.set_cons_zero, List.set_cons_succ])
                refine wpAnyH_world (fun W => DoSt w W _ _) hD2 (fun W3 hD3 => ?_)
                clear hK K hH hH9 hD2 hD ex ez
                have hD := hD3
                have hH : W3.cell? ⟨w.heap.size, 1, none⟩ = some (.int .i64 ca) ∧ W3.cell? ⟨w.heap.size, 3, none⟩ = some (.int .i64 cd) := (And.intro (hD3.cmd.cell 1) (hD3.cmd.cell 3))
                clear hD3
                refine wpAnyH_ready (rs := [5]) (by kernel_rfl) (by simp) ?_
                refine AllReadyH.cons rfl (fun K hK => ?_) AllReadyH.nil
                (try go_simp)
                refine hK.out _ _ (And.intro ((hD.alloc _).cmd.cell 1) ((hD.alloc _).cmd.cell 3)) (fun hH9 => ?_)
                clear hK K hH9
                (try dsimp only [Act.put, List.setIfInBounds_toArray, List.set_cons_zero, List.set_cons_succ])
                obtain ⟨q, hq⟩ : ∃ q, W3.heap.size = q := ⟨_, rfl⟩
                have hqs := hD.size
                rw [hq] at hqs ⊢
                refine wpAnyH_more (S' := fun w' => (w'.cell? ⟨w.heap.size, 1, none⟩ = some (.int .i64 ca) ∧ w'.cell? ⟨w.heap.size, 3, none⟩ = some (.int .i64 cd)) ∧ w'.cell? ⟨q, j, none⟩ = some (.string (curs3 j))) (fun _ h => h.1) _ _ _ _ ?_
                refine wpAnyH_world (fun X => DoSt w X _ _ ∧ X.cell? ⟨q, j, none⟩ = some (.string (curs3 j))) (And.intro (hD.alloc _) (tabC hj3 W3 q hq)) (fun WA hD3 => ?_)
                clear hH hD hq
                obtain ⟨hD, hTb⟩ := hD3
                have hH : (WA.cell? ⟨w.heap.size, 1, none⟩ = some (.int .i64 ca) ∧ WA.cell? ⟨w.heap.size, 3, none⟩ = some (.int .i64 cd)) ∧ WA.cell? ⟨q, j, none⟩ = some (.string (curs3 j)) := And.intro (And.intro (hD.cmd.cell 1) (hD.cmd.cell 3)) hTb
                refine tkx 9 rfl ?_
                refine tkx 10 rfl ?_
                refine tkx 15 rfl ?_
                obtain ⟨ov, ex⟩ : ∃ ov, WA.cell? ⟨w.heap.size + 1 + 1, 4, none⟩ = some ov := ⟨_, hD.ev.cell 4⟩
                have ez := hD.ev.frozen 4
                have hD2 := hD.set 4 (.string (curs3 j))
                have hTb2 := gb_cell (gb_set (w := WA) (g := w.heap.size + 1 + 1) 4 (.string (curs3 j))) (by omega) hTb
                refine wpAnyH_ready (rs := [16]) (by kernel_rfl) (by simp) ?_
                refine AllReadyH.cons rfl (fun K hK => ?_) AllReadyH.nil
                (try go_simp)
                refine hK.out _ _ (And.intro (And.intro (hD2.cmd.cell 1) (hD2.cmd.cell 3)) hTb2) (fun hH9 => ?_)
                (try dsimp only [Act.put, List.setIfInBounds_toArray, List.set_cons_zero, List.set_cons_succ])
                refine wpAnyH_world (fun W => DoSt w W _ _ ∧ W.cell? ⟨q, j, none⟩ = some (.string (curs3 j))) (And.intro hD2 hTb2) (fun W5 hD3 => ?_)
                clear hK K hH hH9 hD2 hTb2 hD hTb ex ez ov
                obtain ⟨hD, hTb⟩ := hD3
                have hH : (W5.cell? ⟨w.heap.size, 1, none⟩ = some (.int .i64 ca) ∧ W5.cell? ⟨w.heap.size, 3, none⟩ = some (.int .i64 cd)) ∧ W5.cell? ⟨q, j, none⟩ = some (.string (curs3 j)) := And.intro (And.intro (hD.cmd.cell 1) (hD.cmd.cell 3)) hTb
                refine wpAnyH_done (by kernel_rfl) ?_ _
                refine NoPanic.normal ?_
                go_wp2_with fail
                go_meet
                have hD4 := hD
                simp only [List.setIfInBounds_toArray, List.set_cons_zero, List.set_cons_succ] at hD4
                exact hD4
        · (try go_simp)
          refine hK.out _ _ (And.intro ((hD.alloc _).cmd.cell 1) ((hD.alloc _).cmd.cell 3)) (fun hH9 => ?_)
          clear hK K hH9
          (try dsimp only [Act.put, List.setIfInBounds_toArray, List.set_cons_zero, List.set_cons_succ])
          obtain ⟨q, hq⟩ : ∃ q, W1.heap.size = q := ⟨_, rfl⟩
          have hqs := hD.size
          rw [hq] at hqs ⊢
          refine wpAnyH_more (S' := fun w' => (w'.cell? ⟨w.heap.size, 1, none⟩ = some (.int .i64 ca) ∧ w'.cell? ⟨w.heap.size, 3, none⟩ = some (.int .i64 cd)) ∧ w'.cell? ⟨q, j, none⟩ = some (.string (curs3 j))) (fun _ h => h.1) _ _ _ _ ?_
          refine wpAnyH_world (fun X => DoSt w X _ _ ∧ X.cell? ⟨q, j, none⟩ = some (.string (curs3 j))) (And.intro (hD.alloc _) (tabC hj3 W1 q hq)) (fun WA hD3 => ?_)
          clear hH hD hq
          obtain ⟨hD, hTb⟩ := hD3
          have hH : (WA.cell? ⟨w.heap.size, 1, none⟩ = some (.int .i64 ca) ∧ WA.cell? ⟨w.heap.size, 3, none⟩ = some (.int .i64 cd)) ∧ WA.cell? ⟨q, j, none⟩ = some (.string (curs3 j)) := And.intro (And.intro (hD.cmd.cell 1) (hD.cmd.cell 3)) hTb
          refine wpAnyH_ready (rs := [4]) (by kernel_rfl) (by simp) ?_
          refine AllReadyH.cons rfl (fun K hK => ?_) AllReadyH.nil
          (try go_simp)
          (with_reducible refine (HW2.out _).mono ?_)
          rintro e wq ⟨rfl, rfl⟩
          (try go_simp)
          refine hK.out _ _ hH (fun hH9 => ?_)
          clear hK K hH9
          (try dsimp only [Act.put, List.setIfInBounds_toArray, List.set_cons_zero, List.set_cons_succ])
          exact key1 q wq ⟨hD, hTb, hqs⟩
      case kp =>
        intro q WA hT
        obtain ⟨hD, hTb, hqs⟩ := hT
        have hH : (WA.cell? ⟨w.heap.size, 1, none⟩ = some (.int .i64 ca) ∧ WA.cell? ⟨w.heap.size, 3, none⟩ = some (.int .i64 cd)) ∧ WA.cell? ⟨q, j, none⟩ = some (.string (curs3 j)) := And.intro (And.intro (hD.cmd.cell 1) (hD.cmd.cell 3)) hTb
        refine wpAnyH_ready (rs := [8]) (by kernel_rfl) (by simp) ?_
        refine AllReadyH.cons rfl (fun K hK => ?_) AllReadyH.nil
        (try go_simp)
        (with_reducible refine (HW1.out _).mono ?_)
        rintro e wq ⟨rfl, rfl⟩
        (try go_simp)
        refine hK.out _ _ hH (fun hH9 => ?_)
        clear hK K hH9
        (try dsimp only [Act.put, List.setIfInBounds_toArray, List.set_cons_zero, List.set_cons_succ])
        exact key2 q wq ⟨hD, hTb, hqs⟩
    case kp =>
      intro q WA hT
      obtain ⟨hD, hTb, hqs⟩ := hT
      have hH : (WA.cell? ⟨w.heap.size, 1, none⟩ = some (.int .i64 ca) ∧ WA.cell? ⟨w.heap.size, 3, none⟩ = some (.int .i64 cd)) ∧ WA.cell? ⟨q, j, none⟩ = some (.string (curs3 j)) := And.intro (And.intro (hD.cmd.cell 1) (hD.cmd.cell 3)) hTb
      refine tkx 9 rfl ?_
      refine tkx 10 rfl ?_
      obtain ⟨ov, ex⟩ : ∃ ov, WA.cell? ⟨w.heap.size + 1 + 1, 0, none⟩ = some ov := ⟨_, hD.ev.cell 0⟩
      have ez := hD.ev.frozen 0
      have hD2 := hD.set 0 (.int .i64 6)
      have hTb2 := gb_cell (gb_set (w := WA) (g := w.heap.size + 1 + 1) 0 (.int .i64 6)) (by omega) hTb
      refine wpAnyH_ready (rs := [12]) (by kernel_rfl) (by simp) ?_
      refine AllReadyH.cons rfl (fun K hK => ?_) AllReadyH.nil
      (try go_simp)
      refine hK.out _ _ (And.intro (And.intro (hD2.cmd.cell 1) (hD2.cmd.cell 3)) hTb2) (fun hH9 => ?_)
      (try dsimp only [Act.put, List.setIfInBounds_toArray, List.set_cons_zero, List.set_cons_succ])
      refine wpAnyH_world (fun W => DoSt w W _ _ ∧ W.cell? ⟨q, j, none⟩ = some (.string (curs3 j))) (And.intro hD2 hTb2) (fun W2 hD3 => ?_)
      clear hK K hH hH9 hD2 hTb2 hD hTb ex ez ov
      obtain ⟨hD, hTb⟩ := hD3
      have hH : (W2.cell? ⟨w.heap.size, 1, none⟩ = some (.int .i64 ca) ∧ W2.cell? ⟨w.heap.size, 3, none⟩ = some (.int .i64 cd)) ∧ W2.cell? ⟨q, j, none⟩ = some (.string (curs3 j)) := And.intro (And.intro (hD.cmd.cell 1) (hD.cmd.cell 3)) hTb
      refine tkx 13 rfl ?_
      obtain ⟨ov, ex⟩ : ∃ ov, W2.cell? ⟨w.heap.size + 1 + 1, 5, none⟩ = some ov := ⟨_, hD.ev.cell 5⟩
      have ez := hD.ev.frozen 5
      have hD2 := hD.set 5 (.int .i64 dm)
      have hTb2 := gb_cell (gb_set (w := W2) (g := w.heap.size + 1 + 1) 5 (.int .i64 dm)) (by omega) hTb
      refine wpAnyH_ready (rs := [14]) (by kernel_rfl) (by simp) ?_
      refine AllReadyH.cons rfl (fun K hK => ?_) AllReadyH.nil
      (try go_simp)
      refine hK.out _ _ (And.intro (And.intro (hD2.cmd.cell 1) (hD2.cmd.cell 3)) hTb2) (fun hH9 => ?_)
      (try dsimp only [Act.put, List.setIfInBounds_toArray, List.set_cons_zero, List.set_cons_succ])
      refine wpAnyH_world (fun W => DoSt w W _ _ ∧ W.cell? ⟨q, j, none⟩ = some (.string (curs3 j))) (And.intro hD2 hTb2) (fun W3 hD3 => ?_)
      clear hK K hH hH9 hD2 hTb2 hD hTb ex ez ov
      obtain ⟨hD, hTb⟩ := hD3
      have hH : (W3.cell? ⟨w.heap.size, 1, none⟩ = some (.int .i64 ca) ∧ W3.cell? ⟨w.heap.size, 3, none⟩ = some (.int .i64 cd)) ∧ W3.cell? ⟨q, j, none⟩ = some (.string (curs3 j)) := And.intro (And.intro (hD.cmd.cell 1) (hD.cmd.cell 3)) hTb
      refine tkx 15 rfl ?_
      obtain ⟨ov, ex⟩ : ∃ ov, W3.cell? ⟨w.heap.size + 1 + 1, 4, none⟩ = some ov := ⟨_, hD.ev.cell 4⟩
      have ez := hD.ev.frozen 4
      have hD2 := hD.set 4 (.string (curs3 j))
      have hTb2 := gb_cell (gb_set (w := W3) (g := w.heap.size + 1 + 1) 4 (.string (curs3 j))) (by omega) hTb
      refine wpAnyH_ready (rs := [16]) (by kernel_rfl) (by simp) ?_
      refine AllReadyH.cons rfl (fun K hK => ?_) AllReadyH.nil
      (try go_simp)
      refine hK.out _ _ (And.intro (And.intro (hD2.cmd.cell 1) (hD2.cmd.cell 3)) hTb2) (fun hH9 => ?_)
      (try dsimp only [Act.put, List.setIfInBounds_toArray, List.set_cons_zero, List.set_cons_succ])
      refine wpAnyH_world (fun W => DoSt w W _ _ ∧ W.cell? ⟨q, j, none⟩ = some (.string (curs3 j))) (And.intro hD2 hTb2) (fun W5 hD3 => ?_)
      clear hK K hH hH9 hD2 hTb2 hD hTb ex ez ov
      obtain ⟨hD, hTb⟩ := hD3
      have hH : (W5.cell? ⟨w.heap.size, 1, none⟩ = some (.int .i64 ca) ∧ W5.cell? ⟨w.heap.size, 3, none⟩ = some (.int .i64 cd)) ∧ W5.cell? ⟨q, j, none⟩ = some (.string (curs3 j)) := And.intro (And.intro (hD.cmd.cell 1) (hD.cmd.cell 3)) hTb
      refine wpAnyH_done (by kernel_rfl) ?_ _
      refine NoPanic.normal ?_
      go_wp2_with fail
      go_meet
      have hD4 := hD
      simp only [List.setIfInBounds_toArray, List.set_cons_zero, List.set_cons_succ] at hD4
      exact hD4
  clear hD0 e0 e1 e2 e3 e4 e5 e6 e7 e8 e9 e10 ez p0 p1 p2 p3 p4 p5 p6 p7 HKC2 HKE2 HKR2 HB2 HS2 HW1 HW2
  have hD := hcut
  clear hcut
  rename World => WF
  have p2 := hD.cmd.cell 2
  rw [show (#[Value.int .i64 ck, .int .i64 ca, .int .i64 cb, .int .i64 cd, .int .i64 cv, .string cw, .slice A n cc, .slice A' n' cc'] : Array Value)[2]? = some (.int .i64 cb) from rfl] at p2
  have p4 := hD.cmd.cell 4
  rw [show (#[Value.int .i64 ck, .int .i64 ca, .int .i64 cb, .int .i64 cd, .int .i64 cv, .string cw, .slice A n cc, .slice A' n' cc'] : Array Value)[4]? = some (.int .i64 cv) from rfl] at p4
  have HD := Lib.hid hD
  clear hD
  have HN3 := Lib.hid (curs3_size j)
  generalize curs3 j = nj at *
  have hdm : IsInt64 dm := by unfold IsInt64; omega
  have hcv : IsInt64 cv := by unfold IsInt64; omega
  have hz0 : IsInt64 0 := by unfold IsInt64; omega
  have HDM := Lib.hid hdm; have HCV := Lib.hid hcv; have HZ0 := Lib.hid hz0
  clear hdm hcv hz0
  by_cases hm : cb.tmod 7 = 6
  · have e6 := HD.out.ev.cell 6
    rw [show (#[Value.int .i64 6, .string ⟨#[]⟩, .string ⟨#[]⟩, .string ⟨#[]⟩, .string nj, .int .i64 dm, .int .i64 0, .int .i64 0, .string ⟨#[]⟩, .int .i64 0, .slice none 0 0] : Array Value)[6]? = some (.int .i64 0) from rfl] at e6
    have z6 := HD.out.ev.frozen 6
    have hD := HD.out.set 6 (.int .i64 cv)
    simp only [List.setIfInBounds_toArray, List.set_cons_zero, List.set_cons_succ] at hD
    obtain ⟨WG, hWG⟩ : ∃ WG, WF.setCell ⟨w.heap.size + 1 + 1, 6, none⟩ (.int .i64 cv) = WG := ⟨_, rfl⟩
    rw [hWG] at hD
    have HWG := Lib.hid hWG; have HDG := Lib.hid hD
    clear hWG hD
    go_upto_region 52 with fail
    rw [HWG.out]
    clear HWG HD e6 z6 p2 p4
    clear WF
    rename World => WF
    have hD := HDG.out
    have hRF := hD.res
    have hTF := TrAt.leaf (w.heap.size + 1 + 1) WF 0 ⟨#[]⟩ 0 0
    have HEF := Lib.hid hD.ev; have HRF := Lib.hid hRF; have HBF := Lib.hid hD.bel; have HTF := Lib.hid hTF; have HSF := Lib.hid hD.size
    clear hRF hTF hD
    obtain ⟨e0, e1, e2, e3, e4, e5, e6, e7, e8, e9, e10⟩ := HEF.out.eleven
    obtain ⟨r0, r1, r2, r3, r4, r5, r6, r7, r8, r9, r10⟩ := HRF.out.eleven
    have rz := fun j => HRF.out.frozen j
    go_wp2_with fail
    (try simp only [Exit.inBlock, Exit.then])
    refine bodyPost_ret (results_E rfl _ _ (w.heap.size + 1) _ _ _ _ _ _ _ _ _ _ _ _ rfl (HRF.out.set11 _ _ _ _ _ _ _ _ _ _ _)) rfl ?_
    exact do_post (ev := setX nj dm cv) HBF.out HTF.out HSF.out ⟨setX_fit nj dm cv HN3.out HDM.out HCV.out, rfl, rfl, rfl, rfl, rfl, rfl, rfl⟩
  · have hmb : (cb.tmod 7 == 6) = false := by simpa using hm
    go_upto_region 52 with fail
    have hD := HD.out
    have hRF := hD.res
    have hTF := TrAt.leaf (w.heap.size + 1 + 1) WF 0 ⟨#[]⟩ 0 0
    have HEF := Lib.hid hD.ev; have HRF := Lib.hid hRF; have HBF := Lib.hid hD.bel; have HTF := Lib.hid hTF; have HSF := Lib.hid hD.size
    clear hRF hTF hD
    obtain ⟨e0, e1, e2, e3, e4, e5, e6, e7, e8, e9, e10⟩ := HEF.out.eleven
    obtain ⟨r0, r1, r2, r3, r4, r5, r6, r7, r8, r9, r10⟩ := HRF.out.eleven
    have rz := fun j => HRF.out.frozen j
    go_wp2_with fail
    (try simp only [Exit.inBlock, Exit.then])
    refine bodyPost_ret (results_E rfl _ _ (w.heap.size + 1) _ _ _ _ _ _ _ _ _ _ _ _ rfl (HRF.out.set11 _ _ _ _ _ _ _ _ _ _ _)) rfl ?_
    exact do_post (ev := setX nj dm 0) HBF.out HTF.out HSF.out ⟨setX_fit nj dm 0 HN3.out HDM.out HZ0.out, rfl, rfl, rfl, rfl, rfl, rfl, rfl⟩
end Go.Proofs.YtapbkomicihkkaaGreatDoor
