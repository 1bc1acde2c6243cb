/- A command's event: a fixing. -/
import Derived.Test.YtapbkomicihkkaaGreatDoorDo1
import Derived.Test.YtapbkomicihkkaaGreatDoorSparG
namespace Go.Proofs.YtapbkomicihkkaaGreatDoor
open Go.RowKit
set_option linter.unusedVariables false
set_option linter.unusedSimpArgs false

def fixX (s : ByteArray) (d v : Int) : Ev := ⟨3, eS, s, eS, eS, d, v, .odd .nilIface⟩
theorem fixX_fit (s : ByteArray) (d v : Int) (h : s.size ≤ 14) (hd : IsInt64 d) (hv : IsInt64 v) : (fixX s d v).fit :=
  ⟨by show (0 : Int) ≤ 3 ∧ (3 : Int) ≤ 8; decide, by show eS.size ≤ 100; decide, by show s.size ≤ 100; omega, by show eS.size ≤ 100; decide, by show eS.size ≤ 100; decide, hd, hv, .inl rfl⟩
def names3 : Nat → ByteArray
  | 0 => ⟨#[108, 105, 98, 111, 114]⟩
  | 1 => ⟨#[114, 97, 105, 110]⟩
  | _ => ⟨#[195, 182, 108]⟩
theorem names3_size (j : Nat) : (names3 j).size ≤ 14 := by unfold names3; split <;> decide
theorem tab3 {j : Nat} (hj : j < 3) (X : World) (n : Nat) (h : X.heap.size = n) : (X.alloc (.cells #[.string ⟨#[108, 105, 98, 111, 114]⟩, .string ⟨#[114, 97, 105, 110]⟩, .string ⟨#[195, 182, 108]⟩] 9)).cell? ⟨n, j, none⟩ = some (.string (names3 j)) := by
  subst h
  refine ((Blk.new X _ _).cell j).trans ?_
  match j, hj with
  | 0, _ => rfl
  | 1, _ => rfl
  | 2, _ => rfl
theorem wpAnyH_listed {P : Program} {ops : Array Oper} {Q : Exit → Act → World → Prop} {md : Region.Mode} {S : World → Prop} {fuel : Nat} {listed : Array Bool} {a : Act} {w : World} (l' : Array Bool) (hl : listed = l') (h : wpAnyH P md ops Q S fuel l' a w) : wpAnyH P md ops Q S fuel listed a w := hl ▸ h
end Go.Proofs.YtapbkomicihkkaaGreatDoor
namespace Go.Proofs.YtapbkomicihkkaaGreatDoor
open Go.RowKit
set_option linter.unusedVariables false
set_option linter.unusedSimpArgs false

set_option maxRecDepth 100000 in
set_option maxHeartbeats 2000000 in
theorem do_tail {a : Act} {K : Act → World → Prop} {Q' : Exit → Act → World → Prop} {W : World} {r e : Nat} {vk vd vv tk tn : Int} {si sn sl sc ts : ByteArray} {A : Option Addr} {m c : Nat} {b0 b1 b2 b3 b4 b5 b6 b7 b8 b9 b10 : Value}
    (h7 : a.tmps[7]?.getD undef = .pointer (some ⟨e, 0, none⟩)) (h6 : a.tmps[6]?.getD undef = .pointer (some ⟨r, 0, none⟩)) (hsz : a.tmps.size = 267)
    (hE : Blk W e #[.int .i64 vk, .string si, .string sn, .string sl, .string sc, .int .i64 vd, .int .i64 vv, .int .i64 tk, .string ts, .int .i64 tn, .slice A m c] 35)
    (hR : Blk W r #[b0, b1, b2, b3, b4, b5, b6, b7, b8, b9, b10] 35)
    (h : K (a.put (some 266) (.agg #[.int .i64 vk, .string si, .string sn, .string sl, .string sc, .int .i64 vd, .int .i64 vv, .int .i64 tk, .string ts, .int .i64 tn, .slice A m c])) (((((((((((W.setCell ⟨r, 0, none⟩ (.int .i64 vk)).setCell ⟨r, 1, none⟩ (.string si)).setCell ⟨r, 2, none⟩ (.string sn)).setCell ⟨r, 3, none⟩ (.string sl)).setCell ⟨r, 4, none⟩ (.string sc)).setCell ⟨r, 5, none⟩ (.int .i64 vd)).setCell ⟨r, 6, none⟩ (.int .i64 vv)).setCell ⟨r, 7, none⟩ (.int .i64 tk)).setCell ⟨r, 8, none⟩ (.string ts)).setCell ⟨r, 9, none⟩ (.int .i64 tn)).setCell ⟨r, 10, none⟩ (.slice A m c))) :
    (Code.region 52 #[{ dst := some 266, op := Op.load 35 (Operand.tmp 7), type := 35, pos := "play.go:364", after := #[], guard := none }, { dst := none, op := Op.store 35 (Operand.tmp 6) (Operand.tmp 266), type := 0, pos := "play.go:364", after := #[{ on := 0, ground := Ground.data }, { on := 0, ground := Ground.phase }], guard := none }] false).wp Tryz.prog (Exit.then K Q') a W := by
  obtain ⟨e0, e1, e2, e3, e4, e5, e6, e7, e8, e9, e10⟩ := hE.eleven
  have hR0 := Lib.hid hR
  clear hE hR
  have HSZ := Lib.hid hsz
  clear hsz
  refine wp_region_lit ?_
  refine wpList_plain rfl (fun K1 hK1 => ?_)
  go_simp
  refine hK1 _ _ ?_
  clear hK1 K1 e0 e1 e2 e3 e4 e5 e6 e7 e8 e9 e10 h7
  obtain ⟨r0, r1, r2, r3, r4, r5, r6, r7, r8, r9, r10⟩ := hR0.out.eleven
  have rz := fun j => hR0.out.frozen j
  have g6 : (Act.put a (some 266) (.agg #[.int .i64 vk, .string si, .string sn, .string sl, .string sc, .int .i64 vd, .int .i64 vv, .int .i64 tk, .string ts, .int .i64 tn, .slice A m c])).tmps[6]?.getD undef = .pointer (some ⟨r, 0, none⟩) := by
    rw [← h6]; simp [Act.put, Array.getElem?_setIfInBounds_ne]
  have g7 : (Act.put a (some 266) (.agg #[.int .i64 vk, .string si, .string sn, .string sl, .string sc, .int .i64 vd, .int .i64 vv, .int .i64 tk, .string ts, .int .i64 tn, .slice A m c])).tmps[266]?.getD undef = (.agg #[.int .i64 vk, .string si, .string sn, .string sl, .string sc, .int .i64 vd, .int .i64 vv, .int .i64 tk, .string ts, .int .i64 tn, .slice A m c]) := by
    have := HSZ.out; simp [Act.put, this]
  clear hR0 h6
  obtain ⟨a1, ha1⟩ : ∃ a1, Act.put a (some 266) (.agg #[.int .i64 vk, .string si, .string sn, .string sl, .string sc, .int .i64 vd, .int .i64 vv, .int .i64 tk, .string ts, .int .i64 tn, .slice A m c]) = a1 := ⟨_, rfl⟩
  change wpList _ _ _ _ (Act.put a (some 266) _) _
  rw [ha1] at h g6 g7 ⊢
  clear ha1 HSZ
  have HH := Lib.hid h
  clear h
  refine wpList_plain rfl (fun K1 hK1 => ?_)
  go_simp
  refine hK1 _ _ ?_
  refine wpList_nil ?_
  exact HH.out
end Go.Proofs.YtapbkomicihkkaaGreatDoor
namespace Go.Proofs.YtapbkomicihkkaaGreatDoor
open Go.RowKit
set_option linter.unusedVariables false
set_option linter.unusedSimpArgs false

set_option maxRecDepth 100000 in
set_option maxHeartbeats 8000000 in
theorem do_c (w : World) (c : Cm) (vN vW : Value) (hc : c.ok) (hp : PlanAt w vN vW) (day : Int) (hday : 0 ≤ day ∧ day ≤ 1000000) (hk : 7 ≤ c.kind % 20 ∧ c.kind % 20 < 11) :
    Calls Tryz.prog 34 #[.pointer none, c.val vN vW, .int .i64 day] w (GivesEv w) := by
  unfold GivesEv
  unfold Cm.val
  obtain ⟨⟨A, n, cc, xs, rfl, hn⟩, ⟨A', n', cc', xs', rfl, hn'⟩⟩ := (show PlanAt w vN vW from hp)
  clear hn hn'
  obtain ⟨W1, hW1⟩ : ∃ W1, ((w.alloc (.cells #[.int .i64 c.kind, .int .i64 c.a, .int .i64 c.b, .int .i64 c.day, .int .i64 c.value, .string c.word, .slice A n cc, .slice A' n' cc'] 27)).alloc (.cells #[.int .i64 0, .string ⟨#[]⟩, .string ⟨#[]⟩, .string ⟨#[]⟩, .string ⟨#[]⟩, .int .i64 0, .int .i64 0, .int .i64 0, .string ⟨#[]⟩, .int .i64 0, .slice none 0 0] 35)).alloc (.cells #[.int .i64 0, .string ⟨#[]⟩, .string ⟨#[]⟩, .string ⟨#[]⟩, .string ⟨#[]⟩, .int .i64 0, .int .i64 0, .int .i64 0, .string ⟨#[]⟩, .int .i64 0, .slice none 0 0] 35) = W1 := ⟨_, rfl⟩
  have hb1 := bl_alloc (bl_alloc (bl_alloc (bl_refl w) (.cells #[.int .i64 c.kind, .int .i64 c.a, .int .i64 c.b, .int .i64 c.day, .int .i64 c.value, .string c.word, .slice A n cc, .slice A' n' cc'] 27)) (.cells #[.int .i64 0, .string ⟨#[]⟩, .string ⟨#[]⟩, .string ⟨#[]⟩, .string ⟨#[]⟩, .int .i64 0, .int .i64 0, .int .i64 0, .string ⟨#[]⟩, .int .i64 0, .slice none 0 0] 35)) (.cells #[.int .i64 0, .string ⟨#[]⟩, .string ⟨#[]⟩, .string ⟨#[]⟩, .string ⟨#[]⟩, .int .i64 0, .int .i64 0, .int .i64 0, .string ⟨#[]⟩, .int .i64 0, .slice none 0 0] 35)
  obtain ⟨hkC, hkR, hkE, hs1⟩ := do_blocks w #[.int .i64 c.kind, .int .i64 c.a, .int .i64 c.b, .int .i64 c.day, .int .i64 c.value, .string c.word, .slice A n cc, .slice A' n' cc'] 27 #[.int .i64 0, .string ⟨#[]⟩, .string ⟨#[]⟩, .string ⟨#[]⟩, .string ⟨#[]⟩, .int .i64 0, .int .i64 0, .int .i64 0, .string ⟨#[]⟩, .int .i64 0, .slice none 0 0] 35
  rw [hW1] at hb1 hkC hkR hkE hs1
  have hnm := kname_calls c.a hc.a
  have hwi := fun W => within_calls c.kind 20 W (by have := hc.kind; unfold IsInt64 at this; omega) (by omega)
  have htx := fun W => text_calls c.word 14 hc.word (by omega) W
  have hts : (c.word.extract 0 (min c.word.size 14)).size ≤ 14 := by simp; omega
  have hns := nameS_size (c.a % 5).toNat
  obtain ⟨hi1, hi2, hi3, hi4, hi5, hi6⟩ := hc
  unfold IsInt64 at hi1 hi2 hi3 hi4 hi5
  generalize c.word.extract 0 (min c.word.size 14) = wd at *
  generalize nameS (c.a % 5).toNat = nm at *
  generalize c.kind % 20 = kk at *
  generalize c.kind = ck at *
  generalize c.a = ca at *
  generalize c.b = cb at *
  generalize c.day = cd at *
  generalize c.value = cv at *
  generalize c.word = cw at *
  have HW1 := Lib.hid hW1; have HP := Lib.hid hp; have HNM := Lib.hid hnm; have HWI := Lib.hid hwi; have HTX := Lib.hid htx; have HKC := Lib.hid hkC; have HKE := Lib.hid hkE; have HKR := Lib.hid hkR; have HB1 := Lib.hid hb1; have HS1 := Lib.hid hs1
  clear hW1 hp hnm hwi htx hkC hkR hkE hb1 hs1
  obtain ⟨p0, p1, p2, p3, p4, p5, p6, p7⟩ := HKC.out.eight
  go_enter Tryz.func34, Tryz.ntmps34
  go_upto_region 2 with fail
  rw [HW1.out]
  go_wp2_with fail
  refine (HNM.out _).mono ?_
  rintro e w2 ⟨rfl, hb2⟩
  have HB2 := Lib.hid (bl_step hb2 HB1.out)
  have HKC2 := Lib.hid (HKC.out.below hb2); have HKE2 := Lib.hid (HKE.out.below hb2); have HKR2 := Lib.hid (HKR.out.below hb2)
  have HS2 := Lib.hid (show w.heap.size + 1 + 1 < w2.heap.size by have := hb2.size; have := HS1.out; omega)
  replace p0 := cell_below hb2 p0
  replace p1 := cell_below hb2 p1
  replace p2 := cell_below hb2 p2
  replace p3 := cell_below hb2 p3
  replace p4 := cell_below hb2 p4
  replace p5 := cell_below hb2 p5
  replace p6 := cell_below hb2 p6
  replace p7 := cell_below hb2 p7
  clear hb2 HB1 HKC HKE HKR HW1 HS1 HNM
  clear W1
  go_upto_if 28 with fail
  go_cut [8] (fun v wx => ∃ id : ByteArray, id.size ≤ 14 ∧ v = .string id ∧ wx = w2)
  case first =>
    by_cases hm : ca.tmod 19 = 18
    · go_wp2_with fail
      refine (HTX.out _).mono ?_
      rintro e w3 ⟨rfl, rfl⟩
      go_wp2_with fail
      go_meet
      exact ⟨wd, hts, rfl, rfl⟩
    · have hmb : (ca.tmod 19 == 18) = false := by simpa using hm
      go_wp2_with fail
      go_meet
      exact ⟨nm, by omega, rfl, rfl⟩
  obtain ⟨id, hidl, rfl, rfl⟩ := hcut
  clear hts hns HTX
  obtain ⟨e0, e1, e2, e3, e4, e5, e6, e7, e8, e9, e10⟩ := HKE2.out.eleven
  have ez := fun j => HKE2.out.frozen j
  go_wp2_with fail
  refine (HWI.out _).mono ?_
  rintro e w3 ⟨rfl, rfl⟩
  clear HWI
  obtain ⟨hk1, hk2⟩ := hk
  have hk0 : (kk == 0) = false := by simp; omega
  have hw1 := fun W => within_calls ca 3 W (by omega) (by omega)
  have hw2 := fun W => within_calls cd (day + 2) W (by omega) (by omega)
  have hw3 := fun W => within_calls cv 30 W (by omega) (by omega)
  have hd0 := Int.emod_nonneg cd (show day + 2 ≠ 0 by omega)
  have hd1 := Int.emod_lt_of_pos cd (show 0 < day + 2 by omega)
  have hv0 := Int.emod_nonneg cv (show (30 : Int) ≠ 0 by omega)
  have hv1 := Int.emod_lt_of_pos cv (show (0 : Int) < 30 by omega)
  obtain ⟨j, hj⟩ : ∃ j : Nat, ca % 3 = (j : Int) := ⟨(ca % 3).toNat, by omega⟩
  have hj3 : j < 3 := by omega
  rw [hj] at hw1
  generalize cd % (day + 2) = dm at *
  generalize cv % 30 = vm at *
  have hwr1 : IntKind.i64.wrap (day + 2) = day + 2 := IntWalk.i64_in _ (by omega)
  have hwr2 : IntKind.i64.wrap (vm - 10) = vm - 10 := IntWalk.i64_in _ (by omega)
  have HW1 := Lib.hid hw1; have HW2 := Lib.hid hw2; have HW3 := Lib.hid hw3
  clear hw1 hw2 hw3 hj
  have hD0 : DoSt w w3 #[.int .i64 ck, .int .i64 ca, .int .i64 cb, .int .i64 cd, .int .i64 cv, .string cw, .slice A n cc, .slice A' n' cc'] #[.int .i64 0, .string ⟨#[]⟩, .string ⟨#[]⟩, .string ⟨#[]⟩, .string ⟨#[]⟩, .int .i64 0, .int .i64 0, .int .i64 0, .string ⟨#[]⟩, .int .i64 0, .slice none 0 0] := ⟨HKC2.out, HKE2.out, HKR2.out, HB2.out, HS2.out⟩
  go_upto_region 14 with fail
  go_cut [] (fun wx => DoSt w wx #[.int .i64 ck, .int .i64 ca, .int .i64 cb, .int .i64 cd, .int .i64 cv, .string cw, .slice A n cc, .slice A' n' cc'] #[.int .i64 3, .string ⟨#[]⟩, .string (names3 j), .string ⟨#[]⟩, .string ⟨#[]⟩, .int .i64 dm, .int .i64 (vm - 10), .int .i64 0, .string ⟨#[]⟩, .int .i64 0, .slice none 0 0])
  case first =>
    have hj0I : (0 : Int) ≤ (j : Int) := by omega
    have hj1I : (j : Int) < 3 := by omega
    clear e0 e1 e2 e3 e4 e5 e6 e7 e8 e9 e10 ez
    refine wp_region_noPanic ?_
    refine wp_region_held_drew (S := fun w' => w'.cell? ⟨w.heap.size, 1, none⟩ = some (.int .i64 ca) ∧ w'.cell? ⟨w.heap.size, 3, none⟩ = some (.int .i64 cd) ∧ w'.cell? ⟨w.heap.size, 4, none⟩ = some (.int .i64 cv)) (by kernel_rfl) ⟨p1, p3, p4⟩ (fun hH => ?_)
    have hD2 := hD0.drew
    clear p0 p1 p2 p3 p4 p5 p6 p7 HKC2 HKE2 HKR2 HB2 HS2
    refine wpAnyH_world (fun W => DoSt w W _ _) hD2 (fun W1 hD => ?_)
    refine wpAnyH_listed #[false, false, false, false, false, false, false, false, false, false, false, false, false, false, false, false, false, false, false, false, false, false, false] (by rfl) ?_
    clear hH hD2 hD0
    clear w3
    have hH : W1.cell? ⟨w.heap.size, 1, none⟩ = some (.int .i64 ca) ∧ W1.cell? ⟨w.heap.size, 3, none⟩ = some (.int .i64 cd) ∧ W1.cell? ⟨w.heap.size, 4, none⟩ = some (.int .i64 cv) := (And.intro (hD.cmd.cell 1) (And.intro (hD.cmd.cell 3) (hD.cmd.cell 4)))
    refine wpAnyH_named (fun A0 hA0 => ?_)
    have hn0 : Hid (A0.tmps.size = 267) := by show A0.tmps.size = 267; rw [hA0]; rfl
    have hN : Kn A0 [(2, .int .i64 day), (4, .pointer (some ⟨w.heap.size, 0, none⟩)), (7, .pointer (some ⟨w.heap.size + 1 + 1, 0, none⟩))] := by rw [hA0]; exact ⟨rfl, rfl, rfl, trivial⟩
    have hO := Off.refl A0 [71, 72, 73, 74, 75, 76, 77, 78, 79, 80, 81, 82, 83, 84, 85, 86, 87, 88, 89]
    have HA0 := Lib.hid hA0
    clear hA0
    refine wpAnyH_take (i := 1) (oi := ⟨_, _, _, _, _, _⟩) (v := ?_) rfl (by kernel_rfl) (by kernel_rfl) (by kernel_rfl) (fun _ _ _ h => h) (Or.inl ⟨by rfl, ?_⟩) (by assumption) ?_
    rotate_left
    · intro w hSw; (try dsimp only at hSw); go_split_ands; have f1 := hN.get 4 rfl; dsimp only at f1; go_simp; try with_reducible rfl
    (try dsimp only [List.setIfInBounds_toArray, List.set_cons_zero, List.set_cons_succ])
    refine wpAnyH_put hO hn0.out hN (by rfl) (by rfl) (by rfl) (fun A9 hO9 hN9 => ?_)
    (try clear hO hN)
    have hO := hO9
    have hN := hN9
    clear hO9 hN9
    refine wpAnyH_take (i := 2) (oi := ⟨_, _, _, _, _, _⟩) (v := ?_) rfl (by kernel_rfl) (by kernel_rfl) (by kernel_rfl) (fun _ _ _ h => h) (Or.inl ⟨by rfl, ?_⟩) (by assumption) ?_
    rotate_left
    · intro w hSw; (try dsimp only at hSw); go_split_ands; have f1 := hN.get 72 rfl; dsimp only at f1; go_simp; try with_reducible rfl
    (try dsimp only [List.setIfInBounds_toArray, List.set_cons_zero, List.set_cons_succ])
    refine wpAnyH_put hO hn0.out hN (by rfl) (by rfl) (by rfl) (fun A9 hO9 hN9 => ?_)
    (try clear hO hN)
    have hO := hO9
    have hN := hN9
    clear hO9 hN9
    refine wpAnyH_take (i := 6) (oi := ⟨_, _, _, _, _, _⟩) (v := ?_) rfl (by kernel_rfl) (by kernel_rfl) (by kernel_rfl) (fun _ _ _ h => h) (Or.inl ⟨by rfl, ?_⟩) (by assumption) ?_
    rotate_left
    · intro w hSw; (try dsimp only at hSw); go_split_ands; have f1 := hN.get 4 rfl; dsimp only at f1; go_simp; try with_reducible rfl
    (try dsimp only [List.setIfInBounds_toArray, List.set_cons_zero, List.set_cons_succ])
    refine wpAnyH_put hO hn0.out hN (by rfl) (by rfl) (by rfl) (fun A9 hO9 hN9 => ?_)
    (try clear hO hN)
    have hO := hO9
    have hN := hN9
    clear hO9 hN9
    refine wpAnyH_take (i := 7) (oi := ⟨_, _, _, _, _, _⟩) (v := ?_) rfl (by kernel_rfl) (by kernel_rfl) (by kernel_rfl) (fun _ _ _ h => h) (Or.inl ⟨by rfl, ?_⟩) (by assumption) ?_
    rotate_left
    · intro w hSw; (try dsimp only at hSw); go_split_ands; have f1 := hN.get 77 rfl; dsimp only at f1; go_simp; try with_reducible rfl
    (try dsimp only [List.setIfInBounds_toArray, List.set_cons_zero, List.set_cons_succ])
    refine wpAnyH_put hO hn0.out hN (by rfl) (by rfl) (by rfl) (fun A9 hO9 hN9 => ?_)
    (try clear hO hN)
    have hO := hO9
    have hN := hN9
    clear hO9 hN9
    refine wpAnyH_take (i := 8) (oi := ⟨_, _, _, _, _, _⟩) (v := ?_) rfl (by kernel_rfl) (by kernel_rfl) (by kernel_rfl) (fun _ _ _ h => h) (Or.inl ⟨by rfl, ?_⟩) (by assumption) ?_
    rotate_left
    · intro w hSw; (try dsimp only at hSw); go_split_ands; have f1 := hN.get 2 rfl; dsimp only at f1; go_simp; try with_reducible rfl
    (try dsimp only [List.setIfInBounds_toArray, List.set_cons_zero, List.set_cons_succ])
    refine wpAnyH_put hO hn0.out hN (by rfl) (by rfl) (by rfl) (fun A9 hO9 hN9 => ?_)
    (try clear hO hN)
    have hO := hO9
    have hN := hN9
    clear hO9 hN9
    refine wpAnyH_take (i := 9) (oi := ⟨_, _, _, _, _, _⟩) (v := ?_) rfl (by kernel_rfl) (by kernel_rfl) (by kernel_rfl) (fun _ _ _ h => h) (Or.inl ⟨by rfl, ?_⟩) (by assumption) ?_
    rotate_left
    · intro w hSw; (try dsimp only at hSw); go_split_ands; have f1 := hN.get 79 rfl; dsimp only at f1; go_simp; try with_reducible rfl
    (try dsimp only [List.setIfInBounds_toArray, List.set_cons_zero, List.set_cons_succ])
    refine wpAnyH_put hO hn0.out hN (by rfl) (by rfl) (by rfl) (fun A9 hO9 hN9 => ?_)
    (try clear hO hN)
    have hO := hO9
    have hN := hN9
    clear hO9 hN9
    refine wpAnyH_take (i := 11) (oi := ⟨_, _, _, _, _, _⟩) (v := ?_) rfl (by kernel_rfl) (by kernel_rfl) (by kernel_rfl) (fun _ _ _ h => h) (Or.inl ⟨by rfl, ?_⟩) (by assumption) ?_
    rotate_left
    · intro w hSw; (try dsimp only at hSw); go_split_ands; have f1 := hN.get 4 rfl; dsimp only at f1; go_simp; try with_reducible rfl
    (try dsimp only [List.setIfInBounds_toArray, List.set_cons_zero, List.set_cons_succ])
    refine wpAnyH_put hO hn0.out hN (by rfl) (by rfl) (by rfl) (fun A9 hO9 hN9 => ?_)
    (try clear hO hN)
    have hO := hO9
    have hN := hN9
    clear hO9 hN9
    refine wpAnyH_take (i := 12) (oi := ⟨_, _, _, _, _, _⟩) (v := ?_) rfl (by kernel_rfl) (by kernel_rfl) (by kernel_rfl) (fun _ _ _ h => h) (Or.inl ⟨by rfl, ?_⟩) (by assumption) ?_
    rotate_left
    · intro w hSw; (try dsimp only at hSw); go_split_ands; have f1 := hN.get 82 rfl; dsimp only at f1; go_simp; try with_reducible rfl
    (try dsimp only [List.setIfInBounds_toArray, List.set_cons_zero, List.set_cons_succ])
    refine wpAnyH_put hO hn0.out hN (by rfl) (by rfl) (by rfl) (fun A9 hO9 hN9 => ?_)
    (try clear hO hN)
    have hO := hO9
    have hN := hN9
    clear hO9 hN9
    refine wpAnyH_take (i := 15) (oi := ⟨_, _, _, _, _, _⟩) (v := ?_) rfl (by kernel_rfl) (by kernel_rfl) (by kernel_rfl) (fun _ _ _ h => h) (Or.inl ⟨by rfl, ?_⟩) (by assumption) ?_
    rotate_left
    · intro w hSw; (try dsimp only at hSw); go_split_ands; have f1 := hN.get 7 rfl; dsimp only at f1; go_simp; try with_reducible rfl
    (try dsimp only [List.setIfInBounds_toArray, List.set_cons_zero, List.set_cons_succ])
    refine wpAnyH_put hO hn0.out hN (by rfl) (by rfl) (by rfl) (fun A9 hO9 hN9 => ?_)
    (try clear hO hN)
    have hO := hO9
    have hN := hN9
    clear hO9 hN9
    clear hi1 hi2 hi3 hi4 hi5 hi6 hday hd0 hd1 hv0 hv1
    revert hH hD hO hN
    apply join3 (fun q X W => DoSt w W #[.int .i64 ck, .int .i64 ca, .int .i64 cb, .int .i64 cd, .int .i64 cv, .string cw, .slice A n cc, .slice A' n' cc'] #[.int .i64 0, .string ⟨#[]⟩, .string ⟨#[]⟩, .string ⟨#[]⟩, .string ⟨#[]⟩, .int .i64 0, .int .i64 0, .int .i64 0, .string ⟨#[]⟩, .int .i64 0, .slice none 0 0] ∧ W.cell? ⟨q, j, none⟩ = some (.string (names3 j)) ∧ w.heap.size + 1 + 1 < q ∧ Off A0 X [71, 72, 73, 74, 75, 76, 77, 78, 79, 80, 81, 82, 83, 84, 85, 86, 87, 88, 89] ∧ Kn X [(71, .slice (some ⟨q, 0, none⟩) 3 3), (76, .string (names3 j)), (81, .int .i64 dm), (85, .int .i64 (vm - 10)), (86, .pointer (some ⟨w.heap.size + 1 + 1, 0, none⟩)), (7, .pointer (some ⟨w.heap.size + 1 + 1, 0, none⟩))])
    case main =>
      intro key3
      apply join3 (fun q X W => DoSt w W #[.int .i64 ck, .int .i64 ca, .int .i64 cb, .int .i64 cd, .int .i64 cv, .string cw, .slice A n cc, .slice A' n' cc'] #[.int .i64 0, .string ⟨#[]⟩, .string ⟨#[]⟩, .string ⟨#[]⟩, .string ⟨#[]⟩, .int .i64 0, .int .i64 0, .int .i64 0, .string ⟨#[]⟩, .int .i64 0, .slice none 0 0] ∧ W.cell? ⟨q, j, none⟩ = some (.string (names3 j)) ∧ w.heap.size + 1 + 1 < q ∧ Off A0 X [71, 72, 73, 74, 75, 76, 77, 78, 79, 80, 81, 82, 83, 84, 85, 86, 87, 88, 89] ∧ Kn X [(71, .slice (some ⟨q, 0, none⟩) 3 3), (76, .string (names3 j)), (81, .int .i64 dm), (83, .int .i64 cv), (86, .pointer (some ⟨w.heap.size + 1 + 1, 0, none⟩)), (7, .pointer (some ⟨w.heap.size + 1 + 1, 0, none⟩))])
      case main =>
        intro key2
        apply join3 (fun q X W => DoSt w W #[.int .i64 ck, .int .i64 ca, .int .i64 cb, .int .i64 cd, .int .i64 cv, .string cw, .slice A n cc, .slice A' n' cc'] #[.int .i64 0, .string ⟨#[]⟩, .string ⟨#[]⟩, .string ⟨#[]⟩, .string ⟨#[]⟩, .int .i64 0, .int .i64 0, .int .i64 0, .string ⟨#[]⟩, .int .i64 0, .slice none 0 0] ∧ W.cell? ⟨q, j, none⟩ = some (.string (names3 j)) ∧ w.heap.size + 1 + 1 < q ∧ Off A0 X [71, 72, 73, 74, 75, 76, 77, 78, 79, 80, 81, 82, 83, 84, 85, 86, 87, 88, 89] ∧ Kn X [(71, .slice (some ⟨q, 0, none⟩) 3 3), (74, .int .i64 j), (78, .int .i64 cd), (80, .int .i64 (day + 2)), (83, .int .i64 cv), (86, .pointer (some ⟨w.heap.size + 1 + 1, 0, none⟩)), (7, .pointer (some ⟨w.heap.size + 1 + 1, 0, none⟩))])
        case main =>
          intro key1
          intro hD hH hO hN
          refine wpAnyH_ready (rs := [0, 3]) (by kernel_rfl) (by simp) ?_
          refine AllReadyH.cons rfl (fun K hK => ?_) (AllReadyH.cons rfl (fun K hK => ?_) AllReadyH.nil)
          · skip
            (try go_simp)
            refine hK.out _ _ (And.intro ((hD.alloc _).cmd.cell 1) (And.intro ((hD.alloc _).cmd.cell 3) ((hD.alloc _).cmd.cell 4))) (fun hH9 => ?_)
            clear hK K hH9
            obtain ⟨q, hq⟩ : ∃ q, W1.heap.size = q := ⟨_, rfl⟩
            have hqs := hD.size
            rw [hq] at hqs ⊢
            refine wpAnyH_more (S' := fun w' => (w'.cell? ⟨w.heap.size, 1, none⟩ = some (.int .i64 ca) ∧ w'.cell? ⟨w.heap.size, 3, none⟩ = some (.int .i64 cd) ∧ w'.cell? ⟨w.heap.size, 4, none⟩ = some (.int .i64 cv)) ∧ w'.cell? ⟨q, j, none⟩ = some (.string (names3 j))) (fun _ h => h.1) _ _ _ _ ?_
            refine wpAnyH_world (fun X => DoSt w X _ _ ∧ X.cell? ⟨q, j, none⟩ = some (.string (names3 j))) (And.intro (hD.alloc _) (tab3 hj3 W1 q hq)) (fun WA hD3 => ?_)
            clear hH hD hq
            obtain ⟨hD, hTb⟩ := hD3
            have hH : (WA.cell? ⟨w.heap.size, 1, none⟩ = some (.int .i64 ca) ∧ WA.cell? ⟨w.heap.size, 3, none⟩ = some (.int .i64 cd) ∧ WA.cell? ⟨w.heap.size, 4, none⟩ = some (.int .i64 cv)) ∧ WA.cell? ⟨q, j, none⟩ = some (.string (names3 j)) := And.intro (And.intro (hD.cmd.cell 1) (And.intro (hD.cmd.cell 3) (hD.cmd.cell 4))) hTb
            (try dsimp only [List.setIfInBounds_toArray, List.set_cons_zero, List.set_cons_succ])
            refine wpAnyH_put hO hn0.out hN (by rfl) (by rfl) (by rfl) (fun A9 hO9 hN9 => ?_)
            (try clear hO hN)
            have hO := hO9
            have hN := hN9
            clear hO9 hN9
            refine wpAnyH_ready (rs := [3]) (by kernel_rfl) (by simp) ?_
            refine AllReadyH.cons rfl (fun K hK => ?_) AllReadyH.nil
            have f1 := hN.get 73 rfl
            (try dsimp only at f1)
            (try dsimp only at f2)
            (try go_simp)
            (with_reducible refine (HW1.out _).mono ?_)
            rintro e wq ⟨rfl, rfl⟩
            (try go_simp)
            refine hK.out _ _ hH (fun hH9 => ?_)
            clear hK K hH9
            (try clear f1)
            (try clear f2)
            (try dsimp only [List.setIfInBounds_toArray, List.set_cons_zero, List.set_cons_succ])
            refine wpAnyH_put hO hn0.out hN (by rfl) (by rfl) (by rfl) (fun A9 hO9 hN9 => ?_)
            (try clear hO hN)
            have hO := hO9
            have hN := hN9
            clear hO9 hN9
            exact key1 q A9 wq ⟨hD, hTb, hqs, hO, hN.sub ⟨rfl, rfl, rfl, rfl, rfl, rfl, rfl, trivial⟩⟩
          · have f1 := hN.get 73 rfl
            (try dsimp only at f1)
            (try dsimp only at f2)
            (try go_simp)
            (with_reducible refine (HW1.out _).mono ?_)
            rintro e wq ⟨rfl, rfl⟩
            (try go_simp)
            refine hK.out _ _ hH (fun hH9 => ?_)
            clear hK K hH9
            (try clear f1)
            (try clear f2)
            (try dsimp only [List.setIfInBounds_toArray, List.set_cons_zero, List.set_cons_succ])
            refine wpAnyH_put hO hn0.out hN (by rfl) (by rfl) (by rfl) (fun A9 hO9 hN9 => ?_)
            (try clear hO hN)
            have hO := hO9
            have hN := hN9
            clear hO9 hN9
            refine wpAnyH_ready (rs := [0, 10]) (by kernel_rfl) (by simp) ?_
            refine AllReadyH.cons rfl (fun K hK => ?_) (AllReadyH.cons rfl (fun K hK => ?_) AllReadyH.nil)
            · skip
              (try go_simp)
              refine hK.out _ _ (And.intro ((hD.alloc _).cmd.cell 1) (And.intro ((hD.alloc _).cmd.cell 3) ((hD.alloc _).cmd.cell 4))) (fun hH9 => ?_)
              clear hK K hH9
              obtain ⟨q, hq⟩ : ∃ q, wq.heap.size = q := ⟨_, rfl⟩
              have hqs := hD.size
              rw [hq] at hqs ⊢
              refine wpAnyH_more (S' := fun w' => (w'.cell? ⟨w.heap.size, 1, none⟩ = some (.int .i64 ca) ∧ w'.cell? ⟨w.heap.size, 3, none⟩ = some (.int .i64 cd) ∧ w'.cell? ⟨w.heap.size, 4, none⟩ = some (.int .i64 cv)) ∧ w'.cell? ⟨q, j, none⟩ = some (.string (names3 j))) (fun _ h => h.1) _ _ _ _ ?_
              refine wpAnyH_world (fun X => DoSt w X _ _ ∧ X.cell? ⟨q, j, none⟩ = some (.string (names3 j))) (And.intro (hD.alloc _) (tab3 hj3 wq q hq)) (fun WA hD3 => ?_)
              clear hH hD hq
              obtain ⟨hD, hTb⟩ := hD3
              have hH : (WA.cell? ⟨w.heap.size, 1, none⟩ = some (.int .i64 ca) ∧ WA.cell? ⟨w.heap.size, 3, none⟩ = some (.int .i64 cd) ∧ WA.cell? ⟨w.heap.size, 4, none⟩ = some (.int .i64 cv)) ∧ WA.cell? ⟨q, j, none⟩ = some (.string (names3 j)) := And.intro (And.intro (hD.cmd.cell 1) (And.intro (hD.cmd.cell 3) (hD.cmd.cell 4))) hTb
              (try dsimp only [List.setIfInBounds_toArray, List.set_cons_zero, List.set_cons_succ])
              refine wpAnyH_put hO hn0.out hN (by rfl) (by rfl) (by rfl) (fun A9 hO9 hN9 => ?_)
              (try clear hO hN)
              have hO := hO9
              have hN := hN9
              clear hO9 hN9
              exact key1 q A9 WA ⟨hD, hTb, hqs, hO, hN.sub ⟨rfl, rfl, rfl, rfl, rfl, rfl, rfl, trivial⟩⟩
            · have f1 := hN.get 78 rfl
              have f2 := hN.get 80 rfl
              (try dsimp only at f1)
              (try dsimp only at f2)
              (try go_simp)
              (with_reducible refine (HW2.out _).mono ?_)
              rintro e wq ⟨rfl, rfl⟩
              (try go_simp)
              refine hK.out _ _ hH (fun hH9 => ?_)
              clear hK K hH9
              (try clear f1)
              (try clear f2)
              (try dsimp only [List.setIfInBounds_toArray, List.set_cons_zero, List.set_cons_succ])
              refine wpAnyH_put hO hn0.out hN (by rfl) (by rfl) (by rfl) (fun A9 hO9 hN9 => ?_)
              (try clear hO hN)
              have hO := hO9
              have hN := hN9
              clear hO9 hN9
              refine wpAnyH_ready (rs := [0, 13]) (by kernel_rfl) (by simp) ?_
              refine AllReadyH.cons rfl (fun K hK => ?_) (AllReadyH.cons rfl (fun K hK => ?_) AllReadyH.nil)
              · skip
                (try go_simp)
                refine hK.out _ _ (And.intro ((hD.alloc _).cmd.cell 1) (And.intro ((hD.alloc _).cmd.cell 3) ((hD.alloc _).cmd.cell 4))) (fun hH9 => ?_)
                clear hK K hH9
                obtain ⟨q, hq⟩ : ∃ q, wq.heap.size = q := ⟨_, rfl⟩
                have hqs := hD.size
                rw [hq] at hqs ⊢
                refine wpAnyH_more (S' := fun w' => (w'.cell? ⟨w.heap.size, 1, none⟩ = some (.int .i64 ca) ∧ w'.cell? ⟨w.heap.size, 3, none⟩ = some (.int .i64 cd) ∧ w'.cell? ⟨w.heap.size, 4, none⟩ = some (.int .i64 cv)) ∧ w'.cell? ⟨q, j, none⟩ = some (.string (names3 j))) (fun _ h => h.1) _ _ _ _ ?_
                refine wpAnyH_world (fun X => DoSt w X _ _ ∧ X.cell? ⟨q, j, none⟩ = some (.string (names3 j))) (And.intro (hD.alloc _) (tab3 hj3 wq q hq)) (fun WA hD3 => ?_)
                clear hH hD hq
                obtain ⟨hD, hTb⟩ := hD3
                have hH : (WA.cell? ⟨w.heap.size, 1, none⟩ = some (.int .i64 ca) ∧ WA.cell? ⟨w.heap.size, 3, none⟩ = some (.int .i64 cd) ∧ WA.cell? ⟨w.heap.size, 4, none⟩ = some (.int .i64 cv)) ∧ WA.cell? ⟨q, j, none⟩ = some (.string (names3 j)) := And.intro (And.intro (hD.cmd.cell 1) (And.intro (hD.cmd.cell 3) (hD.cmd.cell 4))) hTb
                (try dsimp only [List.setIfInBounds_toArray, List.set_cons_zero, List.set_cons_succ])
                refine wpAnyH_put hO hn0.out hN (by rfl) (by rfl) (by rfl) (fun A9 hO9 hN9 => ?_)
                (try clear hO hN)
                have hO := hO9
                have hN := hN9
                clear hO9 hN9
                refine wpAnyH_take (i := 4) (oi := ⟨_, _, _, _, _, _⟩) (v := ?_) rfl (by kernel_rfl) (by kernel_rfl) (by kernel_rfl) (fun _ _ _ h => h) (Or.inl ⟨by rfl, ?_⟩) (by assumption) ?_
                rotate_left
                · intro w hSw; (try dsimp only at hSw); go_split_ands; have f1 := hN.get 71 rfl; have f2 := hN.get 74 rfl; dsimp only at f1 f2; go_simp; try with_reducible rfl
                (try dsimp only [List.setIfInBounds_toArray, List.set_cons_zero, List.set_cons_succ])
                refine wpAnyH_put hO hn0.out hN (by rfl) (by rfl) (by rfl) (fun A9 hO9 hN9 => ?_)
                (try clear hO hN)
                have hO := hO9
                have hN := hN9
                clear hO9 hN9
                refine wpAnyH_take (i := 5) (oi := ⟨_, _, _, _, _, _⟩) (v := ?_) rfl (by kernel_rfl) (by kernel_rfl) (by kernel_rfl) (fun _ _ _ h => h) (Or.inl ⟨by rfl, ?_⟩) (by assumption) ?_
                rotate_left
                · intro w hSw; (try dsimp only at hSw); go_split_ands; have f1 := hN.get 75 rfl; dsimp only at f1; go_simp; try with_reducible rfl
                (try dsimp only [List.setIfInBounds_toArray, List.set_cons_zero, List.set_cons_succ])
                refine wpAnyH_put hO hn0.out hN (by rfl) (by rfl) (by rfl) (fun A9 hO9 hN9 => ?_)
                (try clear hO hN)
                have hO := hO9
                have hN := hN9
                clear hO9 hN9
                exact key2 q A9 WA ⟨hD, hTb, hqs, hO, hN.sub ⟨rfl, rfl, rfl, rfl, rfl, rfl, trivial⟩⟩
              · have f1 := hN.get 83 rfl
                (try dsimp only at f1)
                (try dsimp only at f2)
                (try go_simp)
                (with_reducible refine (HW3.out _).mono ?_)
                rintro e wq ⟨rfl, rfl⟩
                (try go_simp)
                refine hK.out _ _ hH (fun hH9 => ?_)
                clear hK K hH9
                (try clear f1)
                (try clear f2)
                (try dsimp only [List.setIfInBounds_toArray, List.set_cons_zero, List.set_cons_succ])
                refine wpAnyH_put hO hn0.out hN (by rfl) (by rfl) (by rfl) (fun A9 hO9 hN9 => ?_)
                (try clear hO hN)
                have hO := hO9
                have hN := hN9
                clear hO9 hN9
                refine wpAnyH_take (i := 14) (oi := ⟨_, _, _, _, _, _⟩) (v := .int .i64 (vm - 10)) rfl (by kernel_rfl) (by kernel_rfl) (by kernel_rfl) (fun _ _ _ h => h) (Or.inl ⟨by rfl, ?_⟩) (by assumption) ?_
                · intro w hSw; (try dsimp only at hSw); go_split_ands; have f1 := hN.get 84 rfl; dsimp only at f1; go_simp; try with_reducible rfl
                (try dsimp only [List.setIfInBounds_toArray, List.set_cons_zero, List.set_cons_succ])
                refine wpAnyH_put hO hn0.out hN (by rfl) (by rfl) (by rfl) (fun A9 hO9 hN9 => ?_)
                (try clear hO hN)
                have hO := hO9
                have hN := hN9
                clear hO9 hN9
                obtain ⟨ov, ex⟩ : ∃ ov, wq.cell? ⟨w.heap.size + 1 + 1, 0, none⟩ = some ov := ⟨_, hD.ev.cell 0⟩
                have ez := hD.ev.frozen 0
                refine wpAnyH_ready (rs := [0, 16]) (by kernel_rfl) (by simp) ?_
                refine AllReadyH.cons rfl (fun K hK => ?_) (AllReadyH.cons rfl (fun K hK => ?_) AllReadyH.nil)
                · clear ex ez
                  (try go_simp)
                  refine hK.out _ _ (And.intro ((hD.alloc _).cmd.cell 1) (And.intro ((hD.alloc _).cmd.cell 3) ((hD.alloc _).cmd.cell 4))) (fun hH9 => ?_)
                  clear hK K hH9
                  obtain ⟨q, hq⟩ : ∃ q, wq.heap.size = q := ⟨_, rfl⟩
                  have hqs := hD.size
                  rw [hq] at hqs ⊢
                  refine wpAnyH_more (S' := fun w' => (w'.cell? ⟨w.heap.size, 1, none⟩ = some (.int .i64 ca) ∧ w'.cell? ⟨w.heap.size, 3, none⟩ = some (.int .i64 cd) ∧ w'.cell? ⟨w.heap.size, 4, none⟩ = some (.int .i64 cv)) ∧ w'.cell? ⟨q, j, none⟩ = some (.string (names3 j))) (fun _ h => h.1) _ _ _ _ ?_
                  refine wpAnyH_world (fun X => DoSt w X _ _ ∧ X.cell? ⟨q, j, none⟩ = some (.string (names3 j))) (And.intro (hD.alloc _) (tab3 hj3 wq q hq)) (fun WA hD3 => ?_)
                  clear hH hD hq
                  obtain ⟨hD, hTb⟩ := hD3
                  have hH : (WA.cell? ⟨w.heap.size, 1, none⟩ = some (.int .i64 ca) ∧ WA.cell? ⟨w.heap.size, 3, none⟩ = some (.int .i64 cd) ∧ WA.cell? ⟨w.heap.size, 4, none⟩ = some (.int .i64 cv)) ∧ WA.cell? ⟨q, j, none⟩ = some (.string (names3 j)) := And.intro (And.intro (hD.cmd.cell 1) (And.intro (hD.cmd.cell 3) (hD.cmd.cell 4))) hTb
                  (try dsimp only [List.setIfInBounds_toArray, List.set_cons_zero, List.set_cons_succ])
                  refine wpAnyH_put hO hn0.out hN (by rfl) (by rfl) (by rfl) (fun A9 hO9 hN9 => ?_)
                  (try clear hO hN)
                  have hO := hO9
                  have hN := hN9
                  clear hO9 hN9
                  refine wpAnyH_take (i := 4) (oi := ⟨_, _, _, _, _, _⟩) (v := ?_) rfl (by kernel_rfl) (by kernel_rfl) (by kernel_rfl) (fun _ _ _ h => h) (Or.inl ⟨by rfl, ?_⟩) (by assumption) ?_
                  rotate_left
                  · intro w hSw; (try dsimp only at hSw); go_split_ands; have f1 := hN.get 71 rfl; have f2 := hN.get 74 rfl; dsimp only at f1 f2; go_simp; try with_reducible rfl
                  (try dsimp only [List.setIfInBounds_toArray, List.set_cons_zero, List.set_cons_succ])
                  refine wpAnyH_put hO hn0.out hN (by rfl) (by rfl) (by rfl) (fun A9 hO9 hN9 => ?_)
                  (try clear hO hN)
                  have hO := hO9
                  have hN := hN9
                  clear hO9 hN9
                  refine wpAnyH_take (i := 5) (oi := ⟨_, _, _, _, _, _⟩) (v := ?_) rfl (by kernel_rfl) (by kernel_rfl) (by kernel_rfl) (fun _ _ _ h => h) (Or.inl ⟨by rfl, ?_⟩) (by assumption) ?_
                  rotate_left
                  · intro w hSw; (try dsimp only at hSw); go_split_ands; have f1 := hN.get 75 rfl; dsimp only at f1; go_simp; try with_reducible rfl
                  (try dsimp only [List.setIfInBounds_toArray, List.set_cons_zero, List.set_cons_succ])
                  refine wpAnyH_put hO hn0.out hN (by rfl) (by rfl) (by rfl) (fun A9 hO9 hN9 => ?_)
                  (try clear hO hN)
                  have hO := hO9
                  have hN := hN9
                  clear hO9 hN9
                  exact key3 q A9 WA ⟨hD, hTb, hqs, hO, hN.sub ⟨rfl, rfl, rfl, rfl, rfl, rfl, trivial⟩⟩
                · clear key1 key2 key3
                  have f1 := hN.get 86 rfl
                  (try dsimp only at f1)
                  (try dsimp only at f2)
                  (try go_simp)
                  have hD2 := hD.set 0 (.int .i64 3)
                  refine hK.out _ _ (And.intro (hD2.cmd.cell 1) (And.intro (hD2.cmd.cell 3) (hD2.cmd.cell 4))) (fun hH9 => ?_)
                  (try dsimp only [Act.put_no, List.setIfInBounds_toArray, List.set_cons_zero, List.set_cons_succ])
                  refine wpAnyH_world (fun W => DoSt w W _ _) hD2 (fun W2 hD3 => ?_)
                  clear hK K hH hH9 hD2 hD ex ez
                  (try clear f1)
                  (try clear f2)
                  have hD := hD3
                  have hH : W2.cell? ⟨w.heap.size, 1, none⟩ = some (.int .i64 ca) ∧ W2.cell? ⟨w.heap.size, 3, none⟩ = some (.int .i64 cd) ∧ W2.cell? ⟨w.heap.size, 4, none⟩ = some (.int .i64 cv) := (And.intro (hD3.cmd.cell 1) (And.intro (hD3.cmd.cell 3) (hD3.cmd.cell 4)))
                  clear hD3
                  refine wpAnyH_ready (rs := [0]) (by kernel_rfl) (by simp) ?_
                  refine AllReadyH.cons rfl (fun K hK => ?_) AllReadyH.nil
                  (try go_simp)
                  refine hK.out _ _ (And.intro ((hD.alloc _).cmd.cell 1) (And.intro ((hD.alloc _).cmd.cell 3) ((hD.alloc _).cmd.cell 4))) (fun hH9 => ?_)
                  clear hK K hH9
                  obtain ⟨q, hq⟩ : ∃ q, W2.heap.size = q := ⟨_, rfl⟩
                  have hqs := hD.size
                  rw [hq] at hqs ⊢
                  refine wpAnyH_more (S' := fun w' => (w'.cell? ⟨w.heap.size, 1, none⟩ = some (.int .i64 ca) ∧ w'.cell? ⟨w.heap.size, 3, none⟩ = some (.int .i64 cd) ∧ w'.cell? ⟨w.heap.size, 4, none⟩ = some (.int .i64 cv)) ∧ w'.cell? ⟨q, j, none⟩ = some (.string (names3 j))) (fun _ h => h.1) _ _ _ _ ?_
                  refine wpAnyH_world (fun X => DoSt w X _ _ ∧ X.cell? ⟨q, j, none⟩ = some (.string (names3 j))) (And.intro (hD.alloc _) (tab3 hj3 W2 q hq)) (fun WA hD3 => ?_)
                  clear hH hD hq
                  obtain ⟨hD, hTb⟩ := hD3
                  have hH : (WA.cell? ⟨w.heap.size, 1, none⟩ = some (.int .i64 ca) ∧ WA.cell? ⟨w.heap.size, 3, none⟩ = some (.int .i64 cd) ∧ WA.cell? ⟨w.heap.size, 4, none⟩ = some (.int .i64 cv)) ∧ WA.cell? ⟨q, j, none⟩ = some (.string (names3 j)) := And.intro (And.intro (hD.cmd.cell 1) (And.intro (hD.cmd.cell 3) (hD.cmd.cell 4))) hTb
                  (try dsimp only [List.setIfInBounds_toArray, List.set_cons_zero, List.set_cons_succ])
                  refine wpAnyH_put hO hn0.out hN (by rfl) (by rfl) (by rfl) (fun A9 hO9 hN9 => ?_)
                  (try clear hO hN)
                  have hO := hO9
                  have hN := hN9
                  clear hO9 hN9
                  refine wpAnyH_take (i := 4) (oi := ⟨_, _, _, _, _, _⟩) (v := ?_) rfl (by kernel_rfl) (by kernel_rfl) (by kernel_rfl) (fun _ _ _ h => h) (Or.inl ⟨by rfl, ?_⟩) (by assumption) ?_
                  rotate_left
                  · intro w hSw; (try dsimp only at hSw); go_split_ands; have f1 := hN.get 71 rfl; have f2 := hN.get 74 rfl; dsimp only at f1 f2; go_simp; try with_reducible rfl
                  (try dsimp only [List.setIfInBounds_toArray, List.set_cons_zero, List.set_cons_succ])
                  refine wpAnyH_put hO hn0.out hN (by rfl) (by rfl) (by rfl) (fun A9 hO9 hN9 => ?_)
                  (try clear hO hN)
                  have hO := hO9
                  have hN := hN9
                  clear hO9 hN9
                  refine wpAnyH_take (i := 5) (oi := ⟨_, _, _, _, _, _⟩) (v := ?_) rfl (by kernel_rfl) (by kernel_rfl) (by kernel_rfl) (fun _ _ _ h => h) (Or.inl ⟨by rfl, ?_⟩) (by assumption) ?_
                  rotate_left
                  · intro w hSw; (try dsimp only at hSw); go_split_ands; have f1 := hN.get 75 rfl; dsimp only at f1; go_simp; try with_reducible rfl
                  (try dsimp only [List.setIfInBounds_toArray, List.set_cons_zero, List.set_cons_succ])
                  refine wpAnyH_put hO hn0.out hN (by rfl) (by rfl) (by rfl) (fun A9 hO9 hN9 => ?_)
                  (try clear hO hN)
                  have hO := hO9
                  have hN := hN9
                  clear hO9 hN9
                  refine wpAnyH_take (i := 17) (oi := ⟨_, _, _, _, _, _⟩) (v := ?_) rfl (by kernel_rfl) (by kernel_rfl) (by kernel_rfl) (fun _ _ _ h => h) (Or.inl ⟨by rfl, ?_⟩) (by assumption) ?_
                  rotate_left
                  · intro w hSw; (try dsimp only at hSw); go_split_ands; have f1 := hN.get 7 rfl; dsimp only at f1; go_simp; try with_reducible rfl
                  (try dsimp only [List.setIfInBounds_toArray, List.set_cons_zero, List.set_cons_succ])
                  refine wpAnyH_put hO hn0.out hN (by rfl) (by rfl) (by rfl) (fun A9 hO9 hN9 => ?_)
                  (try clear hO hN)
                  have hO := hO9
                  have hN := hN9
                  clear hO9 hN9
                  obtain ⟨ov, ex⟩ : ∃ ov, WA.cell? ⟨w.heap.size + 1 + 1, 2, none⟩ = some ov := ⟨_, hD.ev.cell 2⟩
                  have ez := hD.ev.frozen 2
                  have hD2 := hD.set 2 (.string (names3 j))
                  have hTb2 := gb_cell (gb_set (w := WA) (g := w.heap.size + 1 + 1) 2 (.string (names3 j))) (by omega) hTb
                  refine wpAnyH_ready (rs := [18]) (by kernel_rfl) (by simp) ?_
                  refine AllReadyH.cons rfl (fun K hK => ?_) AllReadyH.nil
                  have f1 := hN.get 87 rfl; have f2 := hN.get 76 rfl
                  (try dsimp only at f1)
                  (try dsimp only at f2)
                  (try go_simp)
                  refine hK.out _ _ (And.intro (And.intro (hD2.cmd.cell 1) (And.intro (hD2.cmd.cell 3) (hD2.cmd.cell 4))) hTb2) (fun hH9 => ?_)
                  (try dsimp only [Act.put_no, List.setIfInBounds_toArray, List.set_cons_zero, List.set_cons_succ])
                  refine wpAnyH_world (fun W => DoSt w W _ _ ∧ W.cell? ⟨q, j, none⟩ = some (.string (names3 j))) (And.intro hD2 hTb2) (fun W3 hD3 => ?_)
                  clear hK K hH hH9 hD2 hTb2 hD hTb ex ez ov
                  (try clear f1)
                  (try clear f2)
                  obtain ⟨hD, hTb⟩ := hD3
                  have hH : (W3.cell? ⟨w.heap.size, 1, none⟩ = some (.int .i64 ca) ∧ W3.cell? ⟨w.heap.size, 3, none⟩ = some (.int .i64 cd) ∧ W3.cell? ⟨w.heap.size, 4, none⟩ = some (.int .i64 cv)) ∧ W3.cell? ⟨q, j, none⟩ = some (.string (names3 j)) := And.intro (And.intro (hD.cmd.cell 1) (And.intro (hD.cmd.cell 3) (hD.cmd.cell 4))) hTb
                  refine wpAnyH_take (i := 19) (oi := ⟨_, _, _, _, _, _⟩) (v := ?_) rfl (by kernel_rfl) (by kernel_rfl) (by kernel_rfl) (fun _ _ _ h => h) (Or.inl ⟨by rfl, ?_⟩) (by assumption) ?_
                  rotate_left
                  · intro w hSw; (try dsimp only at hSw); go_split_ands; have f1 := hN.get 7 rfl; dsimp only at f1; go_simp; try with_reducible rfl
                  (try dsimp only [List.setIfInBounds_toArray, List.set_cons_zero, List.set_cons_succ])
                  refine wpAnyH_put hO hn0.out hN (by rfl) (by rfl) (by rfl) (fun A9 hO9 hN9 => ?_)
                  (try clear hO hN)
                  have hO := hO9
                  have hN := hN9
                  clear hO9 hN9
                  obtain ⟨ov, ex⟩ : ∃ ov, W3.cell? ⟨w.heap.size + 1 + 1, 5, none⟩ = some ov := ⟨_, hD.ev.cell 5⟩
                  have ez := hD.ev.frozen 5
                  have hD2 := hD.set 5 (.int .i64 dm)
                  have hTb2 := gb_cell (gb_set (w := W3) (g := w.heap.size + 1 + 1) 5 (.int .i64 dm)) (by omega) hTb
                  refine wpAnyH_ready (rs := [20]) (by kernel_rfl) (by simp) ?_
                  refine AllReadyH.cons rfl (fun K hK => ?_) AllReadyH.nil
                  have f1 := hN.get 88 rfl; have f2 := hN.get 81 rfl
                  (try dsimp only at f1)
                  (try dsimp only at f2)
                  (try go_simp)
                  refine hK.out _ _ (And.intro (And.intro (hD2.cmd.cell 1) (And.intro (hD2.cmd.cell 3) (hD2.cmd.cell 4))) hTb2) (fun hH9 => ?_)
                  (try dsimp only [Act.put_no, List.setIfInBounds_toArray, List.set_cons_zero, List.set_cons_succ])
                  refine wpAnyH_world (fun W => DoSt w W _ _ ∧ W.cell? ⟨q, j, none⟩ = some (.string (names3 j))) (And.intro hD2 hTb2) (fun W4 hD3 => ?_)
                  clear hK K hH hH9 hD2 hTb2 hD hTb ex ez ov
                  (try clear f1)
                  (try clear f2)
                  obtain ⟨hD, hTb⟩ := hD3
                  have hH : (W4.cell? ⟨w.heap.size, 1, none⟩ = some (.int .i64 ca) ∧ W4.cell? ⟨w.heap.size, 3, none⟩ = some (.int .i64 cd) ∧ W4.cell? ⟨w.heap.size, 4, none⟩ = some (.int .i64 cv)) ∧ W4.cell? ⟨q, j, none⟩ = some (.string (names3 j)) := And.intro (And.intro (hD.cmd.cell 1) (And.intro (hD.cmd.cell 3) (hD.cmd.cell 4))) hTb
                  refine wpAnyH_take (i := 21) (oi := ⟨_, _, _, _, _, _⟩) (v := ?_) rfl (by kernel_rfl) (by kernel_rfl) (by kernel_rfl) (fun _ _ _ h => h) (Or.inl ⟨by rfl, ?_⟩) (by assumption) ?_
                  rotate_left
                  · intro w hSw; (try dsimp only at hSw); go_split_ands; have f1 := hN.get 7 rfl; dsimp only at f1; go_simp; try with_reducible rfl
                  (try dsimp only [List.setIfInBounds_toArray, List.set_cons_zero, List.set_cons_succ])
                  refine wpAnyH_put hO hn0.out hN (by rfl) (by rfl) (by rfl) (fun A9 hO9 hN9 => ?_)
                  (try clear hO hN)
                  have hO := hO9
                  have hN := hN9
                  clear hO9 hN9
                  obtain ⟨ov, ex⟩ : ∃ ov, W4.cell? ⟨w.heap.size + 1 + 1, 6, none⟩ = some ov := ⟨_, hD.ev.cell 6⟩
                  have ez := hD.ev.frozen 6
                  have hD2 := hD.set 6 (.int .i64 (vm - 10))
                  have hTb2 := gb_cell (gb_set (w := W4) (g := w.heap.size + 1 + 1) 6 (.int .i64 (vm - 10))) (by omega) hTb
                  refine wpAnyH_ready (rs := [22]) (by kernel_rfl) (by simp) ?_
                  refine AllReadyH.cons rfl (fun K hK => ?_) AllReadyH.nil
                  have f1 := hN.get 89 rfl; have f2 := hN.get 85 rfl
                  (try dsimp only at f1)
                  (try dsimp only at f2)
                  (try go_simp)
                  refine hK.out _ _ (And.intro (And.intro (hD2.cmd.cell 1) (And.intro (hD2.cmd.cell 3) (hD2.cmd.cell 4))) hTb2) (fun hH9 => ?_)
                  (try dsimp only [Act.put_no, List.setIfInBounds_toArray, List.set_cons_zero, List.set_cons_succ])
                  refine wpAnyH_world (fun W => DoSt w W _ _ ∧ W.cell? ⟨q, j, none⟩ = some (.string (names3 j))) (And.intro hD2 hTb2) (fun W5 hD3 => ?_)
                  clear hK K hH hH9 hD2 hTb2 hD hTb ex ez ov
                  (try clear f1)
                  (try clear f2)
                  obtain ⟨hD, hTb⟩ := hD3
                  have hH : (W5.cell? ⟨w.heap.size, 1, none⟩ = some (.int .i64 ca) ∧ W5.cell? ⟨w.heap.size, 3, none⟩ = some (.int .i64 cd) ∧ W5.cell? ⟨w.heap.size, 4, none⟩ = some (.int .i64 cv)) ∧ W5.cell? ⟨q, j, none⟩ = some (.string (names3 j)) := And.intro (And.intro (hD.cmd.cell 1) (And.intro (hD.cmd.cell 3) (hD.cmd.cell 4))) hTb
                  refine wpAnyH_done (by kernel_rfl) ?_ _
                  refine NoPanic.normal ?_
                  obtain ⟨fo, hfo⟩ := hO.lit HA0.out
                  clear hO hN
                  dsimp only [putL, List.set_cons_zero, List.set_cons_succ] at hfo
                  subst hfo
                  go_wp2_with fail
                  go_meet
                  have hD4 := hD
                  simp only [List.setIfInBounds_toArray, List.set_cons_zero, List.set_cons_succ] at hD4
                  exact hD4
        case kp =>
          intro q A9 WA hT
          obtain ⟨hD, hTb, hqs, hO, hN⟩ := hT
          have hH : (WA.cell? ⟨w.heap.size, 1, none⟩ = some (.int .i64 ca) ∧ WA.cell? ⟨w.heap.size, 3, none⟩ = some (.int .i64 cd) ∧ WA.cell? ⟨w.heap.size, 4, none⟩ = some (.int .i64 cv)) ∧ WA.cell? ⟨q, j, none⟩ = some (.string (names3 j)) := And.intro (And.intro (hD.cmd.cell 1) (And.intro (hD.cmd.cell 3) (hD.cmd.cell 4))) hTb
          refine wpAnyH_take (i := 4) (oi := ⟨_, _, _, _, _, _⟩) (v := ?_) rfl (by kernel_rfl) (by kernel_rfl) (by kernel_rfl) (fun _ _ _ h => h) (Or.inl ⟨by rfl, ?_⟩) (by assumption) ?_
          rotate_left
          · intro w hSw; (try dsimp only at hSw); go_split_ands; have f1 := hN.get 71 rfl; have f2 := hN.get 74 rfl; dsimp only at f1 f2; go_simp; try with_reducible rfl
          (try dsimp only [List.setIfInBounds_toArray, List.set_cons_zero, List.set_cons_succ])
          refine wpAnyH_put hO hn0.out hN (by rfl) (by rfl) (by rfl) (fun A9 hO9 hN9 => ?_)
          (try clear hO hN)
          have hO := hO9
          have hN := hN9
          clear hO9 hN9
          refine wpAnyH_take (i := 5) (oi := ⟨_, _, _, _, _, _⟩) (v := ?_) rfl (by kernel_rfl) (by kernel_rfl) (by kernel_rfl) (fun _ _ _ h => h) (Or.inl ⟨by rfl, ?_⟩) (by assumption) ?_
          rotate_left
          · intro w hSw; (try dsimp only at hSw); go_split_ands; have f1 := hN.get 75 rfl; dsimp only at f1; go_simp; try with_reducible rfl
          (try dsimp only [List.setIfInBounds_toArray, List.set_cons_zero, List.set_cons_succ])
          refine wpAnyH_put hO hn0.out hN (by rfl) (by rfl) (by rfl) (fun A9 hO9 hN9 => ?_)
          (try clear hO hN)
          have hO := hO9
          have hN := hN9
          clear hO9 hN9
          refine wpAnyH_ready (rs := [10]) (by kernel_rfl) (by simp) ?_
          refine AllReadyH.cons rfl (fun K hK => ?_) AllReadyH.nil
          have f1 := hN.get 78 rfl
          have f2 := hN.get 80 rfl
          (try dsimp only at f1)
          (try dsimp only at f2)
          (try go_simp)
          (with_reducible refine (HW2.out _).mono ?_)
          rintro e wq ⟨rfl, rfl⟩
          (try go_simp)
          refine hK.out _ _ hH (fun hH9 => ?_)
          clear hK K hH9
          (try clear f1)
          (try clear f2)
          (try dsimp only [List.setIfInBounds_toArray, List.set_cons_zero, List.set_cons_succ])
          refine wpAnyH_put hO hn0.out hN (by rfl) (by rfl) (by rfl) (fun A9 hO9 hN9 => ?_)
          (try clear hO hN)
          have hO := hO9
          have hN := hN9
          clear hO9 hN9
          exact key2 q A9 wq ⟨hD, hTb, hqs, hO, hN.sub ⟨rfl, rfl, rfl, rfl, rfl, rfl, trivial⟩⟩
      case kp =>
        intro q A9 WA hT
        obtain ⟨hD, hTb, hqs, hO, hN⟩ := hT
        have hH : (WA.cell? ⟨w.heap.size, 1, none⟩ = some (.int .i64 ca) ∧ WA.cell? ⟨w.heap.size, 3, none⟩ = some (.int .i64 cd) ∧ WA.cell? ⟨w.heap.size, 4, none⟩ = some (.int .i64 cv)) ∧ WA.cell? ⟨q, j, none⟩ = some (.string (names3 j)) := And.intro (And.intro (hD.cmd.cell 1) (And.intro (hD.cmd.cell 3) (hD.cmd.cell 4))) hTb
        refine wpAnyH_ready (rs := [13]) (by kernel_rfl) (by simp) ?_
        refine AllReadyH.cons rfl (fun K hK => ?_) AllReadyH.nil
        have f1 := hN.get 83 rfl
        (try dsimp only at f1)
        (try dsimp only at f2)
        (try go_simp)
        (with_reducible refine (HW3.out _).mono ?_)
        rintro e wq ⟨rfl, rfl⟩
        (try go_simp)
        refine hK.out _ _ hH (fun hH9 => ?_)
        clear hK K hH9
        (try clear f1)
        (try clear f2)
        (try dsimp only [List.setIfInBounds_toArray, List.set_cons_zero, List.set_cons_succ])
        refine wpAnyH_put hO hn0.out hN (by rfl) (by rfl) (by rfl) (fun A9 hO9 hN9 => ?_)
        (try clear hO hN)
        have hO := hO9
        have hN := hN9
        clear hO9 hN9
        refine wpAnyH_take (i := 14) (oi := ⟨_, _, _, _, _, _⟩) (v := .int .i64 (vm - 10)) rfl (by kernel_rfl) (by kernel_rfl) (by kernel_rfl) (fun _ _ _ h => h) (Or.inl ⟨by rfl, ?_⟩) (by assumption) ?_
        · intro w hSw; (try dsimp only at hSw); go_split_ands; have f1 := hN.get 84 rfl; dsimp only at f1; go_simp; try with_reducible rfl
        (try dsimp only [List.setIfInBounds_toArray, List.set_cons_zero, List.set_cons_succ])
        refine wpAnyH_put hO hn0.out hN (by rfl) (by rfl) (by rfl) (fun A9 hO9 hN9 => ?_)
        (try clear hO hN)
        have hO := hO9
        have hN := hN9
        clear hO9 hN9
        exact key3 q A9 wq ⟨hD, hTb, hqs, hO, hN.sub ⟨rfl, rfl, rfl, rfl, rfl, rfl, trivial⟩⟩
    case kp =>
      intro q A9 WA hT
      obtain ⟨hD, hTb, hqs, hO, hN⟩ := hT
      have hH : (WA.cell? ⟨w.heap.size, 1, none⟩ = some (.int .i64 ca) ∧ WA.cell? ⟨w.heap.size, 3, none⟩ = some (.int .i64 cd) ∧ WA.cell? ⟨w.heap.size, 4, none⟩ = some (.int .i64 cv)) ∧ WA.cell? ⟨q, j, none⟩ = some (.string (names3 j)) := And.intro (And.intro (hD.cmd.cell 1) (And.intro (hD.cmd.cell 3) (hD.cmd.cell 4))) hTb
      obtain ⟨ov, ex⟩ : ∃ ov, WA.cell? ⟨w.heap.size + 1 + 1, 0, none⟩ = some ov := ⟨_, hD.ev.cell 0⟩
      have ez := hD.ev.frozen 0
      have hD2 := hD.set 0 (.int .i64 3)
      have hTb2 := gb_cell (gb_set (w := WA) (g := w.heap.size + 1 + 1) 0 (.int .i64 3)) (by omega) hTb
      refine wpAnyH_ready (rs := [16]) (by kernel_rfl) (by simp) ?_
      refine AllReadyH.cons rfl (fun K hK => ?_) AllReadyH.nil
      have f1 := hN.get 86 rfl
      (try dsimp only at f1)
      (try dsimp only at f2)
      (try go_simp)
      refine hK.out _ _ (And.intro (And.intro (hD2.cmd.cell 1) (And.intro (hD2.cmd.cell 3) (hD2.cmd.cell 4))) hTb2) (fun hH9 => ?_)
      (try dsimp only [Act.put_no, List.setIfInBounds_toArray, List.set_cons_zero, List.set_cons_succ])
      refine wpAnyH_world (fun W => DoSt w W _ _ ∧ W.cell? ⟨q, j, none⟩ = some (.string (names3 j))) (And.intro hD2 hTb2) (fun W2 hD3 => ?_)
      clear hK K hH hH9 hD2 hTb2 hD hTb ex ez ov
      (try clear f1)
      (try clear f2)
      obtain ⟨hD, hTb⟩ := hD3
      have hH : (W2.cell? ⟨w.heap.size, 1, none⟩ = some (.int .i64 ca) ∧ W2.cell? ⟨w.heap.size, 3, none⟩ = some (.int .i64 cd) ∧ W2.cell? ⟨w.heap.size, 4, none⟩ = some (.int .i64 cv)) ∧ W2.cell? ⟨q, j, none⟩ = some (.string (names3 j)) := And.intro (And.intro (hD.cmd.cell 1) (And.intro (hD.cmd.cell 3) (hD.cmd.cell 4))) hTb
      refine wpAnyH_take (i := 17) (oi := ⟨_, _, _, _, _, _⟩) (v := ?_) rfl (by kernel_rfl) (by kernel_rfl) (by kernel_rfl) (fun _ _ _ h => h) (Or.inl ⟨by rfl, ?_⟩) (by assumption) ?_
      rotate_left
      · intro w hSw; (try dsimp only at hSw); go_split_ands; have f1 := hN.get 7 rfl; dsimp only at f1; go_simp; try with_reducible rfl
      (try dsimp only [List.setIfInBounds_toArray, List.set_cons_zero, List.set_cons_succ])
      refine wpAnyH_put hO hn0.out hN (by rfl) (by rfl) (by rfl) (fun A9 hO9 hN9 => ?_)
      (try clear hO hN)
      have hO := hO9
      have hN := hN9
      clear hO9 hN9
      obtain ⟨ov, ex⟩ : ∃ ov, W2.cell? ⟨w.heap.size + 1 + 1, 2, none⟩ = some ov := ⟨_, hD.ev.cell 2⟩
      have ez := hD.ev.frozen 2
      have hD2 := hD.set 2 (.string (names3 j))
      have hTb2 := gb_cell (gb_set (w := W2) (g := w.heap.size + 1 + 1) 2 (.string (names3 j))) (by omega) hTb
      refine wpAnyH_ready (rs := [18]) (by kernel_rfl) (by simp) ?_
      refine AllReadyH.cons rfl (fun K hK => ?_) AllReadyH.nil
      have f1 := hN.get 87 rfl; have f2 := hN.get 76 rfl
      (try dsimp only at f1)
      (try dsimp only at f2)
      (try go_simp)
      refine hK.out _ _ (And.intro (And.intro (hD2.cmd.cell 1) (And.intro (hD2.cmd.cell 3) (hD2.cmd.cell 4))) hTb2) (fun hH9 => ?_)
      (try dsimp only [Act.put_no, List.setIfInBounds_toArray, List.set_cons_zero, List.set_cons_succ])
      refine wpAnyH_world (fun W => DoSt w W _ _ ∧ W.cell? ⟨q, j, none⟩ = some (.string (names3 j))) (And.intro hD2 hTb2) (fun W3 hD3 => ?_)
      clear hK K hH hH9 hD2 hTb2 hD hTb ex ez ov
      (try clear f1)
      (try clear f2)
      obtain ⟨hD, hTb⟩ := hD3
      have hH : (W3.cell? ⟨w.heap.size, 1, none⟩ = some (.int .i64 ca) ∧ W3.cell? ⟨w.heap.size, 3, none⟩ = some (.int .i64 cd) ∧ W3.cell? ⟨w.heap.size, 4, none⟩ = some (.int .i64 cv)) ∧ W3.cell? ⟨q, j, none⟩ = some (.string (names3 j)) := And.intro (And.intro (hD.cmd.cell 1) (And.intro (hD.cmd.cell 3) (hD.cmd.cell 4))) hTb
      refine wpAnyH_take (i := 19) (oi := ⟨_, _, _, _, _, _⟩) (v := ?_) rfl (by kernel_rfl) (by kernel_rfl) (by kernel_rfl) (fun _ _ _ h => h) (Or.inl ⟨by rfl, ?_⟩) (by assumption) ?_
      rotate_left
      · intro w hSw; (try dsimp only at hSw); go_split_ands; have f1 := hN.get 7 rfl; dsimp only at f1; go_simp; try with_reducible rfl
      (try dsimp only [List.setIfInBounds_toArray, List.set_cons_zero, List.set_cons_succ])
      refine wpAnyH_put hO hn0.out hN (by rfl) (by rfl) (by rfl) (fun A9 hO9 hN9 => ?_)
      (try clear hO hN)
      have hO := hO9
      have hN := hN9
      clear hO9 hN9
      obtain ⟨ov, ex⟩ : ∃ ov, W3.cell? ⟨w.heap.size + 1 + 1, 5, none⟩ = some ov := ⟨_, hD.ev.cell 5⟩
      have ez := hD.ev.frozen 5
      have hD2 := hD.set 5 (.int .i64 dm)
      have hTb2 := gb_cell (gb_set (w := W3) (g := w.heap.size + 1 + 1) 5 (.int .i64 dm)) (by omega) hTb
      refine wpAnyH_ready (rs := [20]) (by kernel_rfl) (by simp) ?_
      refine AllReadyH.cons rfl (fun K hK => ?_) AllReadyH.nil
      have f1 := hN.get 88 rfl; have f2 := hN.get 81 rfl
      (try dsimp only at f1)
      (try dsimp only at f2)
      (try go_simp)
      refine hK.out _ _ (And.intro (And.intro (hD2.cmd.cell 1) (And.intro (hD2.cmd.cell 3) (hD2.cmd.cell 4))) hTb2) (fun hH9 => ?_)
      (try dsimp only [Act.put_no, List.setIfInBounds_toArray, List.set_cons_zero, List.set_cons_succ])
      refine wpAnyH_world (fun W => DoSt w W _ _ ∧ W.cell? ⟨q, j, none⟩ = some (.string (names3 j))) (And.intro hD2 hTb2) (fun W4 hD3 => ?_)
      clear hK K hH hH9 hD2 hTb2 hD hTb ex ez ov
      (try clear f1)
      (try clear f2)
      obtain ⟨hD, hTb⟩ := hD3
      have hH : (W4.cell? ⟨w.heap.size, 1, none⟩ = some (.int .i64 ca) ∧ W4.cell? ⟨w.heap.size, 3, none⟩ = some (.int .i64 cd) ∧ W4.cell? ⟨w.heap.size, 4, none⟩ = some (.int .i64 cv)) ∧ W4.cell? ⟨q, j, none⟩ = some (.string (names3 j)) := And.intro (And.intro (hD.cmd.cell 1) (And.intro (hD.cmd.cell 3) (hD.cmd.cell 4))) hTb
      refine wpAnyH_take (i := 21) (oi := ⟨_, _, _, _, _, _⟩) (v := ?_) rfl (by kernel_rfl) (by kernel_rfl) (by kernel_rfl) (fun _ _ _ h => h) (Or.inl ⟨by rfl, ?_⟩) (by assumption) ?_
      rotate_left
      · intro w hSw; (try dsimp only at hSw); go_split_ands; have f1 := hN.get 7 rfl; dsimp only at f1; go_simp; try with_reducible rfl
      (try dsimp only [List.setIfInBounds_toArray, List.set_cons_zero, List.set_cons_succ])
      refine wpAnyH_put hO hn0.out hN (by rfl) (by rfl) (by rfl) (fun A9 hO9 hN9 => ?_)
      (try clear hO hN)
      have hO := hO9
      have hN := hN9
      clear hO9 hN9
      obtain ⟨ov, ex⟩ : ∃ ov, W4.cell? ⟨w.heap.size + 1 + 1, 6, none⟩ = some ov := ⟨_, hD.ev.cell 6⟩
      have ez := hD.ev.frozen 6
      have hD2 := hD.set 6 (.int .i64 (vm - 10))
      have hTb2 := gb_cell (gb_set (w := W4) (g := w.heap.size + 1 + 1) 6 (.int .i64 (vm - 10))) (by omega) hTb
      refine wpAnyH_ready (rs := [22]) (by kernel_rfl) (by simp) ?_
      refine AllReadyH.cons rfl (fun K hK => ?_) AllReadyH.nil
      have f1 := hN.get 89 rfl; have f2 := hN.get 85 rfl
      (try dsimp only at f1)
      (try dsimp only at f2)
      (try go_simp)
      refine hK.out _ _ (And.intro (And.intro (hD2.cmd.cell 1) (And.intro (hD2.cmd.cell 3) (hD2.cmd.cell 4))) hTb2) (fun hH9 => ?_)
      (try dsimp only [Act.put_no, List.setIfInBounds_toArray, List.set_cons_zero, List.set_cons_succ])
      refine wpAnyH_world (fun W => DoSt w W _ _ ∧ W.cell? ⟨q, j, none⟩ = some (.string (names3 j))) (And.intro hD2 hTb2) (fun W5 hD3 => ?_)
      clear hK K hH hH9 hD2 hTb2 hD hTb ex ez ov
      (try clear f1)
      (try clear f2)
      obtain ⟨hD, hTb⟩ := hD3
      have hH : (W5.cell? ⟨w.heap.size, 1, none⟩ = some (.int .i64 ca) ∧ W5.cell? ⟨w.heap.size, 3, none⟩ = some (.int .i64 cd) ∧ W5.cell? ⟨w.heap.size, 4, none⟩ = some (.int .i64 cv)) ∧ W5.cell? ⟨q, j, none⟩ = some (.string (names3 j)) := And.intro (And.intro (hD.cmd.cell 1) (And.intro (hD.cmd.cell 3) (hD.cmd.cell 4))) hTb
      refine wpAnyH_done (by kernel_rfl) ?_ _
      refine NoPanic.normal ?_
      obtain ⟨fo, hfo⟩ := hO.lit HA0.out
      clear hO hN
      dsimp only [putL, List.set_cons_zero, List.set_cons_succ] at hfo
      subst hfo
      go_wp2_with fail
      go_meet
      have hD4 := hD
      simp only [List.setIfInBounds_toArray, List.set_cons_zero, List.set_cons_succ] at hD4
      exact hD4
  clear hD0 e0 e1 e2 e3 e4 e5 e6 e7 e8 e9 e10 ez p0 p1 p2 p3 p4 p5 p6 p7 HKC2 HKE2 HKR2 HB2 HS2 HW1 HW2 HW3
  have hD := hcut
  clear hcut
  rename World => WF
  have p2 := hD.cmd.cell 2
  rw [show (#[Value.int .i64 ck, .int .i64 ca, .int .i64 cb, .int .i64 cd, .int .i64 cv, .string cw, .slice A n cc, .slice A' n' cc'] : Array Value)[2]? = some (.int .i64 cb) from rfl] at p2
  have p4 := hD.cmd.cell 4
  rw [show (#[Value.int .i64 ck, .int .i64 ca, .int .i64 cb, .int .i64 cd, .int .i64 cv, .string cw, .slice A n cc, .slice A' n' cc'] : Array Value)[4]? = some (.int .i64 cv) from rfl] at p4
  have HD := Lib.hid hD
  clear hD
  go_upto_region 15 with fail
  go_cut [97] (fun v wx => v = .bool false ∧ wx = WF)
  case first =>
    by_cases hm : cb.tmod 5 = 0
    · go_wp2_with fail
      go_meet
      exact ⟨rfl, rfl⟩
    · have hmb : (cb.tmod 5 == 0) = false := by simpa using hm
      go_wp2_with fail
      go_meet
      exact ⟨rfl, rfl⟩
  obtain ⟨rfl, rfl⟩ := hcut
  rename World => WF
  have HN3 := Lib.hid (names3_size j)
  generalize names3 j = nj at *
  have hdm : IsInt64 dm := by unfold IsInt64; omega
  have hvm : IsInt64 (vm - 10) := by unfold IsInt64; omega
  have hcv : IsInt64 cv := by unfold IsInt64; omega
  obtain ⟨vz, hvz⟩ : ∃ vz, vm - 10 = vz := ⟨_, rfl⟩
  rw [hvz] at hvm HD
  have HDM := Lib.hid hdm; have HVM := Lib.hid hvm; have HCV := Lib.hid hcv
  clear hdm hvm hcv hvz hwr1 hwr2 hd0 hd1 hv0 hv1 hj3
  by_cases hm : cb.tmod 13 = 12
  · have e6 := HD.out.ev.cell 6
    rw [show (#[Value.int .i64 3, .string ⟨#[]⟩, .string nj, .string ⟨#[]⟩, .string ⟨#[]⟩, .int .i64 dm, .int .i64 vz, .int .i64 0, .string ⟨#[]⟩, .int .i64 0, .slice none 0 0] : Array Value)[6]? = some (.int .i64 vz) from rfl] at e6
    have z6 := HD.out.ev.frozen 6
    have hD := HD.out.set 6 (.int .i64 cv)
    simp only [List.setIfInBounds_toArray, List.set_cons_zero, List.set_cons_succ] at hD
    obtain ⟨WG, hWG⟩ : ∃ WG, WF.setCell ⟨w.heap.size + 1 + 1, 6, none⟩ (.int .i64 cv) = WG := ⟨_, rfl⟩
    rw [hWG] at hD
    have HWG := Lib.hid hWG; have HDG := Lib.hid hD
    clear hWG hD
    go_upto_region 52 with fail
    rw [HWG.out]
    clear HWG HD e6 z6 p2 p4
    clear WF
    rename World => WF
    have hD := HDG.out
    have hRF := hD.res
    have hTF := TrAt.leaf (w.heap.size + 1 + 1) WF 0 ⟨#[]⟩ 0 0
    have HEF := Lib.hid hD.ev; have HRF := Lib.hid hRF; have HBF := Lib.hid hD.bel; have HTF := Lib.hid hTF; have HSF := Lib.hid hD.size
    clear hRF hTF hD
    refine do_tail (r := w.heap.size + 1) (e := w.heap.size + 1 + 1) (by kernel_rfl) (by kernel_rfl) (by kernel_rfl) HEF.out HRF.out ?_
    rename_i hK9
    refine hK9 _ _ ?_
    refine wp_ret ?_
    refine bodyPost_ret (results_E rfl _ _ (w.heap.size + 1) _ _ _ _ _ _ _ _ _ _ _ _ (by kernel_rfl) (HRF.out.set11 _ _ _ _ _ _ _ _ _ _ _)) (by kernel_rfl) ?_
    exact do_post (ev := fixX nj dm cv) HBF.out HTF.out HSF.out ⟨fixX_fit nj dm cv HN3.out HDM.out HCV.out, rfl, rfl, rfl, rfl, rfl, rfl, rfl⟩
  · have hmb : (cb.tmod 13 == 12) = false := by simpa using hm
    go_upto_region 52 with fail
    have hD := HD.out
    have hRF := hD.res
    have hTF := TrAt.leaf (w.heap.size + 1 + 1) WF 0 ⟨#[]⟩ 0 0
    have HEF := Lib.hid hD.ev; have HRF := Lib.hid hRF; have HBF := Lib.hid hD.bel; have HTF := Lib.hid hTF; have HSF := Lib.hid hD.size
    clear hRF hTF hD
    refine do_tail (r := w.heap.size + 1) (e := w.heap.size + 1 + 1) (by kernel_rfl) (by kernel_rfl) (by kernel_rfl) HEF.out HRF.out ?_
    rename_i hK9
    refine hK9 _ _ ?_
    refine wp_ret ?_
    refine bodyPost_ret (results_E rfl _ _ (w.heap.size + 1) _ _ _ _ _ _ _ _ _ _ _ _ (by kernel_rfl) (HRF.out.set11 _ _ _ _ _ _ _ _ _ _ _)) (by kernel_rfl) ?_
    exact do_post (ev := fixX nj dm vz) HBF.out HTF.out HSF.out ⟨fixX_fit nj dm vz HN3.out HDM.out HVM.out, rfl, rfl, rfl, rfl, rfl, rfl, rfl⟩
end Go.Proofs.YtapbkomicihkkaaGreatDoor
