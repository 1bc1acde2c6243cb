/- A command's event, the first kinds. -/
import Derived.Test.YtapbkomicihkkaaGreatDoorDoAG
import Derived.Test.YtapbkomicihkkaaGreatDoorSparG
import Derived.Test.YtapbkomicihkkaaGreatDoorPlan5
import Derived.Deep.RegionWith
namespace Go.Proofs.YtapbkomicihkkaaGreatDoor
open Go.RowKit
set_option linter.unusedVariables false
set_option linter.unusedSimpArgs false

theorem do_blocks (w : World) (cs : Array Value) (t : TypeId) (zs : Array Value) (u : TypeId) :
    Blk (((w.alloc (.cells cs t)).alloc (.cells zs u)).alloc (.cells zs u)) w.heap.size cs t ∧ Blk (((w.alloc (.cells cs t)).alloc (.cells zs u)).alloc (.cells zs u)) (w.heap.size + 1) zs u ∧ Blk (((w.alloc (.cells cs t)).alloc (.cells zs u)).alloc (.cells zs u)) (w.heap.size + 1 + 1) zs u ∧ (((w.alloc (.cells cs t)).alloc (.cells zs u)).alloc (.cells zs u)).heap.size = w.heap.size + 3 := by
  have s1 := alloc_size w (.cells cs t)
  have s2 := alloc_size (w.alloc (.cells cs t)) (.cells zs u)
  have s3 := alloc_size ((w.alloc (.cells cs t)).alloc (.cells zs u)) (.cells zs u)
  exact ⟨((Blk.new w cs t).below (bl_alloc (bl_refl _) _)).below (bl_alloc (bl_refl _) _), (Blk_new (w.alloc (.cells cs t)) zs u (w.heap.size + 1) (by omega)).below (bl_alloc (bl_refl _) _), Blk_new _ zs u (w.heap.size + 1 + 1) (by omega), by omega⟩
theorem Blk.eight {w : World} {r : Nat} {a0 a1 a2 a3 a4 a5 a6 a7 : Value} {t : TypeId} (h : Blk w r #[a0, a1, a2, a3, a4, a5, a6, a7] t) : w.cell? ⟨r, 0, none⟩ = some a0 ∧ w.cell? ⟨r, 1, none⟩ = some a1 ∧ w.cell? ⟨r, 2, none⟩ = some a2 ∧ w.cell? ⟨r, 3, none⟩ = some a3 ∧ w.cell? ⟨r, 4, none⟩ = some a4 ∧ w.cell? ⟨r, 5, none⟩ = some a5 ∧ w.cell? ⟨r, 6, none⟩ = some a6 ∧ w.cell? ⟨r, 7, none⟩ = some a7 :=
  ⟨h.cell 0, h.cell 1, h.cell 2, h.cell 3, h.cell 4, h.cell 5, h.cell 6, h.cell 7⟩
theorem Blk.eleven {w : World} {r : Nat} {a0 a1 a2 a3 a4 a5 a6 a7 a8 a9 a10 : Value} {t : TypeId} (h : Blk w r #[a0, a1, a2, a3, a4, a5, a6, a7, a8, a9, a10] t) : w.cell? ⟨r, 0, none⟩ = some a0 ∧ w.cell? ⟨r, 1, none⟩ = some a1 ∧ w.cell? ⟨r, 2, none⟩ = some a2 ∧ w.cell? ⟨r, 3, none⟩ = some a3 ∧ w.cell? ⟨r, 4, none⟩ = some a4 ∧ w.cell? ⟨r, 5, none⟩ = some a5 ∧ w.cell? ⟨r, 6, none⟩ = some a6 ∧ w.cell? ⟨r, 7, none⟩ = some a7 ∧ w.cell? ⟨r, 8, none⟩ = some a8 ∧ w.cell? ⟨r, 9, none⟩ = some a9 ∧ w.cell? ⟨r, 10, none⟩ = some a10 :=
  ⟨h.cell 0, h.cell 1, h.cell 2, h.cell 3, h.cell 4, h.cell 5, h.cell 6, h.cell 7, h.cell 8, h.cell 9, h.cell 10⟩
theorem Blk.set11 {w : World} {r : Nat} {a0 a1 a2 a3 a4 a5 a6 a7 a8 a9 a10 : Value} {t : TypeId} (h : Blk w r #[a0, a1, a2, a3, a4, a5, a6, a7, a8, a9, a10] t) (v0 v1 v2 v3 v4 v5 v6 v7 v8 v9 v10 : Value) : Blk (((((((((((w.setCell ⟨r, 0, none⟩ v0).setCell ⟨r, 1, none⟩ v1).setCell ⟨r, 2, none⟩ v2).setCell ⟨r, 3, none⟩ v3).setCell ⟨r, 4, none⟩ v4).setCell ⟨r, 5, none⟩ v5).setCell ⟨r, 6, none⟩ v6).setCell ⟨r, 7, none⟩ v7).setCell ⟨r, 8, none⟩ v8).setCell ⟨r, 9, none⟩ v9).setCell ⟨r, 10, none⟩ v10) r #[v0, v1, v2, v3, v4, v5, v6, v7, v8, v9, v10] t := by
  have h' := (((((((((((h.set 0 v0).set 1 v1).set 2 v2).set 3 v3).set 4 v4).set 5 v5).set 6 v6).set 7 v7).set 8 v8).set 9 v9).set 10 v10)
  simpa only [List.setIfInBounds_toArray, List.set_cons_zero, List.set_cons_succ] using h'
theorem results_E {fn : Func} {t : Tmp} (h : fn.results = #[.cell t 35]) (tmps : Array Value) (W : World) (r : Nat) (a0 a1 a2 a3 a4 a5 a6 a7 a8 a9 a10 : Value) (ty : TypeId) (ht : tmps.getD t undef = .pointer (some ⟨r, 0, none⟩)) (hk : Blk W r #[a0, a1, a2, a3, a4, a5, a6, a7, a8, a9, a10] ty) :
    (results fn tmps).run Tryz.prog W = .ok (.agg #[a0, a1, a2, a3, a4, a5, a6, a7, a8, a9, a10]) W := by
  obtain ⟨k0, k1, k2, k3, k4, k5, k6, k7, k8, k9, k10⟩ := hk.eleven
  have ht' : tmps[t]?.getD undef = .pointer (some ⟨r, 0, none⟩) := by simpa using ht
  simp [results, h, ht', go_sem, k0, k1, k2, k3, k4, k5, k6, k7, k8, k9, k10]
theorem gb_set11 (w : World) (r : Nat) (v0 v1 v2 v3 v4 v5 v6 v7 v8 v9 v10 : Value) : w.grownBy (((((((((((w.setCell ⟨r, 0, none⟩ v0).setCell ⟨r, 1, none⟩ v1).setCell ⟨r, 2, none⟩ v2).setCell ⟨r, 3, none⟩ v3).setCell ⟨r, 4, none⟩ v4).setCell ⟨r, 5, none⟩ v5).setCell ⟨r, 6, none⟩ v6).setCell ⟨r, 7, none⟩ v7).setCell ⟨r, 8, none⟩ v8).setCell ⟨r, 9, none⟩ v9).setCell ⟨r, 10, none⟩ v10) (some r) := gb_sets r [(0, v0), (1, v1), (2, v2), (3, v3), (4, v4), (5, v5), (6, v6), (7, v7), (8, v8), (9, v9), (10, v10)] w
theorem do_post {w W : World} {ev : Ev} {vk vd vv : Int} {si sn sl sc : ByteArray} {c0 c1 c2 c3 : Value} (hB : Below w.heap.size w W) (hT : TrAt (w.heap.size + 1 + 1) W ev.term.tr (.agg #[c0, c1, c2, c3])) (hS : w.heap.size + 1 + 1 < W.heap.size) (h : ev.fit ∧ vk = ev.kind ∧ si = ev.id ∧ sn = ev.name ∧ sl = ev.label ∧ sc = ev.cur ∧ vd = ev.day ∧ vv = ev.value) :
    ∃ (v : Ev) (x : Value), Ending.returned (.agg #[.int .i64 vk, .string si, .string sn, .string sl, .string sc, .int .i64 vd, .int .i64 vv, c0, c1, c2, c3]) = .returned x ∧ EvAt w.heap.size (((((((((((W.setCell ⟨w.heap.size + 1, 0, none⟩ (.int .i64 vk)).setCell ⟨w.heap.size + 1, 1, none⟩ (.string si)).setCell ⟨w.heap.size + 1, 2, none⟩ (.string sn)).setCell ⟨w.heap.size + 1, 3, none⟩ (.string sl)).setCell ⟨w.heap.size + 1, 4, none⟩ (.string sc)).setCell ⟨w.heap.size + 1, 5, none⟩ (.int .i64 vd)).setCell ⟨w.heap.size + 1, 6, none⟩ (.int .i64 vv)).setCell ⟨w.heap.size + 1, 7, none⟩ c0).setCell ⟨w.heap.size + 1, 8, none⟩ c1).setCell ⟨w.heap.size + 1, 9, none⟩ c2).setCell ⟨w.heap.size + 1, 10, none⟩ c3) v x ∧ v.fit ∧ Below w.heap.size w (((((((((((W.setCell ⟨w.heap.size + 1, 0, none⟩ (.int .i64 vk)).setCell ⟨w.heap.size + 1, 1, none⟩ (.string si)).setCell ⟨w.heap.size + 1, 2, none⟩ (.string sn)).setCell ⟨w.heap.size + 1, 3, none⟩ (.string sl)).setCell ⟨w.heap.size + 1, 4, none⟩ (.string sc)).setCell ⟨w.heap.size + 1, 5, none⟩ (.int .i64 vd)).setCell ⟨w.heap.size + 1, 6, none⟩ (.int .i64 vv)).setCell ⟨w.heap.size + 1, 7, none⟩ c0).setCell ⟨w.heap.size + 1, 8, none⟩ c1).setCell ⟨w.heap.size + 1, 9, none⟩ c2).setCell ⟨w.heap.size + 1, 10, none⟩ c3) := by
  obtain ⟨hf, rfl, rfl, rfl, rfl, rfl, rfl, rfl⟩ := h
  exact ⟨ev, _, rfl, ⟨c0, c1, c2, c3, rfl, (hT.grown (gb_set11 _ (w.heap.size + 1) _ _ _ _ _ _ _ _ _ _ _) (by omega)).mono (by omega)⟩, hf, bl_grown hB (gb_set11 _ (w.heap.size + 1) _ _ _ _ _ _ _ _ _ _ _) (by omega)⟩
/-- How a command and its event's variable stand. -/
structure DoSt (w W : World) (cs E : Array Value) : Prop where
  cmd : Blk W w.heap.size cs 27
  ev : Blk W (w.heap.size + 1 + 1) E 35
  res : Blk W (w.heap.size + 1) #[.int .i64 0, .string ⟨#[]⟩, .string ⟨#[]⟩, .string ⟨#[]⟩, .string ⟨#[]⟩, .int .i64 0, .int .i64 0, .int .i64 0, .string ⟨#[]⟩, .int .i64 0, .slice none 0 0] 35
  bel : Below w.heap.size w W
  size : w.heap.size + 1 + 1 < W.heap.size
theorem DoSt.below {w W W' : World} {cs E : Array Value} (h : DoSt w W cs E) (hb : Below W.heap.size W W') : DoSt w W' cs E :=
  ⟨h.cmd.below hb, h.ev.below hb, h.res.below hb, bl_step hb h.bel, Nat.lt_of_lt_of_le h.size hb.size⟩
theorem DoSt.drew {w W : World} {cs E : Array Value} (h : DoSt w W cs E) : DoSt w W.drew cs E := h.below (bl_drew (bl_refl _))
theorem DoSt.alloc {w W : World} {cs E : Array Value} (h : DoSt w W cs E) (o : Obj) : DoSt w (W.alloc o) cs E := h.below (bl_alloc (bl_refl _) o)
theorem DoSt.set {w W : World} {cs E : Array Value} (h : DoSt w W cs E) (j : Nat) (v : Value) : DoSt w (W.setCell ⟨w.heap.size + 1 + 1, j, none⟩ v) cs (E.setIfInBounds j v) :=
  ⟨h.cmd.grown (gb_set j v) (fun e => by injection e with e; omega), h.ev.set j v, h.res.grown (gb_set j v) (fun e => by injection e with e; omega), bl_grown h.bel (gb_set j v) (by omega), by have := h.size; simpa [World.setCell] using this⟩
def eS : ByteArray := ⟨#[]⟩
def passX : Ev := ⟨1, eS, eS, eS, eS, 0, 0, .odd .nilIface⟩
theorem passX_fit : passX.fit := ⟨by decide, by decide, by decide, by decide, by decide, by unfold IsInt64; decide, by unfold IsInt64; decide, .inl rfl⟩
set_option maxRecDepth 100000 in
set_option maxHeartbeats 4000000 in
theorem do_a (w : World) (c : Cm) (vN vW : Value) (hc : c.ok) (hp : PlanAt w vN vW) (day : Int) (hday : 0 ≤ day ∧ day ≤ 1000000) (hk : c.kind % 20 = 0) :
    Calls Tryz.prog 34 #[.pointer none, c.val vN vW, .int .i64 day] w (GivesEv w) := by
  unfold GivesEv
  unfold Cm.val
  obtain ⟨⟨A, n, cc, xs, rfl, hn⟩, ⟨A', n', cc', xs', rfl, hn'⟩⟩ := (show PlanAt w vN vW from hp)
  clear hn hn'
  obtain ⟨W1, hW1⟩ : ∃ W1, ((w.alloc (.cells #[.int .i64 c.kind, .int .i64 c.a, .int .i64 c.b, .int .i64 c.day, .int .i64 c.value, .string c.word, .slice A n cc, .slice A' n' cc'] 27)).alloc (.cells #[.int .i64 0, .string ⟨#[]⟩, .string ⟨#[]⟩, .string ⟨#[]⟩, .string ⟨#[]⟩, .int .i64 0, .int .i64 0, .int .i64 0, .string ⟨#[]⟩, .int .i64 0, .slice none 0 0] 35)).alloc (.cells #[.int .i64 0, .string ⟨#[]⟩, .string ⟨#[]⟩, .string ⟨#[]⟩, .string ⟨#[]⟩, .int .i64 0, .int .i64 0, .int .i64 0, .string ⟨#[]⟩, .int .i64 0, .slice none 0 0] 35) = W1 := ⟨_, rfl⟩
  have hb1 := bl_alloc (bl_alloc (bl_alloc (bl_refl w) (.cells #[.int .i64 c.kind, .int .i64 c.a, .int .i64 c.b, .int .i64 c.day, .int .i64 c.value, .string c.word, .slice A n cc, .slice A' n' cc'] 27)) (.cells #[.int .i64 0, .string ⟨#[]⟩, .string ⟨#[]⟩, .string ⟨#[]⟩, .string ⟨#[]⟩, .int .i64 0, .int .i64 0, .int .i64 0, .string ⟨#[]⟩, .int .i64 0, .slice none 0 0] 35)) (.cells #[.int .i64 0, .string ⟨#[]⟩, .string ⟨#[]⟩, .string ⟨#[]⟩, .string ⟨#[]⟩, .int .i64 0, .int .i64 0, .int .i64 0, .string ⟨#[]⟩, .int .i64 0, .slice none 0 0] 35)
  obtain ⟨hkC, hkR, hkE, hs1⟩ := do_blocks w #[.int .i64 c.kind, .int .i64 c.a, .int .i64 c.b, .int .i64 c.day, .int .i64 c.value, .string c.word, .slice A n cc, .slice A' n' cc'] 27 #[.int .i64 0, .string ⟨#[]⟩, .string ⟨#[]⟩, .string ⟨#[]⟩, .string ⟨#[]⟩, .int .i64 0, .int .i64 0, .int .i64 0, .string ⟨#[]⟩, .int .i64 0, .slice none 0 0] 35
  rw [hW1] at hb1 hkC hkR hkE hs1
  have hnm := kname_calls c.a hc.a
  have hwi := fun W => within_calls c.kind 20 W (by have := hc.kind; unfold IsInt64 at this; omega) (by omega)
  have htx := fun W => text_calls c.word 14 hc.word (by omega) W
  have hts : (c.word.extract 0 (min c.word.size 14)).size ≤ 14 := by simp; omega
  have hns := nameS_size (c.a % 5).toNat
  obtain ⟨hi1, hi2, hi3, hi4, hi5, hi6⟩ := hc
  unfold IsInt64 at hi1 hi2 hi3 hi4 hi5
  generalize c.word.extract 0 (min c.word.size 14) = wd at *
  generalize nameS (c.a % 5).toNat = nm at *
  generalize c.kind % 20 = kk at *
  generalize c.kind = ck at *
  generalize c.a = ca at *
  generalize c.b = cb at *
  generalize c.day = cd at *
  generalize c.value = cv at *
  generalize c.word = cw at *
  have HW1 := Lib.hid hW1; have HP := Lib.hid hp; have HNM := Lib.hid hnm; have HWI := Lib.hid hwi; have HTX := Lib.hid htx; have HKC := Lib.hid hkC; have HKE := Lib.hid hkE; have HKR := Lib.hid hkR; have HB1 := Lib.hid hb1; have HS1 := Lib.hid hs1
  clear hW1 hp hnm hwi htx hkC hkR hkE hb1 hs1
  obtain ⟨p0, p1, p2, p3, p4, p5, p6, p7⟩ := HKC.out.eight
  go_enter Tryz.func34, Tryz.ntmps34
  go_upto_region 2 with fail
  rw [HW1.out]
  go_wp2_with fail
  refine (HNM.out _).mono ?_
  rintro e w2 ⟨rfl, hb2⟩
  have HB2 := Lib.hid (bl_step hb2 HB1.out)
  have HKC2 := Lib.hid (HKC.out.below hb2); have HKE2 := Lib.hid (HKE.out.below hb2); have HKR2 := Lib.hid (HKR.out.below hb2)
  have HS2 := Lib.hid (show w.heap.size + 1 + 1 < w2.heap.size by have := hb2.size; have := HS1.out; omega)
  replace p0 := cell_below hb2 p0
  replace p1 := cell_below hb2 p1
  replace p2 := cell_below hb2 p2
  replace p3 := cell_below hb2 p3
  replace p4 := cell_below hb2 p4
  replace p5 := cell_below hb2 p5
  replace p6 := cell_below hb2 p6
  replace p7 := cell_below hb2 p7
  clear hb2 HB1 HKC HKE HKR HW1 HS1 HNM
  clear W1
  go_upto_if 28 with fail
  go_cut [8] (fun v wx => ∃ id : ByteArray, id.size ≤ 14 ∧ v = .string id ∧ wx = w2)
  case first =>
    by_cases hm : ca.tmod 19 = 18
    · go_wp2_with fail
      refine (HTX.out _).mono ?_
      rintro e w3 ⟨rfl, rfl⟩
      go_wp2_with fail
      go_meet
      exact ⟨wd, hts, rfl, rfl⟩
    · have hmb : (ca.tmod 19 == 18) = false := by simpa using hm
      go_wp2_with fail
      go_meet
      exact ⟨nm, by omega, rfl, rfl⟩
  obtain ⟨id, hidl, rfl, rfl⟩ := hcut
  clear hts hns HTX
  obtain ⟨e0, e1, e2, e3, e4, e5, e6, e7, e8, e9, e10⟩ := HKE2.out.eleven
  have ez := fun j => HKE2.out.frozen j
  go_wp2_with fail
  refine (HWI.out _).mono ?_
  rintro e w3 ⟨rfl, rfl⟩
  clear HWI
  subst hk
  obtain ⟨WF, hWF⟩ : ∃ WF, w3.setCell ⟨w.heap.size + 1 + 1, 0, none⟩ (.int .i64 1) = WF := ⟨_, rfl⟩
  have hEF := HKE2.out.set 0 (.int .i64 1)
  have hRF := HKR2.out.far ⟨w.heap.size + 1 + 1, 0, none⟩ (by show w.heap.size + 1 ≠ w.heap.size + 1 + 1; omega) (.int .i64 1)
  have hBF := bl_grown HB2.out (gb_set (g := w.heap.size + 1 + 1) 0 (.int .i64 1)) (by omega)
  have hSF : w.heap.size + 1 + 1 < (w3.setCell ⟨w.heap.size + 1 + 1, 0, none⟩ (.int .i64 1)).heap.size := by have := HS2.out; simpa [World.setCell] using this
  rw [hWF] at hEF hRF hBF hSF
  have hTF : TrAt (w.heap.size + 1 + 1) WF passX.term.tr (.agg #[.int .i64 0, .string ⟨#[]⟩, .int .i64 0, .slice none 0 0]) := TrAt.leaf _ _ _ _ _ _
  have HWF := Lib.hid hWF
  clear hWF
  go_upto_region 52 with fail
  rw [HWF.out]
  clear HWF
  clear p0 p1 p2 p3 p4 p5 p6 p7 e0 e1 e2 e3 e4 e5 e6 e7 e8 e9 e10 ez
  have HEF := Lib.hid hEF; have HRF := Lib.hid hRF; have HBF := Lib.hid hBF; have HTF := Lib.hid hTF; have HSF := Lib.hid hSF
  clear hEF hRF hBF hTF hSF
  obtain ⟨e0, e1, e2, e3, e4, e5, e6, e7, e8, e9, e10⟩ := HEF.out.eleven
  obtain ⟨r0, r1, r2, r3, r4, r5, r6, r7, r8, r9, r10⟩ := HRF.out.eleven
  have rz := fun j => HRF.out.frozen j
  go_wp2_with fail
  (try simp only [Exit.inBlock, Exit.then])
  refine bodyPost_ret (results_E rfl _ _ (w.heap.size + 1) _ _ _ _ _ _ _ _ _ _ _ _ rfl (HRF.out.set11 _ _ _ _ _ _ _ _ _ _ _)) rfl ?_
  exact do_post (ev := passX) HBF.out HTF.out HSF.out ⟨passX_fit, rfl, rfl, rfl, rfl, rfl, rfl, rfl⟩
end Go.Proofs.YtapbkomicihkkaaGreatDoor
