/- Some event of a command, a field of it turned, or not; its term odd, or not. -/
import Derived.Test.YtapbkomicihkkaaGreatDoorDo2
import Derived.Test.YtapbkomicihkkaaGreatDoorDo3G
import Derived.Test.YtapbkomicihkkaaGreatDoorDo4G
import Derived.Test.YtapbkomicihkkaaGreatDoorDo5
import Derived.Test.YtapbkomicihkkaaGreatDoorDo6
import Derived.Test.YtapbkomicihkkaaGreatDoorKeep
import Derived.Test.YtapbkomicihkkaaGreatDoorTreeG
import Derived.Test.YtapbkomicihkkaaGreatDoorBuild
import Derived.Deep.DeepCutAuto
import Derived.Deep.CutBlock
import Derived.Carry
import Derived.Test.YtapbkomicihkkaaGreatDoorPlainG
namespace Go.Proofs.YtapbkomicihkkaaGreatDoor
open Go.RowKit
set_option linter.unusedVariables false
set_option linter.unusedSimpArgs false

theorem do_calls (w : World) (c : Cm) (vN vW : Value) (hc : c.ok) (hp : PlanAt w vN vW) (day : Int) (hday : 0 ≤ day ∧ day ≤ 1000000) :
  Calls Tryz.prog 34 #[.pointer none, c.val vN vW, .int .i64 day] w (GivesEv w) := by
 have h0 := Int.emod_nonneg c.kind (show (20 : Int) ≠ 0 by omega)
 have h1 := Int.emod_lt_of_pos c.kind (show (0 : Int) < 20 by omega)
 by_cases ha : c.kind % 20 = 0
 ·exact do_a w c vN vW hc hp day hday ha
 by_cases hb : c.kind % 20 < 7
 ·exact do_b w c vN vW hc hp day hday ⟨by omega, hb⟩
 by_cases hcc : c.kind % 20 < 11
 ·exact do_c w c vN vW hc hp day hday ⟨by omega, hcc⟩
 by_cases hd : c.kind % 20 < 14
 ·exact do_d w c vN vW hc hp day hday ⟨by omega, hd⟩
 by_cases he : c.kind % 20 < 17
 ·exact do_e w c vN vW hc hp day hday ⟨by omega, he⟩
 by_cases hf : c.kind % 20 < 19
 ·exact do_f w c vN vW hc hp day hday ⟨by omega, hf⟩
 exact do_g w c vN vW hc hp day hday (by omega)
theorem OddT.mk {t : TypeId} {x : Value} (h : ([40, 137, 158, 160, 162, 165, 167, 169].contains t) = false) : OddT (.iface t x) := by
 simp at h
 exact .inr ⟨t, x, rfl, by simp [*]⟩
set_option maxRecDepth 100000 in
set_option maxHeartbeats 4000000 in
theorem odd_calls (n : Int) (hn : -9223372036854775808 ≤ n ∧ n ≤ 9223372036854775807) (w : World) :
  Calls Tryz.prog 36 #[.int .i64 n] w fun e w' => ∃ v, e = .returned v ∧ OddT v ∧ Below w.heap.size w w' := by
 have hwi := fun W => within_calls n 9 W hn (by omega)
 obtain ⟨m, hm⟩ : ∃ m : Nat, n % 9 = (m : Int) := ⟨(n % 9).toNat, by have := Int.emod_nonneg n (show (9 : Int) ≠ 0 by omega); omega⟩
 have hm9 : m < 9 := by have := Int.emod_lt_of_pos n (show (0 : Int) < 9 by omega); omega
 rw [hm] at hwi
 have HWI := Lib.hid hwi
 clear hwi hm
 have hmm := @run_makeMap Tryz.prog
 obtain rfl | rfl | rfl | rfl | rfl | rfl | rfl | rfl | rfl : m = 0 ∨ m = 1 ∨ m = 2 ∨ m = 3 ∨ m = 4 ∨ m = 5 ∨ m = 6 ∨ m = 7 ∨ m = 8 := by omega
 all_goals
  go_enter Tryz.func36, Tryz.ntmps36
  go_wp2_with fail
  refine (HWI.out _).mono ?_
  rintro en w1 ⟨rfl, rfl⟩
  go_wp2_with fail
  go_ret
  refine ⟨_, rfl, ?_, ?_⟩
  ·first | exact .inl rfl | exact OddT.mk (by decide)
  ·exact bl_alloc (bl_alloc (bl_alloc (bl_alloc (bl_alloc (bl_refl _) _) _) _) _) _
theorem results_SO {fn : Func} {t u b : Tmp} (h : fn.results = #[.cell t 30, .cell u 35, .tmp b]) (tmps : Array Value) (W : World) (r q : Nat) (a0 a1 a2 a3 a4 a5 a6 a7 b0 b1 b2 b3 b4 b5 b6 b7 b8 b9 b10 z : Value) (ty tz : TypeId) (ht : tmps.getD t undef = .pointer (some ⟨r, 0, none⟩)) (hu : tmps.getD u undef = .pointer (some ⟨q, 0, none⟩)) (hz : tmps.getD b undef = z) (hk : Blk W r #[a0, a1, a2, a3, a4, a5, a6, a7] ty) (hm : Blk W q #[b0, b1, b2, b3, b4, b5, b6, b7, b8, b9, b10] tz) :
  (results fn tmps).run Tryz.prog W = .ok (.tuple #[.agg #[a0, a1, a2, a3, a4, a5, a6, a7], .agg #[b0, b1, b2, b3, b4, b5, b6, b7, b8, b9, b10], z]) W := by
 obtain ⟨k0, k1, k2, k3, k4, k5, k6, k7⟩ := hk.eight
 obtain ⟨m0, m1, m2, m3, m4, m5, m6, m7, m8, m9, m10⟩ := hm.eleven
 have ht' : tmps[t]?.getD undef = .pointer (some ⟨r, 0, none⟩) := by simpa using ht
 have hu' : tmps[u]?.getD undef = .pointer (some ⟨q, 0, none⟩) := by simpa using hu
 have hz' : tmps[b]?.getD undef = z := by simpa using hz
 simp [results, h, ht', hu', hz', go_sem, k0, k1, k2, k3, k4, k5, k6, k7, m0, m1, m2, m3, m4, m5, m6, m7, m8, m9, m10]
theorem tdiv11 {n : Int} (h : IsInt64 n) : (-9223372036854775808 ≤ n.tdiv 11 ∧ n.tdiv 11 ≤ 9223372036854775807) ∧ IntKind.i64.wrap (n.tdiv 11) = n.tdiv 11 := by
 unfold IsInt64 at h
 have hb : -9223372036854775808 ≤ n.tdiv 11 ∧ n.tdiv 11 ≤ 9223372036854775807 := by
  rcases Int.le_total 0 n with h0 | h0
  ·rw [Int.tdiv_eq_ediv_of_nonneg h0]; omega
  ·obtain ⟨u, rfl⟩ : ∃ u : Nat, n = -(u : Int) := ⟨n.natAbs, by omega⟩
   rw [Int.neg_tdiv, Int.tdiv_eq_ediv_of_nonneg (by omega)]; omega
 exact ⟨hb, IntWalk.i64_in _ (by omega)⟩
/-- The same, its term odd or not. -/
structure Ev.fitO (e : Ev) (b : Bool) : Prop where
 kind : 0 ≤ e.kind ∧ e.kind ≤ 8
 id : e.id.size ≤ 100
 name : e.name.size ≤ 100
 label : e.label.size ≤ 100
 cur : e.cur.size ≤ 100
 day : IsInt64 e.day
 value : IsInt64 e.value
 term : e.term.ok
 no : b = false → e.term.fit
 yes : b = true → ∃ u, e.term = .odd u ∧ u ≠ .nilIface
def RetSomeO (odd : Int) (w : World) (en : Ending) (w' : World) : Prop := ∃ (e : Ev) (x : Value) (b : Bool), en = .returned (.tuple #[e.val, x, .bool b]) ∧ EvAt w.heap.size w' e x ∧ e.fitO b ∧ (odd.tmod 11 ≠ 10 → b = false) ∧ Below w.heap.size w w'
set_option maxRecDepth 100000 in
set_option maxHeartbeats 8000000 in
theorem someO_calls (w : World) (c : Cm) (vN vW : Value) (hc : c.ok) (hp : PlanAt w vN vW) (f v odd : Int) (s : ByteArray) (hf : IsInt64 f) (hv : IsInt64 v) (hs : s.size ≤ 9223372036854775807) (hod : IsInt64 odd) :
  Calls Tryz.prog 9 #[c.val vN vW, .int .i64 f, .int .i64 v, .string s, .int .i64 odd] w (RetSomeO odd w) := by
 obtain ⟨⟨A, n, cc, xs, rfl, hn⟩, ⟨A', n', cc', xs', rfl, hn'⟩⟩ := (show PlanAt w vN vW from hp)
 clear hn hn'
 have hf2 := hf
 unfold IsInt64 at hf2
 have hv2 := hv
 unfold IsInt64 at hv2
 have hw20 := fun W => within_calls f 20 W (by omega) (by omega)
 have hw9 := fun W => within_calls v 9 W (by omega) (by omega)
 have hk0 := Int.emod_nonneg v (show (9 : Int) ≠ 0 by omega)
 have hk1 := Int.emod_lt_of_pos v (show (0 : Int) < 9 by omega)
 have htx := fun W => text_calls s 16 hs (by omega) W
 have htz : (s.extract 0 (min s.size 16)).size ≤ 100 := by simp; omega
 generalize s.extract 0 (min s.size 16) = tx at *
 generalize f % 20 = fk at *
 generalize v % 9 = km at *
 have HKM : Hid (0 ≤ km ∧ km ≤ 8) := ⟨hk0, by omega⟩
 have hsz1 : w.heap.size + 1 + 1 < (((w.alloc (.cells #[.int .i64 c.kind, .int .i64 c.a, .int .i64 c.b, .int .i64 c.day, .int .i64 c.value, .string c.word, .slice A n cc, .slice A' n' cc'] 27)).alloc (.cells #[.int .i64 0, .string ⟨#[]⟩, .string ⟨#[]⟩, .string ⟨#[]⟩, .string ⟨#[]⟩, .int .i64 0, .int .i64 0, .nilIface] 30)).alloc (.cells #[.int .i64 0, .string ⟨#[]⟩, .string ⟨#[]⟩, .string ⟨#[]⟩, .string ⟨#[]⟩, .int .i64 0, .int .i64 0, .int .i64 0, .string ⟨#[]⟩, .int .i64 0, .slice none 0 0] 35)).heap.size := by rw [alloc_size, alloc_size, alloc_size]; omega
 have hbC := (Blk.new w #[.int .i64 c.kind, .int .i64 c.a, .int .i64 c.b, .int .i64 c.day, .int .i64 c.value, .string c.word, .slice A n cc, .slice A' n' cc'] 27).below (bl_alloc (bl_refl _) (.cells #[.int .i64 0, .string ⟨#[]⟩, .string ⟨#[]⟩, .string ⟨#[]⟩, .string ⟨#[]⟩, .int .i64 0, .int .i64 0, .nilIface] 30))
 have hkC := hbC.below (bl_alloc (bl_refl _) (.cells #[.int .i64 0, .string ⟨#[]⟩, .string ⟨#[]⟩, .string ⟨#[]⟩, .string ⟨#[]⟩, .int .i64 0, .int .i64 0, .int .i64 0, .string ⟨#[]⟩, .int .i64 0, .slice none 0 0] 35))
 have hkA := (Blk_new (w.alloc (.cells #[.int .i64 c.kind, .int .i64 c.a, .int .i64 c.b, .int .i64 c.day, .int .i64 c.value, .string c.word, .slice A n cc, .slice A' n' cc'] 27)) #[.int .i64 0, .string ⟨#[]⟩, .string ⟨#[]⟩, .string ⟨#[]⟩, .string ⟨#[]⟩, .int .i64 0, .int .i64 0, .nilIface] 30 (w.heap.size + 1) (alloc_size _ _).symm).below (bl_alloc (bl_refl _) (.cells #[.int .i64 0, .string ⟨#[]⟩, .string ⟨#[]⟩, .string ⟨#[]⟩, .string ⟨#[]⟩, .int .i64 0, .int .i64 0, .int .i64 0, .string ⟨#[]⟩, .int .i64 0, .slice none 0 0] 35))
 have hkB := Blk_new ((w.alloc (.cells #[.int .i64 c.kind, .int .i64 c.a, .int .i64 c.b, .int .i64 c.day, .int .i64 c.value, .string c.word, .slice A n cc, .slice A' n' cc'] 27)).alloc (.cells #[.int .i64 0, .string ⟨#[]⟩, .string ⟨#[]⟩, .string ⟨#[]⟩, .string ⟨#[]⟩, .int .i64 0, .int .i64 0, .nilIface] 30)) #[.int .i64 0, .string ⟨#[]⟩, .string ⟨#[]⟩, .string ⟨#[]⟩, .string ⟨#[]⟩, .int .i64 0, .int .i64 0, .int .i64 0, .string ⟨#[]⟩, .int .i64 0, .slice none 0 0] 35 (w.heap.size + 1 + 1) (by rw [alloc_size, alloc_size])
 have hb1 := bl_alloc (bl_alloc (bl_alloc (bl_refl w) (.cells #[.int .i64 c.kind, .int .i64 c.a, .int .i64 c.b, .int .i64 c.day, .int .i64 c.value, .string c.word, .slice A n cc, .slice A' n' cc'] 27)) (.cells #[.int .i64 0, .string ⟨#[]⟩, .string ⟨#[]⟩, .string ⟨#[]⟩, .string ⟨#[]⟩, .int .i64 0, .int .i64 0, .nilIface] 30)) (.cells #[.int .i64 0, .string ⟨#[]⟩, .string ⟨#[]⟩, .string ⟨#[]⟩, .string ⟨#[]⟩, .int .i64 0, .int .i64 0, .int .i64 0, .string ⟨#[]⟩, .int .i64 0, .slice none 0 0] 35)
 obtain ⟨W1, hW1⟩ : ∃ W1, ((w.alloc (.cells #[.int .i64 c.kind, .int .i64 c.a, .int .i64 c.b, .int .i64 c.day, .int .i64 c.value, .string c.word, .slice A n cc, .slice A' n' cc'] 27)).alloc (.cells #[.int .i64 0, .string ⟨#[]⟩, .string ⟨#[]⟩, .string ⟨#[]⟩, .string ⟨#[]⟩, .int .i64 0, .int .i64 0, .nilIface] 30)).alloc (.cells #[.int .i64 0, .string ⟨#[]⟩, .string ⟨#[]⟩, .string ⟨#[]⟩, .string ⟨#[]⟩, .int .i64 0, .int .i64 0, .int .i64 0, .string ⟨#[]⟩, .int .i64 0, .slice none 0 0] 35) = W1 := ⟨_, rfl⟩
 rw [hW1] at hsz1 hkC hkA hkB hb1
 have hdo := do_calls W1 c _ _ hc (hp.below hb1) 3 (by omega)
 unfold GivesEv at hdo
 unfold Cm.val at hdo ⊢
 obtain ⟨p0, p1, p2, p3, p4, p5, p6, p7⟩ := hkC.eight
 have HW1 := Lib.hid hW1; have HDO := Lib.hid hdo; have HKA := Lib.hid hkA; have HKB := Lib.hid hkB; have HB1 := Lib.hid hb1; have HS1 := Lib.hid hsz1; have HW20 := Lib.hid hw20; have HW9 := Lib.hid hw9; have HTX := Lib.hid htx; have HTZ := Lib.hid htz; have HV := Lib.hid hv
 clear hW1 hdo hkA hkB hb1 hsz1 hw20 hw9 htx htz hv hf hbC hkC hc hp hk0 hk1 hs
 go_enter Tryz.func9, Tryz.ntmps9
 go_upto_region 1 with fail
 rw [HW1.out]
 clear HW1
 go_wp2_with fail
 refine (HDO.out).mono ?_
 rintro en w2 ⟨e0, x0, rfl, hE0, hF0, hb2⟩
 obtain ⟨c0, c1, c2, c3, rfl, hT0⟩ := hE0
 obtain ⟨A9, c9, cs9, hag, -, -⟩ := hT0.open_
 have hcc : c0 = .int .i64 e0.term.tr.kind ∧ c1 = .string e0.term.tr.s ∧ c2 = .int .i64 e0.term.tr.n ∧ c3 = .slice A9 e0.term.tr.ks.length c9 := by injection hag with hag; simp at hag; exact hag
 obtain ⟨h0, h1, h2, h3⟩ := hcc
 subst h0 h1 h2 h3
 clear hag p0 p1 p2 p3 p4 p5 p6 p7 HDO
 have HT0 := Lib.hid hT0; have HF := Lib.hid hF0; have HB2 := Lib.hid hb2
 clear hT0 hF0 hb2
 go_upto_region 2 with fail
 have hkE := Blk.new w2 #[.int .i64 e0.kind, .string e0.id, .string e0.name, .string e0.label, .string e0.cur, .int .i64 e0.day, .int .i64 e0.value, .int .i64 e0.term.tr.kind, .string e0.term.tr.s, .int .i64 e0.term.tr.n, .slice A9 e0.term.tr.ks.length c9] 35
 have hbE := bl_alloc (bl_refl w2) (.cells #[.int .i64 e0.kind, .string e0.id, .string e0.name, .string e0.label, .string e0.cur, .int .i64 e0.day, .int .i64 e0.value, .int .i64 e0.term.tr.kind, .string e0.term.tr.s, .int .i64 e0.term.tr.n, .slice A9 e0.term.tr.ks.length c9] 35)
 obtain ⟨W3, hW3⟩ : ∃ W3, w2.alloc (.cells #[.int .i64 e0.kind, .string e0.id, .string e0.name, .string e0.label, .string e0.cur, .int .i64 e0.day, .int .i64 e0.value, .int .i64 e0.term.tr.kind, .string e0.term.tr.s, .int .i64 e0.term.tr.n, .slice A9 e0.term.tr.ks.length c9] 35) = W3 := ⟨_, rfl⟩
 rw [hW3] at hkE hbE ⊢
 have HKE := Lib.hid hkE; have HBE := Lib.hid hbE
 clear hW3 hkE hbE
 go_wp2_with fail
 refine (HW20.out _).mono ?_
 rintro en w4 ⟨rfl, rfl⟩
 obtain ⟨y0, y1, y2, y3, y4, y5, y6, y7, y8, y9, y10⟩ := HKE.out.eleven
 have yz := fun j => HKE.out.frozen j
 go_upto_block 0 with fail
 go_cut [] (fun wx => ∃ e : Ev, e.term = e0.term ∧ e.fit ∧ Blk wx w2.heap.size #[.int .i64 e.kind, .string e.id, .string e.name, .string e.label, .string e.cur, .int .i64 e.day, .int .i64 e.value, .int .i64 e0.term.tr.kind, .string e0.term.tr.s, .int .i64 e0.term.tr.n, .slice A9 e0.term.tr.ks.length c9] 35 ∧ Below w2.heap.size w2 wx)
 case first =>
  by_cases g0 : fk = 0
  ·subst g0
   go_wp2_with fail
   refine (HW9.out _).mono ?_
   rintro en wq ⟨rfl, rfl⟩
   go_wp2_with fail
   go_meet
   have hE := HKE.out.set 0 (.int .i64 km)
   simp only [List.setIfInBounds_toArray, List.set_cons_zero, List.set_cons_succ] at hE
   have F := HF.out
   exact ⟨⟨km, e0.id, e0.name, e0.label, e0.cur, e0.day, e0.value, e0.term⟩, rfl, ⟨HKM.out, F.id, F.name, F.label, F.cur, F.day, F.value, F.term⟩, hE, bl_grown HBE.out (gb_set 0 (.int .i64 km)) (Nat.le_refl _)⟩
  have g0b : (fk == 0) = false := by simpa using g0
  by_cases g1 : fk = 1
  ·subst g1
   go_wp2_with fail
   refine (HTX.out _).mono ?_
   rintro en wq ⟨rfl, rfl⟩
   go_wp2_with fail
   go_meet
   have hE := HKE.out.set 1 (.string tx)
   simp only [List.setIfInBounds_toArray, List.set_cons_zero, List.set_cons_succ] at hE
   have F := HF.out
   exact ⟨⟨e0.kind, tx, e0.name, e0.label, e0.cur, e0.day, e0.value, e0.term⟩, rfl, ⟨F.kind, HTZ.out, F.name, F.label, F.cur, F.day, F.value, F.term⟩, hE, bl_grown HBE.out (gb_set 1 (.string tx)) (Nat.le_refl _)⟩
  have g1b : (fk == 1) = false := by simpa using g1
  by_cases g2 : fk = 2
  ·subst g2
   go_wp2_with fail
   refine (HTX.out _).mono ?_
   rintro en wq ⟨rfl, rfl⟩
   go_wp2_with fail
   go_meet
   have hE := HKE.out.set 2 (.string tx)
   simp only [List.setIfInBounds_toArray, List.set_cons_zero, List.set_cons_succ] at hE
   have F := HF.out
   exact ⟨⟨e0.kind, e0.id, tx, e0.label, e0.cur, e0.day, e0.value, e0.term⟩, rfl, ⟨F.kind, F.id, HTZ.out, F.label, F.cur, F.day, F.value, F.term⟩, hE, bl_grown HBE.out (gb_set 2 (.string tx)) (Nat.le_refl _)⟩
  have g2b : (fk == 2) = false := by simpa using g2
  by_cases g3 : fk = 3
  ·subst g3
   go_wp2_with fail
   refine (HTX.out _).mono ?_
   rintro en wq ⟨rfl, rfl⟩
   go_wp2_with fail
   go_meet
   have hE := HKE.out.set 3 (.string tx)
   simp only [List.setIfInBounds_toArray, List.set_cons_zero, List.set_cons_succ] at hE
   have F := HF.out
   exact ⟨⟨e0.kind, e0.id, e0.name, tx, e0.cur, e0.day, e0.value, e0.term⟩, rfl, ⟨F.kind, F.id, F.name, HTZ.out, F.cur, F.day, F.value, F.term⟩, hE, bl_grown HBE.out (gb_set 3 (.string tx)) (Nat.le_refl _)⟩
  have g3b : (fk == 3) = false := by simpa using g3
  by_cases g4 : fk = 4
  ·subst g4
   go_wp2_with fail
   refine (HTX.out _).mono ?_
   rintro en wq ⟨rfl, rfl⟩
   go_wp2_with fail
   go_meet
   have hE := HKE.out.set 4 (.string tx)
   simp only [List.setIfInBounds_toArray, List.set_cons_zero, List.set_cons_succ] at hE
   have F := HF.out
   exact ⟨⟨e0.kind, e0.id, e0.name, e0.label, tx, e0.day, e0.value, e0.term⟩, rfl, ⟨F.kind, F.id, F.name, F.label, HTZ.out, F.day, F.value, F.term⟩, hE, bl_grown HBE.out (gb_set 4 (.string tx)) (Nat.le_refl _)⟩
  have g4b : (fk == 4) = false := by simpa using g4
  by_cases g5 : fk = 5
  ·subst g5
   go_wp2_with fail
   go_meet
   have hE := HKE.out.set 5 (.int .i64 v)
   simp only [List.setIfInBounds_toArray, List.set_cons_zero, List.set_cons_succ] at hE
   have F := HF.out
   exact ⟨⟨e0.kind, e0.id, e0.name, e0.label, e0.cur, v, e0.value, e0.term⟩, rfl, ⟨F.kind, F.id, F.name, F.label, F.cur, HV.out, F.value, F.term⟩, hE, bl_grown HBE.out (gb_set 5 (.int .i64 v)) (Nat.le_refl _)⟩
  have g5b : (fk == 5) = false := by simpa using g5
  by_cases g6 : fk = 6
  ·subst g6
   go_wp2_with fail
   go_meet
   have hE := HKE.out.set 6 (.int .i64 v)
   simp only [List.setIfInBounds_toArray, List.set_cons_zero, List.set_cons_succ] at hE
   have F := HF.out
   exact ⟨⟨e0.kind, e0.id, e0.name, e0.label, e0.cur, e0.day, v, e0.term⟩, rfl, ⟨F.kind, F.id, F.name, F.label, F.cur, F.day, HV.out, F.term⟩, hE, bl_grown HBE.out (gb_set 6 (.int .i64 v)) (Nat.le_refl _)⟩
  have g6b : (fk == 6) = false := by simpa using g6
  go_wp2_with fail
  go_meet
  exact ⟨e0, rfl, HF.out, HKE.out, HBE.out⟩
 clear y0 y1 y2 y3 y4 y5 y6 y7 y8 y9 y10 yz HKE HBE
 clear w4
 rename World => w5
 obtain ⟨e, het, hfe, hkE2, hbE2⟩ := hcut
 have hok := hfe.term.ok
 have hti := e.term.isI hok
 have hoo := fun W => odd_calls (odd.tdiv 11) (tdiv11 hod).1 W
 have hwq : IntKind.i64.wrap (odd.tdiv 11) = odd.tdiv 11 := (tdiv11 hod).2
 have hbk := back_calls e hfe.term W1.heap.size w5 (.agg #[.int .i64 e.kind, .string e.id, .string e.name, .string e.label, .string e.cur, .int .i64 e.day, .int .i64 e.value, .int .i64 e0.term.tr.kind, .string e0.term.tr.s, .int .i64 e0.term.tr.n, .slice A9 e0.term.tr.ks.length c9]) ⟨_, _, _, _, rfl, by rw [het]; exact HT0.out.below hbE2⟩
 unfold RetEv at hbk
 unfold Ev.val at hbk
 have hev := fun W => event_calls e hok W
 unfold RetREv at hev
 unfold Ev.val at hev
 have HEV := Lib.hid hev; have HBK := Lib.hid hbk; have HFE := Lib.hid hfe
 have HA5 := Lib.hid ((HKA.out.below HB2.out).below hbE2); have HB5 := Lib.hid ((HKB.out.below HB2.out).below hbE2); have HL5 := Lib.hid (bl_step (bl_step hbE2 HB2.out) HB1.out)
 have HZ5 := Lib.hid (show w.heap.size + 1 + 1 < w5.heap.size from Nat.lt_of_lt_of_le HS1.out (Nat.le_trans HB2.out.size hbE2.size))
 obtain ⟨y0, y1, y2, y3, y4, y5, y6, y7, y8, y9, y10⟩ := hkE2.eleven
 clear hev hbk hfe hkE2 hbE2 het HT0 HKA HKB HB2 HB1 HS1 HF hf2 hv2
 go_wp2_with fail
 refine (HBK.out).mono ?_
 rintro en w6 ⟨rfl, hb6⟩
 clear y0 y1 y2 y3 y4 y5 y6 y7 y8 y9 y10
 go_upto_if 57 with fail
 obtain ⟨g5, hg5⟩ : ∃ g5, w6.heap.size = g5 := ⟨_, rfl⟩
 have hk7 := Blk_new w6 #[.int .i64 e.kind, .string e.id, .string e.name, .string e.label, .string e.cur, .int .i64 e.day, .int .i64 e.value, e.term.val] 30 g5 hg5.symm
 have hb7 := bl_alloc (bl_refl w6) (.cells #[.int .i64 e.kind, .string e.id, .string e.name, .string e.label, .string e.cur, .int .i64 e.day, .int .i64 e.value, e.term.val] 30)
 obtain ⟨W7, hW7⟩ : ∃ W7, w6.alloc (.cells #[.int .i64 e.kind, .string e.id, .string e.name, .string e.label, .string e.cur, .int .i64 e.day, .int .i64 e.value, e.term.val] 30) = W7 := ⟨_, rfl⟩
 rw [hg5, hW7]
 rw [hW7] at hk7 hb7
 have hg5s : w.heap.size + 1 + 1 < g5 := by rw [← hg5]; exact Nat.lt_of_lt_of_le HZ5.out hb6.size
 have hA7 := (HA5.out.below hb6).below hb7
 have hB7 := (HB5.out.below hb6).below hb7
 have hL7 := bl_step (bl_step hb7 hb6) HL5.out
 clear hW7 hg5 hb6 hb7 HA5 HB5 HL5 HZ5
 have HK7 := Lib.hid hk7; have HA7 := Lib.hid hA7; have HB7 := Lib.hid hB7; have HL7 := Lib.hid hL7
 clear hk7 hA7 hB7 hL7
 generalize hgd : (odd.tmod 11 == 10) = gd
 have HOO := Lib.hid hoo
 clear hoo
 go_cut [15] (fun v wx => ∃ (t' : Tm) (b : Bool), v = .bool b ∧ t'.ok ∧ (b = false → t'.fit) ∧ (b = true → ∃ u, t' = .odd u ∧ u ≠ .nilIface) ∧ Blk wx g5 #[.int .i64 e.kind, .string e.id, .string e.name, .string e.label, .string e.cur, .int .i64 e.day, .int .i64 e.value, t'.val] 30 ∧ W7.grownBy wx (some g5) ∧ (gd = false → b = false))
 case first =>
  cases gd with
  | false =>
   go_wp2_with fail
   go_meet
   exact ⟨e.term, false, rfl, hok, fun _ => HFE.out.term, (fun h => by cases h), HK7.out, gb_refl _ _, fun _ => rfl⟩
  | true =>
   go_wp2_with fail
   refine (HOO.out _).mono ?_
   rintro en w8 ⟨u, rfl, hO, hb8⟩
   have hk8 := HK7.out.below hb8
   obtain ⟨k0, k1, k2, k3, k4, k5, k6, k7⟩ := hk8.eight
   have kz := fun j => hk8.frozen j
   rcases hO with rfl | ⟨ty, xv, rfl, hne⟩
   ·go_wp2_with fail
    go_meet
    have hk9 := hk8.set 7 .nilIface
    simp only [List.setIfInBounds_toArray, List.set_cons_zero, List.set_cons_succ] at hk9
    exact ⟨.odd .nilIface, false, rfl, .inl rfl, fun _ => .inl rfl, (fun h => by cases h), hk9, gb_trans (gb_below hb8 _) (gb_set 7 _), (fun h => by cases h)⟩
   ·go_wp2_with fail
    go_meet
    have hk9 := hk8.set 7 (.iface ty xv)
    simp only [List.setIfInBounds_toArray, List.set_cons_zero, List.set_cons_succ] at hk9
    exact ⟨.odd (.iface ty xv), true, rfl, .inr ⟨ty, xv, rfl, hne⟩, (fun h => by cases h), (fun _ => ⟨_, rfl, (fun h => by cases h)⟩), hk9, gb_trans (gb_below hb8 _) (gb_set 7 _), (fun h => by cases h)⟩
 obtain ⟨t', b, rfl, htok, htn, hty, hk8, hg8, hgb⟩ := hcut
 have HGB : Hid (odd.tmod 11 ≠ 10 → b = false) := fun h => hgb (by rw [← hgd]; simpa using h)
 clear hgb
 rename World => W8
 have hlt7 := HK7.out.lt
 have hfo : Ev.fitO ⟨e.kind, e.id, e.name, e.label, e.cur, e.day, e.value, t'⟩ b := ⟨HFE.out.kind, HFE.out.id, HFE.out.name, HFE.out.label, HFE.out.cur, HFE.out.day, HFE.out.value, htok, htn, hty⟩
 have hA8 := HA7.out.grown hg8 (fun e => by injection e with e; omega)
 have hB8 := HB7.out.grown hg8 (fun e => by injection e with e; omega)
 have hL8 := bl_grown HL7.out hg8 (by omega)
 have hti2 := t'.isI htok
 have hev2 := fun W => event_calls ⟨e.kind, e.id, e.name, e.label, e.cur, e.day, e.value, t'⟩ htok W
 unfold RetREv at hev2
 unfold Ev.val at hev2
 clear HK7 HA7 HB7 HL7 HOO hgd hg8 hok hti HFE HEV
 have hok := htok
 have hti := hti2
 have HEV := Lib.hid hev2; have HFE := Lib.hid hfo; have HK7 := Lib.hid hk8; have HA7 := Lib.hid hA8; have HB7 := Lib.hid hB8; have HL7 := Lib.hid hL8
 clear hev2 hfo hk8 hA8 hB8 hL8 hti2 htok htn hty hlt7
 clear W7
 rename World => W7
 go_upto_region 22 with fail
 refine wp_region_noPanic ?_
 refine wp_region_held_drew (S := fun w' => w'.cell? ⟨g5, 0, none⟩ = some (.int .i64 e.kind) ∧ w'.cell? ⟨g5, 1, none⟩ = some (.string e.id) ∧ w'.cell? ⟨g5, 2, none⟩ = some (.string e.name) ∧ w'.cell? ⟨g5, 3, none⟩ = some (.string e.label) ∧ w'.cell? ⟨g5, 4, none⟩ = some (.string e.cur) ∧ w'.cell? ⟨g5, 5, none⟩ = some (.int .i64 e.day) ∧ w'.cell? ⟨g5, 6, none⟩ = some (.int .i64 e.value) ∧ w'.cell? ⟨g5, 7, none⟩ = some t'.val) (by kernel_rfl) (by obtain ⟨k0, k1, k2, k3, k4, k5, k6, k7⟩ := HK7.out.eight; exact ⟨k0, k1, k2, k3, k4, k5, k6, k7⟩) (fun hH => ?_)
 refine wpAnyH_world (fun W => Below W7.heap.size W7 W) (bl_drew (bl_refl _)) (fun W8 hb8 => ?_)
 clear hH
 have hH : W8.cell? ⟨g5, 0, none⟩ = some (.int .i64 e.kind) ∧ W8.cell? ⟨g5, 1, none⟩ = some (.string e.id) ∧ W8.cell? ⟨g5, 2, none⟩ = some (.string e.name) ∧ W8.cell? ⟨g5, 3, none⟩ = some (.string e.label) ∧ W8.cell? ⟨g5, 4, none⟩ = some (.string e.cur) ∧ W8.cell? ⟨g5, 5, none⟩ = some (.int .i64 e.day) ∧ W8.cell? ⟨g5, 6, none⟩ = some (.int .i64 e.value) ∧ W8.cell? ⟨g5, 7, none⟩ = some t'.val := by obtain ⟨k0, k1, k2, k3, k4, k5, k6, k7⟩ := (HK7.out.below hb8).eight; exact ⟨k0, k1, k2, k3, k4, k5, k6, k7⟩
 refine tkx 0 rfl ?_
 refine tkx 1 rfl ?_
 refine tkx 3 rfl ?_
 refine wpAnyH_ready (rs := [2]) (by kernel_rfl) (by simp) ?_
 refine AllReadyH.cons rfl (fun K hK => ?_) AllReadyH.nil
 (try go_simp)
 refine (HEV.out _).mono ?_
 rintro en W9 ⟨x9, rfl, hE9, hb9⟩
 obtain ⟨d0, d1, d2, d3, rfl, hT9⟩ := hE9
 obtain ⟨A8, c8, cs8, hag, -, -⟩ := hT9.open_
 have hdd : d0 = .int .i64 t'.tr.kind ∧ d1 = .string t'.tr.s ∧ d2 = .int .i64 t'.tr.n ∧ d3 = .slice A8 t'.tr.ks.length c8 := by injection hag with hag; simp at hag; exact hag
 obtain ⟨h0, h1, h2, h3⟩ := hdd
 subst h0 h1 h2 h3
 clear hag
 (try go_simp)
 have hb10 := bl_step hb9 hb8
 have hx9 : W7.heap.size ≤ W8.heap.size := hb8.size
 have hlt7 := HK7.out.lt
 have hT10 := hT9.mono (y := W7.heap.size) hx9
 obtain ⟨k0, k1, k2, k3, k4, k5, k6, k7⟩ := (HK7.out.below hb10).eight
 refine hK.out _ _ ⟨k0, k1, k2, k3, k4, k5, k6, k7⟩ (fun hH9 => ?_)
 clear hK K hH hb8 hb9 hT9 k0 k1 k2 k3 k4 k5 k6 k7 hx9
 (try simp only [Act.put, List.setIfInBounds_toArray, List.set_cons_zero, List.set_cons_succ])
 have hA10 := HA7.out.below hb10
 obtain ⟨k0, k1, k2, k3, k4, k5, k6, k7⟩ := hA10.eight
 have kz := fun j => hA10.frozen j
 refine wpAnyH_ready (rs := [4]) (by kernel_rfl) (by simp) ?_
 refine AllReadyH.cons rfl (fun K hK => ?_) AllReadyH.nil
 (try go_simp)
 have hA11 := hA10.set8 (.int .i64 e.kind) (.string e.id) (.string e.name) (.string e.label) (.string e.cur) (.int .i64 e.day) (.int .i64 e.value) t'.val
 have hK11 := (HK7.out.below hb10).grown (gb_set8 W9 (w.heap.size + 1) (.int .i64 e.kind) (.string e.id) (.string e.name) (.string e.label) (.string e.cur) (.int .i64 e.day) (.int .i64 e.value) t'.val) (fun e => by injection e with e; omega)
 have hB11 := (HB7.out.below hb10).grown (gb_set8 W9 (w.heap.size + 1) (.int .i64 e.kind) (.string e.id) (.string e.name) (.string e.label) (.string e.cur) (.int .i64 e.day) (.int .i64 e.value) t'.val) (fun e => by injection e with e; omega)
 have hL11 := bl_grown (bl_step hb10 HL7.out) (gb_set8 W9 (w.heap.size + 1) (.int .i64 e.kind) (.string e.id) (.string e.name) (.string e.label) (.string e.cur) (.int .i64 e.day) (.int .i64 e.value) t'.val) (by omega)
 have hT11 := hT10.grown (gb_set8 W9 (w.heap.size + 1) (.int .i64 e.kind) (.string e.id) (.string e.name) (.string e.label) (.string e.cur) (.int .i64 e.day) (.int .i64 e.value) t'.val) (by omega)
 clear k0 k1 k2 k3 k4 k5 k6 k7
 refine hK.out _ _ (by obtain ⟨k0, k1, k2, k3, k4, k5, k6, k7⟩ := hK11.eight; exact ⟨k0, k1, k2, k3, k4, k5, k6, k7⟩) (fun hH8 => ?_)
 (try simp only [Act.put, List.setIfInBounds_toArray, List.set_cons_zero, List.set_cons_succ])
 refine wpAnyH_world (fun W => Blk W (w.heap.size + 1) #[.int .i64 e.kind, .string e.id, .string e.name, .string e.label, .string e.cur, .int .i64 e.day, .int .i64 e.value, t'.val] 30 ∧ Blk W g5 #[.int .i64 e.kind, .string e.id, .string e.name, .string e.label, .string e.cur, .int .i64 e.day, .int .i64 e.value, t'.val] 30 ∧ Blk W (w.heap.size + 1 + 1) #[.int .i64 0, .string ⟨#[]⟩, .string ⟨#[]⟩, .string ⟨#[]⟩, .string ⟨#[]⟩, .int .i64 0, .int .i64 0, .int .i64 0, .string ⟨#[]⟩, .int .i64 0, .slice none 0 0] 35 ∧ Below w.heap.size w W ∧ TrAt W7.heap.size W t'.tr (.agg #[.int .i64 t'.tr.kind, .string t'.tr.s, .int .i64 t'.tr.n, .slice A8 t'.tr.ks.length c8])) ⟨hA11, hK11, hB11, hL11, hT11⟩ (fun W12 h12 => ?_)
 clear hK K hH9 hH8 hA11 hK11 hB11 hL11 hT11 hA10 kz hb10 hT10
 obtain ⟨hA12, hK12, hB12, hL12, hT12⟩ := h12
 have hH : W12.cell? ⟨g5, 0, none⟩ = some (.int .i64 e.kind) ∧ W12.cell? ⟨g5, 1, none⟩ = some (.string e.id) ∧ W12.cell? ⟨g5, 2, none⟩ = some (.string e.name) ∧ W12.cell? ⟨g5, 3, none⟩ = some (.string e.label) ∧ W12.cell? ⟨g5, 4, none⟩ = some (.string e.cur) ∧ W12.cell? ⟨g5, 5, none⟩ = some (.int .i64 e.day) ∧ W12.cell? ⟨g5, 6, none⟩ = some (.int .i64 e.value) ∧ W12.cell? ⟨g5, 7, none⟩ = some t'.val := by obtain ⟨k0, k1, k2, k3, k4, k5, k6, k7⟩ := hK12.eight; exact ⟨k0, k1, k2, k3, k4, k5, k6, k7⟩
 obtain ⟨r0, r1, r2, r3, r4, r5, r6, r7, r8, r9, r10⟩ := hB12.eleven
 have rz := fun j => hB12.frozen j
 refine wpAnyH_ready (rs := [5]) (by kernel_rfl) (by simp) ?_
 refine AllReadyH.cons rfl (fun K hK => ?_) AllReadyH.nil
 (try go_simp)
 have hK13 := hK12.grown (gb_set11 W12 (w.heap.size + 1 + 1) (.int .i64 e.kind) (.string e.id) (.string e.name) (.string e.label) (.string e.cur) (.int .i64 e.day) (.int .i64 e.value) (.int .i64 t'.tr.kind) (.string t'.tr.s) (.int .i64 t'.tr.n) (.slice A8 t'.tr.ks.length c8)) (fun e => by injection e with e; omega)
 have hA13 := hA12.grown (gb_set11 W12 (w.heap.size + 1 + 1) (.int .i64 e.kind) (.string e.id) (.string e.name) (.string e.label) (.string e.cur) (.int .i64 e.day) (.int .i64 e.value) (.int .i64 t'.tr.kind) (.string t'.tr.s) (.int .i64 t'.tr.n) (.slice A8 t'.tr.ks.length c8)) (fun e => by injection e with e; omega)
 have hB13 := hB12.set11 (.int .i64 e.kind) (.string e.id) (.string e.name) (.string e.label) (.string e.cur) (.int .i64 e.day) (.int .i64 e.value) (.int .i64 t'.tr.kind) (.string t'.tr.s) (.int .i64 t'.tr.n) (.slice A8 t'.tr.ks.length c8)
 have hL13 := bl_grown hL12 (gb_set11 W12 (w.heap.size + 1 + 1) (.int .i64 e.kind) (.string e.id) (.string e.name) (.string e.label) (.string e.cur) (.int .i64 e.day) (.int .i64 e.value) (.int .i64 t'.tr.kind) (.string t'.tr.s) (.int .i64 t'.tr.n) (.slice A8 t'.tr.ks.length c8)) (by omega)
 have hT13 := hT12.grown (gb_set11 W12 (w.heap.size + 1 + 1) (.int .i64 e.kind) (.string e.id) (.string e.name) (.string e.label) (.string e.cur) (.int .i64 e.day) (.int .i64 e.value) (.int .i64 t'.tr.kind) (.string t'.tr.s) (.int .i64 t'.tr.n) (.slice A8 t'.tr.ks.length c8)) (by omega)
 clear r0 r1 r2 r3 r4 r5 r6 r7 r8 r9 r10 rz
 refine hK.out _ _ (by obtain ⟨k0, k1, k2, k3, k4, k5, k6, k7⟩ := hK13.eight; exact ⟨k0, k1, k2, k3, k4, k5, k6, k7⟩) (fun hH8 => ?_)
 (try simp only [Act.put, List.setIfInBounds_toArray, List.set_cons_zero, List.set_cons_succ])
 clear hK K hH hK12 hA12 hB12 hL12 hT12 hK13
 refine tkx 6 rfl ?_
 clear hH8
 refine wpAnyH_done (by kernel_rfl) ?_ _
 refine NoPanic.normal ?_
 have HA13 := Lib.hid hA13; have HB13 := Lib.hid hB13; have HL13 := Lib.hid hL13; have HT13 := Lib.hid hT13
 clear hA13 hB13 hL13 hT13
 go_wp2_with fail
 (try simp only [Exit.inBlock, Exit.then])
 refine bodyPost_ret (results_SO rfl _ _ (w.heap.size + 1) (w.heap.size + 1 + 1) _ _ _ _ _ _ _ _ _ _ _ _ _ _ _ _ _ _ _ _ _ _ rfl rfl rfl HA13.out HB13.out) rfl ?_
 unfold RetSomeO
 exact ⟨⟨e.kind, e.id, e.name, e.label, e.cur, e.day, e.value, t'⟩, _, b, rfl, ⟨_, _, _, _, rfl, HT13.out.mono (by omega)⟩, HFE.out, HGB.out, HL13.out⟩
end Go.Proofs.YtapbkomicihkkaaGreatDoor
