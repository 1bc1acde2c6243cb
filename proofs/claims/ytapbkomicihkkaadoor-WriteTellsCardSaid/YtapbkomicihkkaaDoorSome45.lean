/- Some contract of a plan, some number: spoilt or not, with something odd or not. -/
import Derived.Test.YtapbkomicihkkaaDoorSpoilt
import Derived.Test.YtapbkomicihkkaaDoorOdd2
import Derived.Deep.DeepCutAuto
import Derived.Deep.CutBlock
namespace Go.Proofs.YtapbkomicihkkaaDoor
open Go.RowKit
set_option linter.unusedVariables false
set_option linter.unusedSimpArgs false

theorem Ob.tr_shape : ∀ (o : Ob), o.tr.shape
  | .const n => by unfold Ob.tr Tr.shape Tr.shapeAll; exact ⟨rfl, trivial⟩
  | .fix s => by unfold Ob.tr Tr.shape Tr.shapeAll; exact ⟨rfl, trivial⟩
  | .neg o => by unfold Ob.tr Tr.shape Tr.shapeAll Tr.shapeAll; exact ⟨rfl, o.tr_shape, trivial⟩
  | .add l r => by unfold Ob.tr Tr.shape Tr.shapeAll Tr.shapeAll Tr.shapeAll; exact ⟨rfl, l.tr_shape, r.tr_shape, trivial⟩
  | .mul l r => by unfold Ob.tr Tr.shape Tr.shapeAll Tr.shapeAll Tr.shapeAll; exact ⟨rfl, l.tr_shape, r.tr_shape, trivial⟩
  | .max l r => by unfold Ob.tr Tr.shape Tr.shapeAll Tr.shapeAll Tr.shapeAll; exact ⟨rfl, l.tr_shape, r.tr_shape, trivial⟩
  | .odd _ => by unfold Ob.tr Tr.shape Tr.shapeAll; exact ⟨rfl, trivial⟩
theorem Tm.tr_shape : ∀ (o : Tm), o.tr.shape
  | .zero => by unfold Tm.tr Tr.shape Tr.shapeAll; exact ⟨rfl, trivial⟩
  | .one s => by unfold Tm.tr Tr.shape Tr.shapeAll; exact ⟨rfl, trivial⟩
  | .give o => by unfold Tm.tr Tr.shape Tr.shapeAll Tr.shapeAll; exact ⟨rfl, o.tr_shape, trivial⟩
  | .and l r => by unfold Tm.tr Tr.shape Tr.shapeAll Tr.shapeAll Tr.shapeAll; exact ⟨rfl, l.tr_shape, r.tr_shape, trivial⟩
  | .or s l r => by unfold Tm.tr Tr.shape Tr.shapeAll Tr.shapeAll Tr.shapeAll; exact ⟨rfl, l.tr_shape, r.tr_shape, trivial⟩
  | .scale o r => by unfold Tm.tr Tr.shape Tr.shapeAll Tr.shapeAll Tr.shapeAll; exact ⟨rfl, o.tr_shape, r.tr_shape, trivial⟩
  | .when_ n o => by unfold Tm.tr Tr.shape Tr.shapeAll Tr.shapeAll; exact ⟨rfl, o.tr_shape, trivial⟩
  | .if_ o l r => by unfold Tm.tr Tr.shape Tr.shapeAll Tr.shapeAll Tr.shapeAll Tr.shapeAll; exact ⟨rfl, o.tr_shape, l.tr_shape, r.tr_shape, trivial⟩
  | .odd _ => by unfold Tm.tr Tr.shape Tr.shapeAll; exact ⟨rfl, trivial⟩
theorem Ob.fine_nodes : ∀ (o : Ob), o.fine → 1 ≤ o.tr.nodes
  | .const n, _ => by simp [Ob.tr, Tr.nodes]
  | .fix s, _ => by simp [Ob.tr, Tr.nodes]
  | .neg o, _ => by simp [Ob.tr, Tr.nodes]
  | .add l r, _ => by simp [Ob.tr, Tr.nodes]
  | .mul l r, _ => by simp [Ob.tr, Tr.nodes]
  | .max l r, _ => by simp [Ob.tr, Tr.nodes]
  | .odd _, h => h.elim
theorem Tm.fine_nodes : ∀ (o : Tm), o.fine → 1 ≤ o.tr.nodes
  | .zero, _ => by simp [Tm.tr, Tr.nodes]
  | .one s, _ => by simp [Tm.tr, Tr.nodes]
  | .give o, _ => by simp [Tm.tr, Tr.nodes]
  | .and l r, _ => by simp [Tm.tr, Tr.nodes]
  | .or s l r, _ => by simp [Tm.tr, Tr.nodes]
  | .scale o r, _ => by simp [Tm.tr, Tr.nodes]
  | .when_ n o, _ => by simp [Tm.tr, Tr.nodes]
  | .if_ o l r, _ => by simp [Tm.tr, Tr.nodes]
  | .odd _, h => h.elim
theorem results_1T {fn : Func} {t u : Tmp} (h : fn.results = #[.tmp u, .cell t 30]) (tmps : Array Value) (W : World) (r : Nat) (a b c d z : Value) (ty : TypeId) (ht : tmps.getD t undef = .pointer (some ⟨r, 0, none⟩)) (hz : tmps.getD u undef = z) (hk : Blk W r #[a, b, c, d] ty) :
    (results fn tmps).run Tryd.prog W = .ok (.tuple #[z, .agg #[a, b, c, d]]) W := by
  obtain ⟨⟨k0, k1, k2, k3⟩, _⟩ := hk.four
  have ht' : tmps[t]?.getD undef = .pointer (some ⟨r, 0, none⟩) := by simpa using ht
  have hz' : tmps[u]?.getD undef = z := by simpa using hz
  simp [results, h, ht', hz', go_sem, k0, k1, k2, k3]
theorem tdiv_in (n : Int) (d : Nat) (hd : 0 < d) (h : -9223372036854775808 ≤ n ∧ n ≤ 9223372036854775807) : (-9223372036854775808 ≤ n.tdiv d ∧ n.tdiv d ≤ 9223372036854775807) ∧ IntKind.i64.wrap (n.tdiv d) = n.tdiv d := by
  have hb : -9223372036854775808 ≤ n.tdiv d ∧ n.tdiv d ≤ 9223372036854775807 := by
    have h1 : (n.tdiv d).natAbs ≤ n.natAbs := by
      rw [Int.natAbs_tdiv]; exact Nat.div_le_self _ _
    rcases Int.le_total 0 n with h0 | h0
    · have := Int.tdiv_nonneg h0 (Int.natCast_nonneg d)
      omega
    · have h2 : n.tdiv d ≤ 0 := by
        have := Int.tdiv_nonneg (show (0 : Int) ≤ -n by omega) (Int.natCast_nonneg d)
        rw [Int.neg_tdiv] at this
        omega
      omega
  exact ⟨hb, IntWalk.i64_in _ (by omega)⟩
theorem tmod_in (n : Int) (d : Nat) (hd : 0 < d) (hs : d ≤ 100) : IntKind.i64.wrap (n.tmod d) = n.tmod d := by
  have h1 : n.tmod d < d := Int.tmod_lt_of_pos _ (by omega)
  have h2 : -(d : Int) < n.tmod d := Int.lt_tmod_of_pos n (by omega)
  exact IntWalk.i64_in _ (by omega)
def RetC5 (w : World) (e : Ending) (w' : World) : Prop := ∃ (o : Tm) (v : Value), e = .returned (.tuple #[o.val, v]) ∧ TrAt w.heap.size w' o.tr v ∧ o.nice 60 ∧ Below w.heap.size w w'
def RetC4 (w : World) (e : Ending) (w' : World) : Prop := ∃ (o : Ob) (v : Value), e = .returned (.tuple #[o.val, v]) ∧ TrAt w.heap.size w' o.tr v ∧ o.nice 60 ∧ Below w.heap.size w w'
set_option maxRecDepth 100000 in
set_option maxHeartbeats 8000000 in
theorem some5_calls (w : World) (vN vW : Value) (hp : PlanAt w vN vW) (at_ what v : Int) (s : ByteArray) (odd : Int) (hat : -9223372036854775808 ≤ at_ ∧ at_ ≤ 9223372036854775807) (hwh : -9223372036854775808 ≤ what ∧ what ≤ 9223372036854775807) (hv : -9223372036854775808 ≤ v ∧ v ≤ 9223372036854775807) (hss : s.size ≤ 9223372036854775807) (ho : -9223372036854775808 ≤ odd ∧ odd ≤ 9223372036854775807) :
    Calls Tryd.prog 11 #[.agg #[vN, vW], .int .i64 at_, .int .i64 what, .int .i64 v, .string s, .int .i64 odd] w (RetC5 w) := by
  obtain ⟨⟨A, n, c, xs, rfl, hn⟩, ⟨A', n', c', xs', rfl, hn'⟩⟩ := id hp
  clear hn hn'
  obtain ⟨W1, hW1⟩ : ∃ W1, (w.alloc (.cells #[.slice A n c, .slice A' n' c'] 25)).alloc (.cells #[.int .i64 0, .string ⟨#[]⟩, .int .i64 0, .slice none 0 0] 30) = W1 := ⟨_, rfl⟩
  have hb1 := bl_alloc (bl_alloc (bl_refl w) (.cells #[.slice A n c, .slice A' n' c'] 25)) (.cells #[.int .i64 0, .string ⟨#[]⟩, .int .i64 0, .slice none 0 0] 30)
  have hkP := (Blk.new w #[.slice A n c, .slice A' n' c'] 25).below (bl_alloc (bl_refl _) (.cells #[.int .i64 0, .string ⟨#[]⟩, .int .i64 0, .slice none 0 0] 30))
  have hkR := Blk_new (w.alloc (.cells #[.slice A n c, .slice A' n' c'] 25)) #[.int .i64 0, .string ⟨#[]⟩, .int .i64 0, .slice none 0 0] 30 (w.heap.size + 1) (alloc_size _ _).symm
  have hs1 : W1.heap.size = w.heap.size + 2 := by rw [← hW1]; simp
  rw [hW1] at hb1 hkP hkR
  have p0 := hkP.cell 0
  have p1 := hkP.cell 1
  have hcn := pcontract_calls W1 _ _ (hp.below hb1)
  unfold GivesTr at hcn
  have HW1 := Lib.hid hW1; have HKR := Lib.hid hkR; have HB1 := Lib.hid hb1; have HS1 := Lib.hid hs1; have HCN := Lib.hid hcn
  clear hW1 hkP hkR hs1 hp hb1 hcn
  go_enter Tryd.func11, Tryd.ntmps11
  go_upto_region 1 with fail
  rw [HW1.out]
  go_wp2_with fail
  refine (HCN.out).mono ?_
  rintro e w2 ⟨t, v5, rfl, hT, hf, hparts, hb2⟩
  obtain ⟨A3, c3, cs3, rfl, -, -⟩ := hT.open_
  have HKR2 := Lib.hid (HKR.out.below hb2)
  have hts : t.tr.size ≤ 34 := by rw [t.tr_size hf]; exact hparts
  have hto := t.tr_ok hf
  have htn := t.fine_nodes hf
  have hth := t.tr_shape
  clear hparts hf HW1 HCN p0 p1
  generalize t.tr = tr at *
  clear t
  go_upto_region 2 with fail
  obtain ⟨q, hq⟩ : ∃ q, w2.heap.size = q := ⟨_, rfl⟩
  have hk3 := Blk_new w2 #[.int .i64 tr.kind, .string tr.s, .int .i64 tr.n, .slice A3 tr.ks.length c3] 30 q hq.symm
  have hb3 := bl_alloc (bl_refl w2) (.cells #[.int .i64 tr.kind, .string tr.s, .int .i64 tr.n, .slice A3 tr.ks.length c3] 30)
  obtain ⟨W3, hW3⟩ : ∃ W3, w2.alloc (.cells #[.int .i64 tr.kind, .string tr.s, .int .i64 tr.n, .slice A3 tr.ks.length c3] 30) = W3 := ⟨_, rfl⟩
  rw [hW3] at hk3 hb3 ⊢
  rw [hq]
  have hqs : w.heap.size + 2 ≤ q := by have := hb2.size; have := HS1.out; omega
  have hT3 : TrP (w.heap.size + 2) (fun b => b ≠ q) W3 tr (.agg #[.int .i64 tr.kind, .string tr.s, .int .i64 tr.n, .slice A3 tr.ks.length c3]) := by
    have h1 := (TrP.of tr _ hT).old hb3 (show w2.heap.size ≤ q by omega)
    rw [HS1.out] at h1
    exact h1.mono (fun _ hh => hh.2)
  have HK3 := Lib.hid hk3; have HB3 := Lib.hid (bl_step hb3 (bl_step hb2 HB1.out)); have HKR3 := Lib.hid (HKR2.out.below hb3); have HT3 := Lib.hid hT3
  clear hW3 hk3 hb3 hb2 hT hT3 HKR2 HKR hq
  have hq3 := HK3.out.lt
  go_upto_if 20 with fail
  go_cut [] (fun wx => ∃ (u : Tr) (A2 : Option Addr) (c2 : Nat), Blk wx q #[.int .i64 u.kind, .string u.s, .int .i64 u.n, .slice A2 u.ks.length c2] 30 ∧ Blk wx (w.heap.size + 1) #[.int .i64 0, .string ⟨#[]⟩, .int .i64 0, .slice none 0 0] 30 ∧ Below w.heap.size w wx ∧ TrAt (w.heap.size + 2) wx u (.agg #[.int .i64 u.kind, .string u.s, .int .i64 u.n, .slice A2 u.ks.length c2]) ∧ u.shape ∧ u.ok ∧ u.size ≤ 34)
  case first =>
    have hmw := tmod_in what 4 (by omega) (by omega)
    obtain ⟨hd1, hd2⟩ := tdiv_in what 4 (by omega) hwh
    have hsp := fun W vt hx hP hT => spoilt_calls at_ (what.tdiv 4) v s hat hd1 hv hss tr (by omega) hth hto htn (w.heap.size + 2) (fun b => b ≠ q) W vt hx hP hT
    unfold GivesU at hsp
    have HSP := Lib.hid hsp
    clear hsp
    obtain ⟨⟨k0, k1, k2, k3⟩, ⟨f0, f1, f2, f3⟩⟩ := HK3.out.four
    by_cases hz : what.tmod 4 = 0
    · have hzb : (what.tmod 4 == 0) = true := by simp [hz]
      clear hz
      go_wp2_with fail
      refine (HSP.out W3 _ (by omega) (fun b hb => by omega) HT3.out).mono ?_
      rintro en w5 ⟨u, vu, rfl, hU, hug, hb5⟩
      obtain ⟨A5, c5, cs5, rfl, -, -⟩ := hU.open_
      have hk5 := HK3.out.below hb5
      clear k0 k1 k2 k3 f0 f1 f2 f3
      obtain ⟨⟨k0, k1, k2, k3⟩, ⟨f0, f1, f2, f3⟩⟩ := hk5.four
      have hl5 := hk5.lt
      have HK5 := Lib.hid hk5; have HU := Lib.hid hU; have HUG := Lib.hid hug; have HB5 := Lib.hid (bl_step hb5 HB3.out); have HKR5 := Lib.hid (HKR3.out.below hb5)
      clear hk5 hU hug hb5 HSP
      go_wp2_with fail
      go_meet
      exact ⟨u, A5, c5, HK5.out.set4 _ _ _ _, HKR5.out.grown (gb4 _ _ _ _ _ _) (fun e => by injection e with e; omega), bl_grown HB5.out (gb4 _ _ _ _ _ _) (by omega), (HU.out.grown (gb4 _ _ _ _ _ _) (fun hh => hh rfl)).to _ _, HUG.out.1, HUG.out.2.1, by have := HUG.out.2.2; omega⟩
    · have hzb : (what.tmod 4 == 0) = false := by simp [hz]
      clear hz
      go_wp2_with fail
      go_meet
      exact ⟨tr, A3, c3, HK3.out, HKR3.out, HB3.out, HT3.out.to _ _, hth, hto, hts⟩
  obtain ⟨u, A2, c2, hk4, hkr4, hb4, hT4, hsh, huk, hus⟩ := hcut
  rename World => w4
  obtain ⟨o, hfo, hno⟩ := Tm.from_tree 1000000 u (by omega) hsh huk
  have hct := cterm_from o u hfo hno.ok (w.heap.size + 2) w4 _ hT4
  unfold GivesT at hct
  obtain ⟨⟨k0, k1, k2, k3⟩, -⟩ := hk4.four
  have hni : o.nice 34 := ⟨hno.ok, hno.tr, Nat.le_trans hno.size hus, Nat.le_trans hno.meas hus⟩
  have HCT := Lib.hid hct; have HB4 := Lib.hid hb4; have HKR4 := Lib.hid hkr4; have HNI := Lib.hid hni
  clear hct hb4 hkr4 hni hfo hno hk4 hT4 hsh huk hus HK3 HB3 HKR3 HT3 hts hto htn hth hq3
  go_wp2_with fail
  refine (HCT.out).mono ?_
  rintro en w5 ⟨rfl, hb5⟩
  have HB5 := Lib.hid (bl_step hb5 HB4.out); have HKR5 := Lib.hid (HKR4.out.below hb5)
  clear k0 k1 k2 k3 hb5 HCT HB4 HKR4
  have hti := o.isI HNI.out.ok
  have hwi := fun W => within_calls odd 30 W ho (by omega)
  obtain ⟨r, hr⟩ : ∃ r : Int, odd % 30 = r := ⟨_, rfl⟩
  rw [hr] at hwi
  have HWI := Lib.hid hwi
  clear hwi hr
  go_wp2_with fail
  refine (HWI.out _).mono ?_
  rintro en wZ ⟨rfl, rfl⟩
  go_upto_block 0 with fail
  go_cut [15] (fun z wx => ∃ p : Tm, z = p.val ∧ Below wZ.heap.size wZ wx ∧ p.nice 60)
  case first =>
    obtain ⟨hd1, hd2⟩ := tdiv_in odd 30 (by omega) ho
    have hod := fun W => odd2_calls (odd.tdiv 30) hd1 W
    have HOD := Lib.hid hod
    clear hod
    by_cases h27 : r = 27
    · subst h27
      go_wp2_with fail
      refine (HOD.out _).mono ?_
      rintro en w6 ⟨z, rfl, hz1, -, hb6⟩
      have hzi := (Tm.odd z).isI hz1
      have hzi2 : IsI z := hzi
      have HZ := Lib.hid hz1; have HB6 := Lib.hid hb6
      clear hz1 hb6 HOD
      go_wp2_with fail
      go_meet
      have hn := odd_term HZ.out
      exact ⟨.and o (.odd z), rfl, HB6.out, ⟨⟨HNI.out.ok, hn.ok⟩, by unfold Tm.tr Tr.ok; exact ⟨nodeOk_nil _ (by omega), Tr.okAll_two HNI.out.tr hn.tr⟩, by have := HNI.out.size; have := hn.size; simp only [Tm.tr, Tr.size, Tr.sizeAll] at *; omega, by have := HNI.out.meas; simp only [Tm.meas]; omega⟩⟩
    · have b27 : (r == 27) = false := by simpa using h27
      by_cases h28 : r = 28
      · subst h28
        go_wp2_with fail
        refine (HOD.out _).mono ?_
        rintro en w6 ⟨z, rfl, -, hz1, hb6⟩
        obtain ⟨ob, rfl, hn⟩ := odd_num hz1
        have hzi := ob.isI hn.ok
        have HN := Lib.hid hn; have HB6 := Lib.hid hb6
        clear hz1 hb6 HOD hn
        go_wp2_with fail
        go_meet
        exact ⟨.scale ob o, rfl, HB6.out, ⟨⟨HN.out.ok, HNI.out.ok⟩, by unfold Tm.tr Tr.ok; exact ⟨nodeOk_nil _ (by omega), Tr.okAll_two HN.out.tr HNI.out.tr⟩, by have := HNI.out.size; have := HN.out.size; simp only [Tm.tr, Tr.size, Tr.sizeAll] at *; omega, by have := HNI.out.meas; have := HN.out.meas; simp only [Tm.meas]; omega⟩⟩
      · have b28 : (r == 28) = false := by simpa using h28
        by_cases h29 : r = 29
        · subst h29
          go_wp2_with fail
          refine (HOD.out _).mono ?_
          rintro en w6 ⟨z, rfl, hz1, -, hb6⟩
          have HZ := Lib.hid hz1; have HB6 := Lib.hid hb6
          clear hz1 hb6 HOD
          go_wp2_with fail
          go_meet
          have hn := odd_term HZ.out
          exact ⟨.odd z, rfl, HB6.out, ⟨hn.ok, hn.tr, Nat.le_trans hn.size (by omega), Nat.le_trans hn.meas (by omega)⟩⟩
        · have b29 : (r == 29) = false := by simpa using h29
          go_wp2_with fail
          go_meet
          exact ⟨o, rfl, bl_refl _, ⟨HNI.out.ok, HNI.out.tr, Nat.le_trans HNI.out.size (by omega), Nat.le_trans HNI.out.meas (by omega)⟩⟩
  obtain ⟨p, rfl, hb6, hpn⟩ := hcut
  rename World => w6
  have hpo := hpn.ok
  have hti := p.isI hpo
  have hpl := plterm_calls p hpo w6
  unfold GivesP at hpl
  have HPL := Lib.hid hpl; have HPN := Lib.hid hpn; have HB6 := Lib.hid (bl_step hb6 HB5.out); have HKR6 := Lib.hid (HKR5.out.below hb6)
  clear hpl hpn hb6 HB5 HKR5
  go_wp2_with fail
  refine (HPL.out).mono ?_
  rintro en w7 ⟨vp, rfl, hTp, hb7⟩
  obtain ⟨A7, c7, cs7, rfl, -, -⟩ := hTp.open_
  have hk7 := HKR6.out.below hb7
  obtain ⟨⟨m0, m1, m2, m3⟩, ⟨x0, x1, x2, x3⟩⟩ := hk7.four
  have hl7 := hk7.lt
  have hs6 := HB6.out.size
  have hs7 := HKR6.out.lt
  have HK7 := Lib.hid hk7; have HTP := Lib.hid hTp; have HB7 := Lib.hid (bl_step hb7 HB6.out)
  clear hk7 hTp hb7 HPL
  go_wp2_with fail
  (try simp only [Exit.inBlock, Exit.then])
  refine bodyPost_ret (results_1T rfl _ _ (w.heap.size + 1) _ _ _ _ _ _ rfl rfl (HK7.out.set4 _ _ _ _)) rfl ?_
  exact ⟨p, _, rfl, (HTP.out.grown (gb4 _ _ _ _ _ _) (by omega)).mono (by omega), HPN.out, bl_grown HB7.out (gb4 _ _ _ _ _ _) (by omega)⟩
set_option maxRecDepth 100000 in
set_option maxHeartbeats 8000000 in
theorem some4_calls (w : World) (vN vW : Value) (hp : PlanAt w vN vW) (at_ what v : Int) (s : ByteArray) (odd : Int) (hat : -9223372036854775808 ≤ at_ ∧ at_ ≤ 9223372036854775807) (hwh : -9223372036854775808 ≤ what ∧ what ≤ 9223372036854775807) (hv : -9223372036854775808 ≤ v ∧ v ≤ 9223372036854775807) (hss : s.size ≤ 9223372036854775807) (ho : -9223372036854775808 ≤ odd ∧ odd ≤ 9223372036854775807) :
    Calls Tryd.prog 12 #[.agg #[vN, vW], .int .i64 at_, .int .i64 what, .int .i64 v, .string s, .int .i64 odd] w (RetC4 w) := by
  obtain ⟨⟨A, n, c, xs, rfl, hn⟩, ⟨A', n', c', xs', rfl, hn'⟩⟩ := id hp
  clear hn hn'
  obtain ⟨W1, hW1⟩ : ∃ W1, (w.alloc (.cells #[.slice A n c, .slice A' n' c'] 25)).alloc (.cells #[.int .i64 0, .string ⟨#[]⟩, .int .i64 0, .slice none 0 0] 30) = W1 := ⟨_, rfl⟩
  have hb1 := bl_alloc (bl_alloc (bl_refl w) (.cells #[.slice A n c, .slice A' n' c'] 25)) (.cells #[.int .i64 0, .string ⟨#[]⟩, .int .i64 0, .slice none 0 0] 30)
  have hkP := (Blk.new w #[.slice A n c, .slice A' n' c'] 25).below (bl_alloc (bl_refl _) (.cells #[.int .i64 0, .string ⟨#[]⟩, .int .i64 0, .slice none 0 0] 30))
  have hkR := Blk_new (w.alloc (.cells #[.slice A n c, .slice A' n' c'] 25)) #[.int .i64 0, .string ⟨#[]⟩, .int .i64 0, .slice none 0 0] 30 (w.heap.size + 1) (alloc_size _ _).symm
  have hs1 : W1.heap.size = w.heap.size + 2 := by rw [← hW1]; simp
  rw [hW1] at hb1 hkP hkR
  have p0 := hkP.cell 0
  have p1 := hkP.cell 1
  have hcn := pnumber_calls W1 _ _ (hp.below hb1)
  unfold GivesOTr at hcn
  have HW1 := Lib.hid hW1; have HKR := Lib.hid hkR; have HB1 := Lib.hid hb1; have HS1 := Lib.hid hs1; have HCN := Lib.hid hcn
  clear hW1 hkP hkR hs1 hp hb1 hcn
  go_enter Tryd.func12, Tryd.ntmps12
  go_upto_region 1 with fail
  rw [HW1.out]
  go_wp2_with fail
  refine (HCN.out).mono ?_
  rintro e w2 ⟨t, v5, rfl, hT, hf, hparts, hb2⟩
  obtain ⟨A3, c3, cs3, rfl, -, -⟩ := hT.open_
  have HKR2 := Lib.hid (HKR.out.below hb2)
  have hts : t.tr.size ≤ 34 := by rw [t.tr_size hf]; exact hparts
  have hto := t.tr_ok hf
  have htn := t.fine_nodes hf
  have hth := t.tr_shape
  clear hparts hf HW1 HCN p0 p1
  generalize t.tr = tr at *
  clear t
  go_upto_region 2 with fail
  obtain ⟨q, hq⟩ : ∃ q, w2.heap.size = q := ⟨_, rfl⟩
  have hk3 := Blk_new w2 #[.int .i64 tr.kind, .string tr.s, .int .i64 tr.n, .slice A3 tr.ks.length c3] 30 q hq.symm
  have hb3 := bl_alloc (bl_refl w2) (.cells #[.int .i64 tr.kind, .string tr.s, .int .i64 tr.n, .slice A3 tr.ks.length c3] 30)
  obtain ⟨W3, hW3⟩ : ∃ W3, w2.alloc (.cells #[.int .i64 tr.kind, .string tr.s, .int .i64 tr.n, .slice A3 tr.ks.length c3] 30) = W3 := ⟨_, rfl⟩
  rw [hW3] at hk3 hb3 ⊢
  rw [hq]
  have hqs : w.heap.size + 2 ≤ q := by have := hb2.size; have := HS1.out; omega
  have hT3 : TrP (w.heap.size + 2) (fun b => b ≠ q) W3 tr (.agg #[.int .i64 tr.kind, .string tr.s, .int .i64 tr.n, .slice A3 tr.ks.length c3]) := by
    have h1 := (TrP.of tr _ hT).old hb3 (show w2.heap.size ≤ q by omega)
    rw [HS1.out] at h1
    exact h1.mono (fun _ hh => hh.2)
  have HK3 := Lib.hid hk3; have HB3 := Lib.hid (bl_step hb3 (bl_step hb2 HB1.out)); have HKR3 := Lib.hid (HKR2.out.below hb3); have HT3 := Lib.hid hT3
  clear hW3 hk3 hb3 hb2 hT hT3 HKR2 HKR hq
  have hq3 := HK3.out.lt
  go_upto_if 20 with fail
  go_cut [] (fun wx => ∃ (u : Tr) (A2 : Option Addr) (c2 : Nat), Blk wx q #[.int .i64 u.kind, .string u.s, .int .i64 u.n, .slice A2 u.ks.length c2] 30 ∧ Blk wx (w.heap.size + 1) #[.int .i64 0, .string ⟨#[]⟩, .int .i64 0, .slice none 0 0] 30 ∧ Below w.heap.size w wx ∧ TrAt (w.heap.size + 2) wx u (.agg #[.int .i64 u.kind, .string u.s, .int .i64 u.n, .slice A2 u.ks.length c2]) ∧ u.shape ∧ u.ok ∧ u.size ≤ 34)
  case first =>
    have hmw := tmod_in what 4 (by omega) (by omega)
    obtain ⟨hd1, hd2⟩ := tdiv_in what 4 (by omega) hwh
    have hsp := fun W vt hx hP hT => spoilt_calls at_ (what.tdiv 4) v s hat hd1 hv hss tr (by omega) hth hto htn (w.heap.size + 2) (fun b => b ≠ q) W vt hx hP hT
    unfold GivesU at hsp
    have HSP := Lib.hid hsp
    clear hsp
    obtain ⟨⟨k0, k1, k2, k3⟩, ⟨f0, f1, f2, f3⟩⟩ := HK3.out.four
    by_cases hz : what.tmod 4 = 0
    · have hzb : (what.tmod 4 == 0) = true := by simp [hz]
      clear hz
      go_wp2_with fail
      refine (HSP.out W3 _ (by omega) (fun b hb => by omega) HT3.out).mono ?_
      rintro en w5 ⟨u, vu, rfl, hU, hug, hb5⟩
      obtain ⟨A5, c5, cs5, rfl, -, -⟩ := hU.open_
      have hk5 := HK3.out.below hb5
      clear k0 k1 k2 k3 f0 f1 f2 f3
      obtain ⟨⟨k0, k1, k2, k3⟩, ⟨f0, f1, f2, f3⟩⟩ := hk5.four
      have hl5 := hk5.lt
      have HK5 := Lib.hid hk5; have HU := Lib.hid hU; have HUG := Lib.hid hug; have HB5 := Lib.hid (bl_step hb5 HB3.out); have HKR5 := Lib.hid (HKR3.out.below hb5)
      clear hk5 hU hug hb5 HSP
      go_wp2_with fail
      go_meet
      exact ⟨u, A5, c5, HK5.out.set4 _ _ _ _, HKR5.out.grown (gb4 _ _ _ _ _ _) (fun e => by injection e with e; omega), bl_grown HB5.out (gb4 _ _ _ _ _ _) (by omega), (HU.out.grown (gb4 _ _ _ _ _ _) (fun hh => hh rfl)).to _ _, HUG.out.1, HUG.out.2.1, by have := HUG.out.2.2; omega⟩
    · have hzb : (what.tmod 4 == 0) = false := by simp [hz]
      clear hz
      go_wp2_with fail
      go_meet
      exact ⟨tr, A3, c3, HK3.out, HKR3.out, HB3.out, HT3.out.to _ _, hth, hto, hts⟩
  obtain ⟨u, A2, c2, hk4, hkr4, hb4, hT4, hsh, huk, hus⟩ := hcut
  rename World => w4
  obtain ⟨o, hfo, hno⟩ := Ob.from_tree 1000000 u (by omega) hsh huk
  have hct := cobs_from o u hfo hno.ok (w.heap.size + 2) w4 _ hT4
  unfold GivesO at hct
  obtain ⟨⟨k0, k1, k2, k3⟩, -⟩ := hk4.four
  have hni : o.nice 34 := ⟨hno.ok, hno.tr, Nat.le_trans hno.size hus, Nat.le_trans hno.meas hus⟩
  have HCT := Lib.hid hct; have HB4 := Lib.hid hb4; have HKR4 := Lib.hid hkr4; have HNI := Lib.hid hni
  clear hct hb4 hkr4 hni hfo hno hk4 hT4 hsh huk hus HK3 HB3 HKR3 HT3 hts hto htn hth hq3
  go_wp2_with fail
  refine (HCT.out).mono ?_
  rintro en w5 ⟨rfl, hb5⟩
  have HB5 := Lib.hid (bl_step hb5 HB4.out); have HKR5 := Lib.hid (HKR4.out.below hb5)
  clear k0 k1 k2 k3 hb5 HCT HB4 HKR4
  have hti := o.isI HNI.out.ok
  obtain ⟨wZ, hwZ⟩ : ∃ z, w5 = z := ⟨_, rfl⟩
  subst hwZ
  go_upto_if 32 with fail
  go_cut [15] (fun z wx => ∃ p : Ob, z = p.val ∧ Below w5.heap.size w5 wx ∧ p.nice 60)
  case first =>
    have hmw := tmod_in odd 9 (by omega) (by omega)
    obtain ⟨hd1, hd2⟩ := tdiv_in odd 9 (by omega) ho
    have hod := fun W => odd2_calls (odd.tdiv 9) hd1 W
    have HOD := Lib.hid hod
    clear hod
    by_cases h8 : odd.tmod 9 = 8
    · have b8 : (odd.tmod 9 == 8) = true := by simp [h8]
      clear h8
      go_wp2_with fail
      refine (HOD.out _).mono ?_
      rintro en w6 ⟨z, rfl, -, hz1, hb6⟩
      obtain ⟨ob, rfl, hn⟩ := odd_num hz1
      have hzi := ob.isI hn.ok
      have HN := Lib.hid hn; have HB6 := Lib.hid hb6
      clear hz1 hb6 HOD hn
      go_wp2_with fail
      go_meet
      exact ⟨.add o ob, rfl, HB6.out, ⟨⟨HNI.out.ok, HN.out.ok⟩, by unfold Ob.tr Tr.ok; exact ⟨nodeOk_nil _ (by omega), Tr.okAll_two HNI.out.tr HN.out.tr⟩, by have := HNI.out.size; have := HN.out.size; simp only [Ob.tr, Tr.size, Tr.sizeAll] at *; omega, by have := HNI.out.meas; have := HN.out.meas; simp only [Ob.meas]; omega⟩⟩
    · have b8 : (odd.tmod 9 == 8) = false := by simp [h8]
      clear h8
      go_wp2_with fail
      go_meet
      exact ⟨o, rfl, bl_refl _, ⟨HNI.out.ok, HNI.out.tr, Nat.le_trans HNI.out.size (by omega), Nat.le_trans HNI.out.meas (by omega)⟩⟩
  obtain ⟨p, rfl, hb6, hpn⟩ := hcut
  rename World => w6
  have hpo := hpn.ok
  have hti := p.isI hpo
  have hpl := plobs_calls p hpo w6
  unfold GivesP at hpl
  have HPL := Lib.hid hpl; have HPN := Lib.hid hpn; have HB6 := Lib.hid (bl_step hb6 HB5.out); have HKR6 := Lib.hid (HKR5.out.below hb6)
  clear hpl hpn hb6 HB5 HKR5
  go_wp2_with fail
  refine (HPL.out).mono ?_
  rintro en w7 ⟨vp, rfl, hTp, hb7⟩
  obtain ⟨A7, c7, cs7, rfl, -, -⟩ := hTp.open_
  have hk7 := HKR6.out.below hb7
  obtain ⟨⟨m0, m1, m2, m3⟩, ⟨x0, x1, x2, x3⟩⟩ := hk7.four
  have hl7 := hk7.lt
  have hs6 := HB6.out.size
  have hs7 := HKR6.out.lt
  have HK7 := Lib.hid hk7; have HTP := Lib.hid hTp; have HB7 := Lib.hid (bl_step hb7 HB6.out)
  clear hk7 hTp hb7 HPL
  go_wp2_with fail
  (try simp only [Exit.inBlock, Exit.then])
  refine bodyPost_ret (results_1T rfl _ _ (w.heap.size + 1) _ _ _ _ _ _ rfl rfl (HK7.out.set4 _ _ _ _)) rfl ?_
  exact ⟨p, _, rfl, (HTP.out.grown (gb4 _ _ _ _ _ _) (by omega)).mono (by omega), HPN.out, bl_grown HB7.out (gb4 _ _ _ _ _ _) (by omega)⟩
end Go.Proofs.YtapbkomicihkkaaDoor
