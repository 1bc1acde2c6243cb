/- The walk of WriteForms. -/
import Derived.Test.YtapbkomicihkkaaDoorForms0
import Derived.Test.YtapbkomicihkkaaDoorConv2
import Derived.Test.YtapbkomicihkkaaDoorWakes6
import Derived.Test.YtapbkomicihkkaaDoorBuild
namespace Go.Proofs.YtapbkomicihkkaaDoor
open Go.RowKit
set_option linter.unusedVariables false
set_option linter.unusedSimpArgs false

@[go_sem ↓] theorem bd_frm (parts : Array (Nat × Value)) : Instr.build 47 parts = bdN 47 parts := rfl
@[go_sem] theorem run_bd_frm (t : TypeId) (x : Value) (s : ByteArray) (W : World) : (bdN 47 #[(0, .iface t x), (1, .string s)]).run Tryd.prog W = .ok (.agg #[.iface t x, .string s]) W := by kernel_rfl
@[go_sem ↓] theorem bs_frm (n : Nat) (parts : Array (Nat × Value)) : Instr.buildSlice 64 n parts = bsN 64 n parts := rfl
@[go_sem] theorem run_bs_frm (t0 t1 t2 t3 t4 t5 t6 t7 : TypeId) (x0 x1 x2 x3 x4 x5 x6 x7 : Value) (s0 s1 s2 s3 s4 s5 s6 s7 : ByteArray) (W : World) : (bsN 64 8 #[(0, .agg #[.iface t0 x0, .string s0]), (1, .agg #[.iface t1 x1, .string s1]), (2, .agg #[.iface t2 x2, .string s2]), (3, .agg #[.iface t3 x3, .string s3]), (4, .agg #[.iface t4 x4, .string s4]), (5, .agg #[.iface t5 x5, .string s5]), (6, .agg #[.iface t6 x6, .string s6]), (7, .agg #[.iface t7 x7, .string s7])]).run Tryd.prog W = .ok (.slice (some ⟨W.heap.size, 0, none⟩) 8 8) (W.alloc (.cells #[.iface t0 x0, .string s0, .iface t1 x1, .string s1, .iface t2 x2, .string s2, .iface t3 x3, .string s3, .iface t4 x4, .string s4, .iface t5 x5, .string s5, .iface t6 x6, .string s6, .iface t7 x7, .string s7] 47)) := by kernel_rfl
/-- The eight forms as they lie in memory. -/
def frmA (d : Nat) (D S a b : ByteArray) (x y : Value) : Array Value :=
  #[.iface 46 (.agg #[]), .string ⟨#[122, 101, 114, 111]⟩,
  .iface 49 (.agg #[.string ⟨#[101, 117, 114]⟩]), .string ⟨#[111, 110, 101, 40, 101, 117, 114, 41]⟩,
  .iface 51 (.agg #[x]), .string (⟨#[103, 105, 118, 101, 40]⟩ ++ a ++ ⟨#[41]⟩),
  .iface 53 (.agg #[x, y]), .string (⟨#[97, 110, 100, 40]⟩ ++ a ++ ⟨#[44]⟩ ++ b ++ ⟨#[41]⟩),
  .iface 55 (.agg #[.string ⟨#[110, 101, 119]⟩, x, y]), .string (⟨#[111, 114, 40, 110, 101, 119, 44]⟩ ++ a ++ ⟨#[44]⟩ ++ b ++ ⟨#[41]⟩),
  .iface 57 (.agg #[.int .i64 d, y]), .string (⟨#[119, 104, 101, 110, 40]⟩ ++ D ++ ⟨#[44]⟩ ++ b ++ ⟨#[41]⟩),
  .iface 59 (.agg #[.iface 44 (.agg #[.iface 37 (.agg #[.string ⟨#[195, 182, 108]⟩]), .iface 42 (.agg #[.iface 39 (.agg #[.int .i64 (-(d : Int))])])]), x]), .string (⟨#[115, 99, 97, 108, 101, 40]⟩ ++ S ++ ⟨#[44]⟩ ++ a ++ ⟨#[41]⟩),
  .iface 63 (.agg #[.iface 61 (.agg #[.iface 44 (.agg #[.iface 37 (.agg #[.string ⟨#[195, 182, 108]⟩]), .iface 42 (.agg #[.iface 39 (.agg #[.int .i64 (-(d : Int))])])]), .iface 60 (.agg #[.iface 39 (.agg #[.int .i64 1]), .iface 44 (.agg #[.iface 37 (.agg #[.string ⟨#[195, 182, 108]⟩]), .iface 42 (.agg #[.iface 39 (.agg #[.int .i64 (-(d : Int))])])])])]), x, y]), .string (⟨#[105, 102, 40, 109, 97, 120, 40]⟩ ++ S ++ ⟨#[44, 97, 100, 100, 40, 49, 44]⟩ ++ S ++ ⟨#[41, 41, 44]⟩ ++ a ++ ⟨#[44]⟩ ++ b ++ ⟨#[41]⟩)]
theorem frmA_at (d : Nat) (a b : ByteArray) (x y : Tm) : ∀ k, k < 8 → (frmA d (dgS d) (wS d) a b x.val y.val)[k * 2]? = some (frmT d x y k).val ∧ (frmA d (dgS d) (wS d) a b x.val y.val)[k * 2 + 1]? = some (.string (frmS d a b k))
  | 0, _ => ⟨rfl, rfl⟩
  | 1, _ => ⟨rfl, rfl⟩
  | 2, _ => ⟨rfl, rfl⟩
  | 3, _ => ⟨rfl, rfl⟩
  | 4, _ => ⟨rfl, rfl⟩
  | 5, _ => ⟨rfl, rfl⟩
  | 6, _ => ⟨rfl, rfl⟩
  | 7, _ => ⟨rfl, rfl⟩
  | k + 8, h => by omega
theorem wS_size (d : Nat) : (wS d).size ≤ 100 := by
  unfold wS
  split
  · decide
  · rw [ByteArray.size_append, ByteArray.size_append]; exact Nat.le_trans (m := 18 + 1 + 2) (Nat.le_of_eq rfl) (by decide)
set_option maxRecDepth 100000 in
set_option maxHeartbeats 8000000 in
theorem wforms_calls (w : World) (day : Int) (hd : -9223372036854775808 ≤ day ∧ day ≤ 9223372036854775807) (vN vW vN' vW' : Value) (hp : PlanAt w vN vW) (hq : PlanAt w vN' vW') (ht : TabOk w) :
    Calls Tryd.prog 3 #[.int .i64 day, .agg #[vN, vW], .agg #[vN', vW']] w fun e w' => e = .returned (.bool true) ∧ Below w.heap.size w w' := by
  obtain ⟨⟨A1, n1, c1, xs1, rfl, hn1⟩, ⟨B1, m1, d1, ys1, rfl, hm1⟩⟩ := (show PlanAt w vN vW from hp)
  obtain ⟨⟨A2, n2, c2, xs2, rfl, hn2⟩, ⟨B2, m2, d2, ys2, rfl, hm2⟩⟩ := (show PlanAt w vN' vW' from hq)
  clear hn1 hm1 hn2 hm2
  obtain ⟨W1, hW1⟩ : ∃ W1, (w.alloc (.cells #[.slice A1 n1 c1, .slice B1 m1 d1] 25)).alloc (.cells #[.slice A2 n2 c2, .slice B2 m2 d2] 25) = W1 := ⟨_, rfl⟩
  have hb1 := bl_alloc (bl_alloc (bl_refl w) (.cells #[.slice A1 n1 c1, .slice B1 m1 d1] 25)) (.cells #[.slice A2 n2 c2, .slice B2 m2 d2] 25)
  have hk1 := (Blk.new w #[.slice A1 n1 c1, .slice B1 m1 d1] 25).below (bl_alloc (bl_refl _) (.cells #[.slice A2 n2 c2, .slice B2 m2 d2] 25))
  have hk2 := Blk_new (w.alloc (.cells #[.slice A1 n1 c1, .slice B1 m1 d1] 25)) #[.slice A2 n2 c2, .slice B2 m2 d2] 25 (w.heap.size + 1) (alloc_size _ _).symm
  rw [hW1] at hb1 hk1 hk2
  have p0 := hk1.cell 0
  have p1 := hk1.cell 1
  have q0 := hk2.cell 0
  have q1 := hk2.cell 1
  have hwi := fun W => within_calls day 10 W hd (by omega)
  obtain ⟨d, hdd⟩ : ∃ d : Nat, day % 10 = (d : Int) := ⟨(day % 10).toNat, by omega⟩
  have hd10 : d < 10 := by omega
  rw [hdd] at hwi
  have hds := dg_slice d hd10
  have hws : Hid (wS d = if d = 0 then ⟨#[109, 117, 108, 40, 102, 105, 120, 40, 195, 182, 108, 41, 44, 110, 101, 103, 40, 48, 41, 41]⟩ else (⟨#[109, 117, 108, 40, 102, 105, 120, 40, 195, 182, 108, 41, 44, 110, 101, 103, 40, 45]⟩ ++ dgS d) ++ ⟨#[41, 41]⟩) := rfl
  have hD1 : (dgS d).size = 1 := rfl
  obtain ⟨D, hD⟩ : ∃ D, dgS d = D := ⟨_, rfl⟩
  rw [hD] at hds hD1 hws
  have HD := Lib.hid hD
  clear hD
  have HW1 := Lib.hid hW1; have HP := Lib.hid hp; have HQ := Lib.hid hq; have HT := Lib.hid ht; have HWI := Lib.hid hwi; have HBO := Lib.hid hb1
  clear hW1 hp hq ht hk1 hk2 hwi hdd hd
  go_enter Tryd.func3, Tryd.ntmps3
  go_upto_region 1 with (rw [HW1.out])
  go_region_held3 (fun w' => w'.cell? ⟨w.heap.size, 0, none⟩ = some (.slice A1 n1 c1) ∧ w'.cell? ⟨w.heap.size, 1, none⟩ = some (.slice B1 m1 d1) ∧ w'.cell? ⟨w.heap.size + 1, 0, none⟩ = some (.slice A2 n2 c2) ∧ w'.cell? ⟨w.heap.size + 1, 1, none⟩ = some (.slice B2 m2 d2)) (first | exact ⟨cell_below hbV p0, cell_below hbV p1, cell_below hbV q0, cell_below hbV q1⟩ | exact ⟨cell_below hbZ p0, cell_below hbZ p1, cell_below hbZ q0, cell_below hbZ q1⟩ | exact ⟨cell_below hbY p0, cell_below hbY p1, cell_below hbY q0, cell_below hbY q1⟩ | exact ⟨cell_below hbX p0, cell_below hbX p1, cell_below hbX q0, cell_below hbX q1⟩ | exact ⟨p0, p1, q0, q1⟩) ((first | (go_at_call 6; refine (cterm_calls t2 hf2.out _ _ _ hT2.out).mono ?_; rintro e wV ⟨rfl, hb4⟩; have hbV := bl_step hb4 hbZ) | (go_at_call 7; refine (rright_calls wY _ _ (HQ.out.below (bl_step hbY HBO.out))).mono ?_; rintro e wZ ⟨t2, v2, rfl, hTt2, hff2, hss2, hzz2, hb3⟩; obtain ⟨A5, c5, cs5, rfl, -, -⟩ := hTt2.open_; have hbZ := bl_step hb3 hbY; have hf2 := Lib.hid hff2; have hT2 := Lib.hid hTt2; have hs2 := Lib.hid hss2; have hz2 := Lib.hid hzz2; clear hff2 hTt2 hss2 hzz2) | (go_at_call 6; refine (cterm_calls t1 hf1.out _ _ _ hT1.out).mono ?_; rintro e wY ⟨rfl, hb2⟩; have hbY := bl_step hb2 hbX) | (go_at_call 7; refine (rright_calls W1.drew _ _ (HP.out.below (bl_drew HBO.out))).mono ?_; rintro e wX ⟨t1, v1, rfl, hTt1, hff1, hss1, hzz1, hb1⟩; obtain ⟨A4, c4, cs4, rfl, -, -⟩ := hTt1.open_; have hbX := bl_step hb1 (bl_drew (bl_refl W1)); have hf1 := Lib.hid hff1; have hT1 := Lib.hid hTt1; have hs1 := Lib.hid hss1; have hz1 := Lib.hid hzz1; clear hff1 hTt1 hss1 hzz1)))
  have hok1 := hf1.out.ok; have hok2 := hf2.out.ok
  have hti1 := t1.isI hok1; have hti2 := t2.isI hok2
  have hm1 := t1.fine_meas hf1.out; have hm2 := t2.fine_meas hf2.out
  have hp1 := hs1.out; have hp2 := hs2.out
  have htw1 := twrite_calls t1 hok1 (by omega) wV (HT.out.below (bl_step hbV HBO.out))
  have htw2 := fun W hW => twrite_calls t2 hok2 (by omega) W hW
  rw [t1.write_short hf1.out hp1 hz1.out] at htw1
  rw [t2.write_short hf2.out hp2 hz2.out] at htw2
  have hl1 := t1.text_short hf1.out; have hl2 := t2.text_short hf2.out
  have HFF := Lib.hid (fun k => frm_form d hd10 t1 t2 (t1.check_zero hz1.out).1 (t2.check_zero hz2.out).1 k)
  have HFT := Lib.hid (fun k => frm_text d hd10 t1 t2 k)
  have HFO := Lib.hid (fun k => frm_ok d hd10 t1 t2 hok1 hok2 k)
  have HFM := Lib.hid (fun k => frm_meas d t1 t2 (by omega) (by omega) k)
  obtain ⟨a, ha⟩ : ∃ a, t1.text = a := ⟨_, rfl⟩
  obtain ⟨b, hb⟩ : ∃ b, t2.text = b := ⟨_, rfl⟩
  rw [ha] at htw1 hl1
  rw [hb] at htw2 hl2
  have has : a.size ≤ 986 := by omega
  have hbs : b.size ≤ 986 := by omega
  have HA := Lib.hid ha; have HB := Lib.hid hb
  have HTW1 := Lib.hid htw1; have HTW2 := Lib.hid htw2
  clear htw1 htw2 hm1 hm2 hp1 hp2 hs1 hs2 hT1 hT2 hb1 hb2 hb3 hb4 hbX hbY hbZ hl1 hl2 ha hb hf1 hf2 hz1 hz2 p0 p1 q0 q1
  dsimp only at HTW1 HTW2
  go_wp2_with fail
  refine (HTW1.out).mono ?_
  rintro e wA ⟨rfl, hbA⟩
  go_wp2_with fail
  refine (HTW2.out _ (HT.out.below (bl_step (bl_step hbA hbV) HBO.out))).mono ?_
  rintro e wB ⟨rfl, hbB0⟩
  have HB1 := Lib.hid (bl_step (bl_step hbB0 (bl_step hbA hbV)) HBO.out)
  clear hbB0 hbA hbV HTW1 HTW2 HBO
  go_wp2_with fail
  refine (HWI.out _).mono ?_
  rintro e wC ⟨rfl, rfl⟩
  go_upto_if 60 with fail
  obtain ⟨WX, hWX⟩ : ∃ WX, wC.alloc (.cells #[.iface 37 (.agg #[.string ⟨#[195, 182, 108]⟩]), .iface 42 (.agg #[.iface 39 (.agg #[.int .i64 (-(d : Int))])])] 44) = WX := ⟨_, rfl⟩
  rw [hWX]
  go_cut [15] (fun v wx => v = .string (wS d) ∧ wx = WX)
  case first =>
    by_cases hz : d = 0
    · have hzI : ((d : Int) == 0) = true := by simp; omega
      have hw : wS d = ⟨#[109, 117, 108, 40, 102, 105, 120, 40, 195, 182, 108, 41, 44, 110, 101, 103, 40, 48, 41, 41]⟩ := hws.out.trans (if_pos hz)
      go_wp2_with fail
      go_meet
      exact ⟨by rw [hw], rfl⟩
    · have hzI : ((d : Int) == 0) = false := by simp; omega
      have hw : wS d = (⟨#[109, 117, 108, 40, 102, 105, 120, 40, 195, 182, 108, 41, 44, 110, 101, 103, 40, 45]⟩ ++ D) ++ ⟨#[41, 41]⟩ := hws.out.trans (if_neg hz)
      go_wp2_with fail
      go_meet
      exact ⟨by rw [hw], rfl⟩
  obtain ⟨rfl, rfl⟩ := hcut
  have hbX := bl_alloc (bl_refl wC) (.cells #[.iface 37 (.agg #[.string ⟨#[195, 182, 108]⟩]), .iface 42 (.agg #[.iface 39 (.agg #[.int .i64 (-(d : Int))])])] 44)
  have hkX := Blk.new wC #[.iface 37 (.agg #[.string ⟨#[195, 182, 108]⟩]), .iface 42 (.agg #[.iface 39 (.agg #[.int .i64 (-(d : Int))])])] 44
  rw [hWX] at hbX hkX
  have o0 := hkX.cell 0
  have o1 := hkX.cell 1
  have HBX := Lib.hid (bl_step hbX HB1.out)
  clear hbX hkX hWX hds hws
  have hws : (wS d).size ≤ 100 := wS_size d
  obtain ⟨S, hS⟩ : ∃ S, wS d = S := ⟨_, rfl⟩
  rw [hS] at hws ⊢
  have HAT := Lib.hid (frmA_at d a b t1 t2)
  rw [HD.out, hS] at HAT
  have HSS := Lib.hid hS
  clear hS
  go_wp2_with fail
  obtain ⟨W9, hW9⟩ : ∃ W9, wc.alloc (.cells (frmA d D S a b t1.val t2.val) 47) = W9 := ⟨_, rfl⟩
  have hb9 := bl_alloc (bl_refl wc) (.cells (frmA d D S a b t1.val t2.val) 47)
  have hk9 := Blk.new wc (frmA d D S a b t1.val t2.val) 47
  rw [hW9] at hb9 hk9
  unfold frmA at hW9
  rw [hW9]
  have HB9 := Lib.hid (bl_step hb9 HBX.out)
  have HK9 := Lib.hid hk9
  clear hW9 hb9 hk9 HBX o0 o1 HB1 HWI
  go_loopw [148] (fun i wr => ∃ k : Nat, k ≤ 8 ∧ i = .int .i64 k ∧ Below W9.heap.size W9 wr) (fun i _ => 8 - (intOf i).toNat)
  case atStart => exact ⟨0, by omega, rfl, bl_refl _⟩
  case round =>
    obtain ⟨k, hk, rfl, hbr⟩ := hrel
    have HBR := Lib.hid (bl_step hbr HB9.out)
    have HTR := Lib.hid (HT.out.below HBR.out)
    have HBW := Lib.hid hbr
    by_cases hlt : k < 8
    · obtain ⟨q0, q1⟩ := HAT.out k hlt
      have c0 := (HK9.out.below hbr).cell (k * 2)
      have c1 := (HK9.out.below hbr).cell (k * 2 + 1)
      rw [q0] at c0
      rw [q1] at c1
      have hzo := HFO.out k
      have hzm := HFM.out k
      have hzt := HFT.out k
      rw [HA.out, HB.out] at hzt
      have hzw := (frmT d t1 t2 k).write_form (HFF.out k)
      rw [hzt] at hzw
      clear q0 q1 hzt hbr
      obtain ⟨z, hz⟩ : ∃ z, frmT d t1 t2 k = z := ⟨_, rfl⟩
      rw [hz] at c0 hzo hzm hzw
      obtain ⟨sk, hsk⟩ : ∃ sk, frmS d a b k = sk := ⟨_, rfl⟩
      rw [hsk] at c1 hzw
      clear hz hsk
      have hzI := z.isI hzo
      have hct := fun W hW => twrite_calls z hzo (by omega) W hW
      have HZW := Lib.hid hzw
      clear hzw
      have hkI : (k : Int) < 8 := by omega
      have hk0I : (0 : Int) ≤ (k : Int) := by omega
      rcases HZW.out with hzw | hzw | hzw
      all_goals
        rw [hzw] at hct
        have HCT := Lib.hid hct
        clear hct hzw
        go_wp2_with fail
        refine (HCT.out _ ?_).mono ?_
        · exact HTR.out.below (bl_alloc (bl_refl _) _)
        rintro e wq ⟨rfl, hbq⟩
        have hbq2 := bl_step hbq (bl_alloc (bl_refl _) _)
        have s1 := cell_below hbq (alloc_cell wr #[z.val, .string sk] 47 1 _ rfl)
        have HBQ := Lib.hid hbq2
        clear hbq hbq2
        go_wp2_with fail
        go_roundw
        case rel => exact ⟨k + 1, by omega, by go_num, bl_step HBQ.out HBW.out⟩
        case measure => simp [intOf]; omega
    · obtain rfl : k = 8 := by omega
      clear hbr
      go_wp2_with fail
      refine (wakes6_calls _ HTR.out).mono ?_
      rintro e wq ⟨rfl, hbq⟩
      go_wp2_with fail
      go_ret
      exact ⟨rfl, bl_step hbq HBR.out⟩
end Go.Proofs.YtapbkomicihkkaaDoor
