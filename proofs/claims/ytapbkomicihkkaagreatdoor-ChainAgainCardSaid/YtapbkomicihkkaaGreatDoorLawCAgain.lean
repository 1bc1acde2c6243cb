/- ChainAgain: the walk. -/
import Derived.Test.YtapbkomicihkkaaGreatDoorLawAG
import Derived.Test.YtapbkomicihkkaaGreatDoorSomeG
import Derived.Test.YtapbkomicihkkaaGreatDoorCardG
namespace Go.Proofs.YtapbkomicihkkaaGreatDoor
open Go.RowKit
set_option linter.unusedVariables false
set_option linter.unusedSimpArgs false

theorem snoc_small {xs : List En} {x : Ev} (h : ∀ x ∈ xs, x.ev.small) (hf : x.fit) : ∀ y ∈ xs ++ [(⟨x, false⟩ : En)], y.ev.small := fun y hy => by
  rcases List.mem_append.1 hy with h1 | h1
  · exact h y h1
  · obtain rfl := List.mem_singleton.1 h1
    exact fit_small hf
theorem at_calls (w0 : World) (g : Nat) (c : Ch) (ho : c.ok) (p : Nat) (hp : p ≤ c.es.length) (w : World) (h : ChAt w0 w g c) :
    Calls Tryz.prog 26 #[.pointer (some ⟨g, 0, none⟩), .int .i64 p] w fun e w' => e = .returned (.tuple #[.int .u64 (c.hs.getD p 0), .bool true]) ∧ Below w.heap.size w w' := by
  have := cheadat_calls w0 g c ho p w h
  unfold Ch.at_ at this
  rw [if_pos ⟨by omega, by omega⟩, Int.toNat_natCast] at this
  exact this
set_option maxRecDepth 100000 in
set_option maxHeartbeats 8000000 in
theorem chainAgain_calls (A : Option Addr) (c l : Nat) (k : List UInt8) (B : Option Addr) (lc cc : Nat) (ms : List Cv) (cut : Int) (w : World) (hl : k.length = l) (hr : Rd w A (byts k)) (hml : ms.length = lc) (hmn : lc ≤ 140737488355328) (hms : ∀ m ∈ ms, m.c.ok ∧ PlanAt w m.vN m.vW) (hmr : Rd w B (rowsC ms)) (hcut : -9223372036854775808 ≤ cut ∧ cut ≤ 9223372036854775807) (ht : TabOk w) :
    Calls Tryz.prog 6 #[.slice A l c, .slice B lc cc, .int .i64 cut] w fun e w' => e = .returned (.bool true) ∧ Below w.heap.size w w' := by
  have HR := Lib.hid hr
  have HL := Lib.hid hl
  have HT := Lib.hid ht
  have HML := Lib.hid hml; have HMS := Lib.hid hms; have HMR := Lib.hid hmr; have HCUT := Lib.hid hcut
  clear hr hl ht hml hms hmr hcut
  go_enter Tryz.func6, Tryz.ntmps6
  obtain ⟨X, hX⟩ : ∃ X, byts (k.take 16) = X := ⟨_, rfl⟩
  have HX := Lib.hid hX
  clear hX
  go_wp2_with (refine wpList_copy_splice (o := ⟨some 26, _, _, _, _, _⟩) rfl (.tmp 24) (.tmp 25) 51 51 rfl 5 Tryz.underlying51 (by kernel_rfl) _ A _ _ l c rfl rfl w.heap.size 0 zeros16 55 (Blk.new w zeros16.toArray 55) X ?c1 ?c2 ?c3 ?c4 w.heap.size w (bl_alloc (bl_refl w) _) (Nat.le_refl _) ?c5)
  case c1 => rw [← HX.out, byts_length, List.length_take, HL.out]; exact Nat.min_comm _ _
  case c2 =>
    intro hp
    have hrd : Rd (w.alloc (.cells zeros16.toArray 55)) A X := by
      rw [← HX.out, byts_take]
      exact (HR.out.below (bl_alloc (bl_refl w) _)).take 16
    obtain ⟨y, hy⟩ : ∃ y, X[0]? = some y := ⟨X[0], by simp [hp]⟩
    obtain ⟨ad, e, _⟩ := hrd 0 y hy
    refine ⟨ad, e, ?_⟩
    intro j v hv
    obtain ⟨ad', e', hc⟩ := hrd j v hv
    rw [e] at e'; cases e'
    exact hc
  case c3 => rw [← HX.out, byts_length, List.length_take]; simp only [zeros16, Nat.zero_add, List.length_cons, List.length_nil]; exact Nat.min_le_left _ _
  case c4 => rw [← HX.out]; exact byts_one _
  intro w2 HG hB
  have hK : Blk w2 w.heap.size (byts (keyOf k)).toArray 55 := by
    have := HG.out
    rw [← HX.out, key_splice] at this
    exact this
  clear HG HX HR HL
  have hkl := keyOf_length k
  generalize keyOf k = key at hkl hK
  have HK := Lib.hid hK; have HKL := Lib.hid hkl; have HB := Lib.hid hB
  clear hK hkl hB
  go_upto_region 3 with fail
  have hu := Tryz.underlying55
  have hi : (Tryz.prog.info? 55).map (·.size) = some (byts key).length := by rw [byts_length, HKL.out]; kernel_rfl
  refine wp_region_noPanic ?_
  refine wp_region_held_drew (S := fun w' => w'.rangeAt w.heap.size 0 (byts key)) (by kernel_rfl) HK.out.range (fun hHeld => ?_)
  refine wpAnyH_world (fun W => Below w2.heap.size w2 W) (bl_drew (bl_refl _)) (fun W2 hb2 => ?_)
  clear hHeld
  have hHeld : W2.rangeAt w.heap.size 0 (byts key) := range_below HK.out.range hb2
  refine wpAnyH_take (i := 0) (oi := ⟨some 27, .load 55 (.tmp 7), _, _, _, _⟩) (v := .agg (List.toArray (byts key))) rfl (by kernel_rfl) (by kernel_rfl) (by kernel_rfl) (fun _ _ _ h => h) (yieldsIf_load_mid (by rfl) _ _ rfl _ _ rfl (byts key) _ (fun w h => h) hu rfl hi) (by assumption) ?_
  simp only [Act.put, List.setIfInBounds_toArray, List.set_cons_zero, List.set_cons_succ]
  refine wpAnyH_take (i := 2) (oi := ⟨some 29, .load 55 (.tmp 7), _, _, _, _⟩) (v := .agg (List.toArray (byts key))) rfl (by kernel_rfl) (by kernel_rfl) (by kernel_rfl) (fun _ _ _ h => h) (yieldsIf_load_mid (by rfl) _ _ rfl _ _ rfl (byts key) _ (fun w h => h) hu rfl hi) (by assumption) ?_
  simp only [Act.put, List.setIfInBounds_toArray, List.set_cons_zero, List.set_cons_succ]
  refine wpAnyH_ready (rs := [1]) (by kernel_rfl) (by simp) ?_
  refine AllReadyH.cons (o := ⟨some 28, .call _, _, _, _, _⟩) rfl (fun K hK => ?_) AllReadyH.nil
  go_simp
  refine (cnew_calls w key HKL.out W2 (Nat.le_trans HB.out.size hb2.size)).mono ?_
  rintro en W3 ⟨ga, rfl, hCa, hga, hb3⟩
  have hb4 := bl_step hb3 hb2
  go_wp2_with fail
  refine hK.out _ _ ?_ (fun hHeld => ?_)
  · exact range_below HK.out.range hb4
  clear hK K
  try simp only [Act.put, List.setIfInBounds_toArray, List.set_cons_zero, List.set_cons_succ]
  refine wpAnyH_ready (rs := [3]) (by kernel_rfl) (by simp) ?_
  refine AllReadyH.cons (o := ⟨some 30, .call _, _, _, _, _⟩) rfl (fun K hK => ?_) AllReadyH.nil
  go_simp
  refine (cnew_calls w key HKL.out W3 (Nat.le_trans HB.out.size hb4.size)).mono ?_
  rintro en W4 ⟨gb, rfl, hCb, hgb, hb5⟩
  have hb6 := bl_step hb5 hb4
  have hCa4 := hCa.below hb5
  have hab : gb ≠ ga := by have := hCa.lt; omega
  go_wp2_with fail
  refine hK.out _ _ ?_ (fun hHeld => ?_)
  · exact range_below HK.out.range hb6
  clear hK K
  try simp only [Act.put, List.setIfInBounds_toArray, List.set_cons_zero, List.set_cons_succ]
  refine wpAnyH_take (i := 4) (oi := ⟨some 8, .assign (.tmp 28), _, _, _, _⟩) (v := .pointer (some ⟨ga, 0, none⟩)) rfl (by kernel_rfl) (by kernel_rfl) (by kernel_rfl) (fun _ _ _ h => h) (Or.inl ⟨by rfl, ?_⟩) (by assumption) ?_
  · intro w hSw; go_simp; try with_reducible rfl
  simp only [Act.put, List.setIfInBounds_toArray, List.set_cons_zero, List.set_cons_succ]
  refine wpAnyH_take (i := 5) (oi := ⟨some 9, .assign (.tmp 30), _, _, _, _⟩) (v := .pointer (some ⟨gb, 0, none⟩)) rfl (by kernel_rfl) (by kernel_rfl) (by kernel_rfl) (fun _ _ _ h => h) (Or.inl ⟨by rfl, ?_⟩) (by assumption) ?_
  · intro w hSw; go_simp; try with_reducible rfl
  simp only [Act.put, List.setIfInBounds_toArray, List.set_cons_zero, List.set_cons_succ]
  refine wpAnyH_done (by kernel_rfl) ?_ _
  refine NoPanic.normal ?_
  have HCA := Lib.hid hCa4; have HCB := Lib.hid hCb; have HAB := Lib.hid hab; have HB4 := Lib.hid (bl_step hb6 HB.out)
  have HGA : Hid (w.heap.size ≤ ga) := by have := HB.out.size; have := hb2.size; show _ ≤ _; omega
  have HGB : Hid (w.heap.size ≤ gb) := by have := HB.out.size; have := hb4.size; show _ ≤ _; omega
  clear hCa4 hCb hab hb6 hb5 hb4 hb3 hb2 hCa hga hgb hHeld hu hi HK HB
  go_wp2_with fail
  go_loopw [10, 11] (fun v i wr => ∃ (j : Nat) (xs : List En), xs.length = j ∧ j ≤ 10 ∧ j ≤ lc ∧ (∀ x ∈ xs, x.ev.small) ∧ i = .int .i64 j ∧ Own W4 wr 59 9 v j (rowsE xs) ∧ Below W4.heap.size W4 wr) (fun _ i _ => 10 - (intOf i).toNat)
  case atStart => exact ⟨0, [], rfl, by omega, by omega, fun x hx => (by cases hx), rfl, Own.nil _ _ _ _, bl_refl _⟩
  case round =>
    obtain ⟨j, xs, hxl, hj, hjl, hxs, rfl, hO, hB⟩ := hrel
    go_upto_region 8 with fail
    go_cut [44] (fun v wx => v = .bool (decide (j < lc ∧ j < 10)) ∧ wx = wr)
    case first =>
      by_cases g1 : j < lc
      · by_cases g2 : j < 10
        · go_wp2_with fail
          go_meet
          exact ⟨by (simp [g1, g2] <;> omega), rfl⟩
        · go_wp2_with fail
          go_meet
          exact ⟨by (simp [g1, g2] <;> omega), rfl⟩
      · go_wp2_with fail
        go_meet
        exact ⟨by simp [g1], rfl⟩
    obtain ⟨rfl, rfl⟩ := hcut
    rename World => wr
    by_cases hlt : j < lc ∧ j < 10
    · have hdd : decide (j < lc ∧ j < 10) = true := decide_eq_true hlt
      rw [hdd]
      clear hdd
      obtain ⟨hl1, hl2⟩ := hlt
      obtain ⟨⟨cm, vN, vW⟩, hcv⟩ : ∃ y, ms[j]? = some y := ⟨_, List.getElem?_eq_getElem (by rw [HML.out]; exact hl1)⟩
      obtain ⟨hc, hp⟩ := HMS.out _ (List.mem_of_getElem? hcv)
      have hbw := bl_step hB HB4.out
      have hpw := hp.below hbw
      have hmr := HMR.out.below hbw
      obtain ⟨ad, rfl, -⟩ := hmr (j * 8 + 0) _ ((rowsC_get ms j 0 _ hcv (by omega)).trans rfl)
      have hrow := hmr.row hcv
      have hsm := some_calls wr cm vN vW hc hpw 99 0 0 ⟨#[]⟩ (by unfold IsInt64; omega) (by unfold IsInt64; omega) (by decide) (by decide)
      unfold RetSome at hsm
      unfold Ev.val at hsm
      unfold Cm.val at hsm
      unfold Cv.row at hrow
      have HSM := Lib.hid hsm; have HROW := Lib.hid hrow; have HO := Lib.hid hO; have HB := Lib.hid hB; have HX := Lib.hid (And.intro hxl hxs)
      clear hsm hrow hO hB hxl hxs hcv hc hp hpw hmr hbw
      go_wp2_with (refine wpList_load_rd rfl 27 _ rfl _ rfl _ _ HROW.out Tryz.underlying27 rfl info_cmd ?_)
      refine HSM.out.mono ?_
      rintro en w5 ⟨x, vx, rfl, hE, hF, hb⟩
      obtain ⟨c0, c1, c2, c3, rfl, hT⟩ := hE
      obtain ⟨A9, c9, cs9, hag, -, -⟩ := hT.open_
      have hcc : c0 = .int .i64 x.term.tr.kind ∧ c1 = .string x.term.tr.s ∧ c2 = .int .i64 x.term.tr.n ∧ c3 = .slice A9 x.term.tr.ks.length c9 := by injection hag with hag; simp at hag; exact hag
      obtain ⟨h0, h1, h2, h3⟩ := hcc
      subst h0 h1 h2 h3
      clear hag hT HSM HROW
      have hok := hF.term.ok
      have hti := x.term.isI hok
      have hte := x.term.one_ hok
      have hcs := x.term.cells_ hok
      have HF := Lib.hid hF; have HB5 := Lib.hid hb
      clear hF hb
      go_upto_region 11 with fail
      have hkx := (Blk.new w5 #[.int .i64 x.kind, .string x.id, .string x.name, .string x.label, .string x.cur, .int .i64 x.day, .int .i64 x.value, x.term.val] 30).below (bl_alloc (bl_refl _) (.cells #[.int .i64 x.kind, .string x.id, .string x.name, .string x.label, .string x.cur, .int .i64 x.day, .int .i64 x.value, .int .i64 x.term.tr.kind, .string x.term.tr.s, .int .i64 x.term.tr.n, .slice A9 x.term.tr.ks.length c9] 35))
      have hb6 := bl_alloc (bl_alloc HB5.out (.cells #[.int .i64 x.kind, .string x.id, .string x.name, .string x.label, .string x.cur, .int .i64 x.day, .int .i64 x.value, x.term.val] 30)) (.cells #[.int .i64 x.kind, .string x.id, .string x.name, .string x.label, .string x.cur, .int .i64 x.day, .int .i64 x.value, .int .i64 x.term.tr.kind, .string x.term.tr.s, .int .i64 x.term.tr.n, .slice A9 x.term.tr.ks.length c9] 35)
      obtain ⟨W6, hW6⟩ : ∃ W6, (w5.alloc (.cells #[.int .i64 x.kind, .string x.id, .string x.name, .string x.label, .string x.cur, .int .i64 x.day, .int .i64 x.value, x.term.val] 30)).alloc (.cells #[.int .i64 x.kind, .string x.id, .string x.name, .string x.label, .string x.cur, .int .i64 x.day, .int .i64 x.value, .int .i64 x.term.tr.kind, .string x.term.tr.s, .int .i64 x.term.tr.n, .slice A9 x.term.tr.ks.length c9] 35) = W6 := ⟨_, rfl⟩
      rw [hW6] at hkx hb6 ⊢
      have hO6 := HO.out.below hb6
      have hB6 := bl_step hb6 HB.out
      obtain ⟨x0, x1, x2, x3, x4, x5, x6, x7⟩ := hkx.eight
      have hbe := fun W => run_bd_En1 x.kind x.day x.value x.id x.name x.label x.cur x.term.val hti W
      have hbs := fun W => bs_en7 x.kind x.day x.value x.id x.name x.label x.cur x.term.val false hti W
      have HO6 := Lib.hid hO6; have HB6 := Lib.hid hB6
      clear hW6 hkx hb6 HO HB HB5 hO6 hB6
      go_wp2_with (at_builtin; (refine append_any (w0 := W4) rfl _ _ 71 59 _ 9 112 rfl Tryz.underlying71 info_en rfl (by decide) _ j (rowsE xs) (some ⟨W6.heap.size, 0, none⟩) 1 1 (En.mk x false).row (HO6.out.below (bl_alloc (bl_refl _) _)) (bl_alloc HB6.out _) (Blk.new W6 (En.mk x false).cells 59).rd rfl rfl (En.mk x false).row_length ((En.mk x false).row_one (fit_ok HF.out)) (by omega) (by omega) ?_); intro v1 w7 HO7 HB7 HG7)
      have hO8 := HO7
      rw [← rowsE_snoc] at hO8
      have HO8 := Lib.hid hO8; have HB8 := Lib.hid HB7
      clear HO7 hO8 HB7 HG7
      go_roundw
      case rel => exact ⟨j + 1, xs ++ [⟨x, false⟩], by rw [List.length_append, HX.out.1]; rfl, by omega, by omega, snoc_small HX.out.2 HF.out, by go_num, HO8.out, HB8.out⟩
      case measure => simp [intOf]; omega
    · have hdd : decide (j < lc ∧ j < 10) = false := decide_eq_false hlt
      rw [hdd]
      clear hdd hlt
      have HXS := Lib.hid (And.intro hxl hxs)
      obtain ⟨A1, c1, rfl, -, -, -⟩ := hO.read
      have hwi := fun W => within_calls cut ((j : Int) + 1) W HCUT.out (by omega)
      obtain ⟨m, hm⟩ : ∃ m : Nat, cut % ((j : Int) + 1) = (m : Int) := ⟨(cut % ((j : Int) + 1)).toNat, by have := Int.emod_nonneg cut (show ((j : Int) + 1) ≠ 0 by omega); omega⟩
      have hmj : m ≤ j := by have := Int.emod_lt_of_pos cut (show (0 : Int) < (j : Int) + 1 by omega); omega
      rw [hm] at hwi
      obtain ⟨C, hC⟩ : ∃ C, (⟨key, [], [0]⟩ : Ch) = C := ⟨_, rfl⟩
      have hco : C.ok := by rw [← hC]; exact Ch.new_ok key HKL.out
      have h2 : Two w W4 wr (.slice A1 j c1) j xs ga gb (chF C (xs.take 0)) (chF C (xs.take (min 0 m))) := by
        rw [Nat.zero_min, List.take_zero]
        show Two w W4 wr _ j xs ga gb C C
        rw [← hC]
        exact ⟨hO, HCA.out.below hB, HCB.out.below hB, HAB.out, HGA.out, HGB.out, bl_step hB HB4.out⟩
      have H2 := Lib.hid h2; have HWI := Lib.hid hwi; have HCO := Lib.hid hco
      clear h2 hwi hco hC hO hB hxl hxs hm HCA HCB HAB HGA HGB HB4 HCUT HML HMS HMR HKL
      go_wp2_with fail
      refine (HWI.out _).mono ?_
      rintro en w5 ⟨rfl, rfl⟩
      go_wp2_with fail
      go_loopw [9, 68] (fun s9 s68 wx => ∃ (i g2 : Nat), i ≤ j ∧ s68 = .int .i64 i ∧ s9 = .pointer (some ⟨g2, 0, none⟩) ∧ Two w W4 wx (.slice A1 j c1) j xs ga g2 (chF C (xs.take i)) (chF C (xs.take (min i m)))) (fun _ s68 _ => j - (intOf s68).toNat)
      case atStart => exact ⟨0, gb, by omega, rfl, rfl, H2.out⟩
      case round =>
        obtain ⟨i, g2, hi, rfl, rfl, hT⟩ := hrel
        by_cases hij : i < j
        · obtain ⟨x, hx⟩ : ∃ x, xs[i]? = some x := ⟨_, List.getElem?_eq_getElem (by rw [HXS.out.1]; exact hij)⟩
          have hsx := HXS.out.2 x (List.mem_of_getElem? hx)
          obtain ⟨A2, c2, hA2, hrd, -, -⟩ := hT.own.read
          cases hA2
          obtain ⟨ad, rfl, -⟩ := hrd (i * 9 + 0) _ ((rowsE_get xs i 0 x hx (by omega)).trans rfl)
          have hrow : Rd wr (some (ad.add (i * 9))) [.int .i64 x.ev.kind, .string x.ev.id, .string x.ev.name, .string x.ev.label, .string x.ev.cur, .int .i64 x.ev.day, .int .i64 x.ev.value, x.ev.term.val, .bool x.no] := rowsE_row hrd hx
          have hck := chF_ok (xs.take i) C HCO.out (fun y hy => HXS.out.2 y (List.mem_of_mem_take hy))
          have hck2 := chF_ok (xs.take (min i m)) C HCO.out (fun y hy => HXS.out.2 y (List.mem_of_mem_take hy))
          have hadA := fun W hW ht => cadd_calls w ga (chF C (xs.take i)) hck x hsx W hW ht
          have hadB := fun W hW ht => cadd_calls w g2 (chF C (xs.take (min i m))) hck2 x hsx W hW ht
          have hcl := fun W hW => cclone_calls w ga (chF C (xs.take i)) hck W hW
          unfold RetAdd at hadA hadB
          unfold En.val at hadA hadB
          unfold RetCh at hcl
          rw [← chF_take' C xs i x hx] at hadA
          have hok := hsx.ok.term
          have hgl : g2 < wr.heap.size := hT.b.lt
          have hgk : ga < wr.heap.size := hT.a.lt
          have hcc := x.ev.term.cells_ hsx.ok.term
          have ho7 := x.ev.term.one_ hsx.ok.term
          have hti := x.ev.term.isI hsx.ok.term
          have HROW := Lib.hid hrow; have HAA := Lib.hid hadA; have HAB := Lib.hid hadB; have HCL := Lib.hid hcl; have HT2 := Lib.hid hT; have HXI := Lib.hid hx
          clear hrow hadA hadB hcl hT hx hrd hck hck2 hsx
          go_upto_region 16 with (refine wpList_load_rd rfl 59 _ rfl _ rfl _ _ HROW.out Tryz.underlying59 rfl size_en ?_)
          have hkx := Blk.new wr #[.int .i64 x.ev.kind, .string x.ev.id, .string x.ev.name, .string x.ev.label, .string x.ev.cur, .int .i64 x.ev.day, .int .i64 x.ev.value, x.ev.term.val, .bool x.no] 59
          have hT6 := HT2.out.below (bl_alloc (bl_refl wr) (.cells #[.int .i64 x.ev.kind, .string x.ev.id, .string x.ev.name, .string x.ev.label, .string x.ev.cur, .int .i64 x.ev.day, .int .i64 x.ev.value, x.ev.term.val, .bool x.no] 59))
          obtain ⟨W6, hW6⟩ : ∃ W6, wr.alloc (.cells #[.int .i64 x.ev.kind, .string x.ev.id, .string x.ev.name, .string x.ev.label, .string x.ev.cur, .int .i64 x.ev.day, .int .i64 x.ev.value, x.ev.term.val, .bool x.no] 59) = W6 := ⟨_, rfl⟩
          rw [hW6] at hkx hT6 ⊢
          have HKX := Lib.hid hkx; have HT6 := Lib.hid hT6
          clear hW6 hkx hT6 HROW HT2
          obtain ⟨f0, f1, f2, f3, f4, f5, f6, f7, f8⟩ := Blk.ens (x := x) HKX.out
          rcases Nat.lt_trichotomy i m with him | him | him
          · have himb : ((i : Int) == (m : Int)) = false := by simp; omega
            have he : ((chF C (xs.take (min i m))).add x).1 = chF C (xs.take (min (i + 1) m)) := by rw [show min i m = i by omega, show min (i + 1) m = i + 1 by omega, chF_take' C xs i x HXI.out]
            have HE := Lib.hid he
            clear he
            go_wp2_with fail
            refine (HAB.out _ HT6.out.b (HT.out.below HT6.out.bl)).mono ?_
            rintro en w7 ⟨rfl, hd7, hg7, -⟩
            have hT7 := HT6.out.addB hd7 hg7
            have hkx7 := HKX.out.grown hg7 (fun e => by injection e with e; omega)
            clear f0 f1 f2 f3 f4 f5 f6 f7 f8
            obtain ⟨f0, f1, f2, f3, f4, f5, f6, f7, f8⟩ := Blk.ens (x := x) hkx7
            have HT7 := Lib.hid hT7
            clear hT7 hkx7 hd7 hg7
            go_wp2_with fail
            refine (HAA.out _ HT7.out.a (HT.out.below HT7.out.bl)).mono ?_
            rintro en w8 ⟨rfl, hd8, hg8, -⟩
            have hT8 := HT7.out.addA hd8 hg8
            rw [HE.out] at hT8
            have HT8 := Lib.hid hT8
            clear hT8 hd8 hg8
            go_wp2_with fail
            go_roundw
            case rel => exact ⟨i + 1, g2, by omega, by go_num, rfl, HT8.out⟩
            case measure => simp [intOf]; omega
          · have himb : ((i : Int) == (m : Int)) = true := by simp; omega
            have he : chF C (xs.take i) = chF C (xs.take (min (i + 1) m)) := by rw [show min (i + 1) m = i by omega]
            have HE := Lib.hid he
            clear he
            go_wp2_with fail
            refine (HCL.out _ HT6.out.a).mono ?_
            rintro en w7 ⟨g3, rfl, hd7, hl7, hb7⟩
            have hT7 : Two w W4 w7 (.slice (some ad) j c1) j xs ga g3 (chF C (xs.take i)) (chF C (xs.take (min (i + 1) m))) := by
              rw [← HE.out]
              exact HT6.out.clone hd7 hl7 hb7
            have hkx7 := HKX.out.below hb7
            clear f0 f1 f2 f3 f4 f5 f6 f7 f8
            obtain ⟨f0, f1, f2, f3, f4, f5, f6, f7, f8⟩ := Blk.ens (x := x) hkx7
            have HT7 := Lib.hid hT7
            clear hT7 hkx7 hd7 hl7 hb7
            go_wp2_with fail
            refine (HAA.out _ HT7.out.a (HT.out.below HT7.out.bl)).mono ?_
            rintro en w8 ⟨rfl, hd8, hg8, -⟩
            have hT8 := HT7.out.addA hd8 hg8
            have HT8 := Lib.hid hT8
            clear hT8 hd8 hg8
            go_wp2_with fail
            go_roundw
            case rel => exact ⟨i + 1, g3, by omega, by go_num, rfl, HT8.out⟩
            case measure => simp [intOf]; omega
          · have himb : ((i : Int) == (m : Int)) = false := by simp; omega
            have he : chF C (xs.take (min i m)) = chF C (xs.take (min (i + 1) m)) := by rw [show min (i + 1) m = min i m by omega]
            have HE := Lib.hid he
            clear he
            have HT7 := HT6
            go_wp2_with fail
            refine (HAA.out _ HT7.out.a (HT.out.below HT7.out.bl)).mono ?_
            rintro en w8 ⟨rfl, hd8, hg8, -⟩
            have hT8 := HT7.out.addA hd8 hg8
            have HT8 := Lib.hid hT8
            clear hT8 hd8 hg8
            go_wp2_with fail
            go_roundw
            case rel =>
              have hz := HT8.out
              rw [HE.out] at hz
              exact ⟨i + 1, g2, by omega, by go_num, rfl, hz⟩
            case measure => simp [intOf]; omega
        · obtain rfl : i = j := by omega
          have h3 : Two w W4 wr (.slice A1 i c1) i xs ga g2 (chF C xs) (chF C (xs.take m)) := by
            have := hT
            rw [List.take_of_length_le (by rw [HXS.out.1]; exact Nat.le_refl _), show min i m = m by omega] at this
            exact this
          have H3 := Lib.hid h3
          clear h3 hT H2
          have hm0 : (0 : Int) ≤ (m : Int) := by omega
          have hdi : decide ((m : Int) < (i : Int)) = decide (m < i) := by simp
          go_upto_if 93 with fail
          generalize hgd : decide (m < i) = gd
          go_cut [] (fun wx => Two w W4 wx (.slice A1 i c1) i xs ga g2 (chF C xs) (chF C xs))
          case first =>
            by_cases hmi : m < i
            · obtain rfl : gd = true := by rw [← hgd]; exact decide_eq_true hmi
              clear hgd
              obtain ⟨g1, cap1, e1, -, -, hcap1, -, -⟩ := H3.out.own.blkOf (by omega)
              cases e1
              go_wp2_with fail
              go_loopw [18, 98] (fun _ s wx => ∃ q : Nat, m + q ≤ i ∧ s = .int .i64 q ∧ Two w W4 wx (.slice (some ⟨g1, 0, none⟩) i c1) i xs ga g2 (chF C xs) (chF C (xs.take (m + q)))) (fun _ s _ => i - m - (intOf s).toNat)
              case atStart => exact ⟨0, by omega, rfl, H3.out⟩
              case round =>
                obtain ⟨q, hq, rfl, hT⟩ := hrel
                by_cases hqi : m + q < i
                · obtain ⟨x, hx⟩ : ∃ x, xs[m + q]? = some x := ⟨_, List.getElem?_eq_getElem (by rw [HXS.out.1]; exact hqi)⟩
                  have hsx := HXS.out.2 x (List.mem_of_getElem? hx)
                  obtain ⟨A2, c2, hA2, hrd, -, -⟩ := hT.own.read
                  cases hA2
                  have hrow : ∀ o, o = (m + q) * 9 → Rd wr (some ⟨g1, o, none⟩) [.int .i64 x.ev.kind, .string x.ev.id, .string x.ev.name, .string x.ev.label, .string x.ev.cur, .int .i64 x.ev.day, .int .i64 x.ev.value, x.ev.term.val, .bool x.no] := fun o ho => by
                    have := rowsE_row hrd hx
                    rw [Addr.add_mid, Nat.zero_add, ← ho] at this
                    exact this
                  have hadB := fun W hW ht => cadd_calls w g2 (chF C (xs.take (m + q))) (chF_ok (xs.take (m + q)) C HCO.out (fun y hy => HXS.out.2 y (List.mem_of_mem_take hy))) x hsx W hW ht
                  unfold RetAdd at hadB
                  unfold En.val at hadB
                  rw [← chF_take' C xs (m + q) x hx] at hadB
                  have hok := hsx.ok.term
                  have hcc := x.ev.term.cells_ hsx.ok.term
                  have ho7 := x.ev.term.one_ hsx.ok.term
                  have hti := x.ev.term.isI hsx.ok.term
                  have HROW := Lib.hid hrow; have HAB := Lib.hid hadB; have HT2 := Lib.hid hT
                  clear hrow hadB hT hx hrd hsx
                  go_upto_region 28 with (refine wpList_load_rd rfl 59 _ rfl _ rfl _ _ (HROW.out _ (by omega)) Tryz.underlying59 rfl size_en ?_)
                  have hkx := Blk.new wr #[.int .i64 x.ev.kind, .string x.ev.id, .string x.ev.name, .string x.ev.label, .string x.ev.cur, .int .i64 x.ev.day, .int .i64 x.ev.value, x.ev.term.val, .bool x.no] 59
                  have hT6 := HT2.out.below (bl_alloc (bl_refl wr) (.cells #[.int .i64 x.ev.kind, .string x.ev.id, .string x.ev.name, .string x.ev.label, .string x.ev.cur, .int .i64 x.ev.day, .int .i64 x.ev.value, x.ev.term.val, .bool x.no] 59))
                  obtain ⟨W6, hW6⟩ : ∃ W6, wr.alloc (.cells #[.int .i64 x.ev.kind, .string x.ev.id, .string x.ev.name, .string x.ev.label, .string x.ev.cur, .int .i64 x.ev.day, .int .i64 x.ev.value, x.ev.term.val, .bool x.no] 59) = W6 := ⟨_, rfl⟩
                  rw [hW6] at hkx hT6 ⊢
                  obtain ⟨f0, f1, f2, f3, f4, f5, f6, f7, f8⟩ := Blk.ens (x := x) hkx
                  have HT6 := Lib.hid hT6
                  clear hW6 hkx hT6 HROW HT2
                  go_wp2_with fail
                  refine (HAB.out _ HT6.out.b (HT.out.below HT6.out.bl)).mono ?_
                  rintro en w8 ⟨rfl, hd8, hg8, -⟩
                  have hT8 := HT6.out.addB hd8 hg8
                  have HT8 := Lib.hid hT8
                  clear hT8 hd8 hg8
                  go_wp2_with fail
                  go_roundw
                  case rel => exact ⟨q + 1, by omega, by go_num, HT8.out⟩
                  case measure => simp [intOf]; omega
                · have hqm : m + q = i := by omega
                  have hz := hT
                  rw [hqm, List.take_of_length_le (by rw [HXS.out.1]; exact Nat.le_refl _)] at hz
                  have HZ := Lib.hid hz
                  clear hz hT
                  go_wp2_with fail
                  go_meet
                  exact HZ.out
            · obtain rfl : gd = false := by rw [← hgd]; exact decide_eq_false hmi
              clear hgd
              obtain rfl : m = i := by omega
              go_wp2_with fail
              go_meet
              have hz := H3.out
              rw [List.take_of_length_le (by rw [HXS.out.1]; exact Nat.le_refl _)] at hz
              exact hz
          rename World => wF
          have hck := chF_ok xs C HCO.out HXS.out.2
          clear H3 hdi hm0
          generalize chF C xs = D at hcut hck
          have hhA := fun W hW => chead_calls w ga D hck W hW
          have hhB := fun W hW => chead_calls w g2 D hck W hW
          have hlA := fun W hW => clen_calls w ga D hck W hW
          have hlB := fun W hW => clen_calls w g2 D hck W hW
          have haA := fun (p : Nat) (hp : p ≤ D.es.length) W hW => at_calls w ga D hck p hp W hW
          have haB := fun (p : Nat) (hp : p ≤ D.es.length) W hW => at_calls w g2 D hck p hp W hW
          have hmx := hck.max
          generalize D.head = hd at hhA hhB
          generalize D.es.length = n at *
          have HHA := Lib.hid hhA; have HHB := Lib.hid hhB; have HLA := Lib.hid hlA; have HLB := Lib.hid hlB; have HAA := Lib.hid haA; have HAB := Lib.hid haB; have HT0 := Lib.hid hcut
          clear hhA hhB hlA hlB haA haB hcut hck
          go_wp2_with fail
          refine (HHA.out _ HT0.out.a).mono ?_
          rintro en w5 ⟨rfl, hb⟩
          have HT1 := Lib.hid (HT0.out.below hb)
          clear hb HT0
          go_wp2_with fail
          refine (HHB.out _ HT1.out.b).mono ?_
          rintro en w6 ⟨rfl, hb⟩
          have HT0 := Lib.hid (HT1.out.below hb)
          clear hb HT1
          go_wp2_with fail
          refine (HLA.out _ HT0.out.a).mono ?_
          rintro en w7 ⟨rfl, hb⟩
          have HT1 := Lib.hid (HT0.out.below hb)
          clear hb HT0
          go_wp2_with fail
          refine (HLB.out _ HT1.out.b).mono ?_
          rintro en w8 ⟨rfl, hb⟩
          have HT0 := Lib.hid (HT1.out.below hb)
          clear hb HT1
          go_wp2_with fail
          go_loopw [19] (fun s wx => ∃ p : Nat, p ≤ n + 1 ∧ s = .int .i64 p ∧ Two w W4 wx (.slice A1 i c1) i xs ga g2 D D) (fun s _ => n + 1 - (intOf s).toNat)
          case atStart => exact ⟨0, by omega, rfl, HT0.out⟩
          case round =>
            clear HT0
            obtain ⟨p, hp, rfl, hT⟩ := hrel
            have HT0 := Lib.hid hT
            clear hT
            go_wp2_with fail
            refine (HLA.out _ HT0.out.a).mono ?_
            rintro en w9 ⟨rfl, hb⟩
            have HT1 := Lib.hid (HT0.out.below hb)
            clear hb HT0
            by_cases hpn : p ≤ n
            · skip
              go_wp2_with fail
              refine (HAA.out p hpn _ HT1.out.a).mono ?_
              rintro en w10 ⟨rfl, hb⟩
              have HT0 := Lib.hid (HT1.out.below hb)
              clear hb HT1
              go_wp2_with fail
              refine (HAB.out p hpn _ HT0.out.b).mono ?_
              rintro en w11 ⟨rfl, hb⟩
              have HT1 := Lib.hid (HT0.out.below hb)
              clear hb HT0
              go_wp2_with fail
              go_roundw
              case rel => exact ⟨p + 1, by omega, by go_num, HT1.out⟩
              case measure => simp [intOf]; omega
            · skip
              go_wp2_with fail
              refine (wakes13_calls _ (HT.out.below HT1.out.bl)).mono ?_
              rintro en w10 ⟨rfl, hb⟩
              go_wp2_with fail
              go_ret
              exact ⟨rfl, bl_step hb HT1.out.bl⟩
end Go.Proofs.YtapbkomicihkkaaGreatDoor
