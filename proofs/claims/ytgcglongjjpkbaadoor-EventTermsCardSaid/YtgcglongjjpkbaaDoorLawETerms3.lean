/- The walk of EventTerms: the end. -/
import Derived.Test.YtgcglongjjpkbaaDoorLawETerms2
namespace Go.Proofs.YtgcglongjjpkbaaDoor
open Go.RowKit
set_option linter.unusedVariables false
set_option linter.unusedSimpArgs false

def evA (id : ByteArray) (v : Value) : Array Value := #[.int .i64 2, .string id, .string ⟨#[]⟩, .string ⟨#[]⟩, .string ⟨#[]⟩, .int .i64 0, .int .i64 0, v]
theorem Blk.eight {w : World} {g : Nat} {id : ByteArray} {v : Value} (h : Blk w g (evA id v) 83) :
    w.cell? ⟨g, 0, none⟩ = some (.int .i64 2) ∧ w.cell? ⟨g, 1, none⟩ = some (.string id) ∧ w.cell? ⟨g, 2, none⟩ = some (.string ⟨#[]⟩) ∧ w.cell? ⟨g, 3, none⟩ = some (.string ⟨#[]⟩) ∧ w.cell? ⟨g, 4, none⟩ = some (.string ⟨#[]⟩) ∧
    w.cell? ⟨g, 5, none⟩ = some (.int .i64 0) ∧ w.cell? ⟨g, 6, none⟩ = some (.int .i64 0) ∧ w.cell? ⟨g, 7, none⟩ = some v :=
  ⟨h.cell 0, h.cell 1, h.cell 2, h.cell 3, h.cell 4, h.cell 5, h.cell 6, h.cell 7⟩
set_option maxRecDepth 100000 in
set_option maxHeartbeats 8000000 in
theorem eterms_calls (w : World) (vN vW : Value) (hp : PlanAt w vN vW) (ht : TabOk w) (id : ByteArray) (hid : id.size ≤ 9223372036854775807) (pl : Bool) :
    Calls Tryd.prog 7 #[.agg #[vN, vW], .string id, .bool pl] w fun e w' => e = .returned (.bool true) ∧ Below w.heap.size w w' := by
  obtain ⟨⟨A, n, c, xs, rfl, hn⟩, ⟨A', n', c', xs', rfl, hn'⟩⟩ := (show PlanAt w vN vW from hp)
  clear hn hn'
  obtain ⟨W1, hW1⟩ : ∃ W1, w.alloc (.cells #[.slice A n c, .slice A' n' c'] 37) = W1 := ⟨_, rfl⟩
  have hb1 := bl_alloc (bl_refl w) (.cells #[.slice A n c, .slice A' n' c'] 37)
  have hk := Blk.new w #[.slice A n c, .slice A' n' c'] 37
  rw [hW1] at hb1 hk
  have p0 := hk.cell 0
  have p1 := hk.cell 1
  have hn := pcontract_calls W1 _ _ (hp.below hb1)
  have ht1 := ht.below hb1
  have HW1 := Lib.hid hW1
  clear hW1 hk hp ht
  unfold GivesTr at hn
  go_enter Tryd.func7, Tryd.ntmps7
  go_wp2_with (rw [HW1.out])
  refine hn.mono ?_
  rintro e w2 ⟨t, v, rfl, hT, hf, hparts, hb2⟩
  obtain ⟨A3, c3, cs3, rfl, -, -⟩ := hT.open_
  have hok := hf.ok
  have hti := t.isI hok
  have hco := t.cells_ hok
  have hoo := t.one_ hok
  have hm := t.fine_meas hf
  have hct := cterm_calls t hf _ w2 _ hT
  unfold GivesT at hct
  go_wp2_with fail
  refine (hct).mono ?_
  rintro e w3 ⟨rfl, hb3⟩
  have hbl := bl_step hb3 (bl_step hb2 hb1)
  have ht3 := (ht1.below hb2).below hb3
  clear hn hct hT p0 p1 hb1 hb2 hb3 ht1
  go_wp2_with fail
  refine ((text_calls id 14 hid (by omega) _)).mono ?_
  rintro e w4 ⟨rfl, rfl⟩
  dsimp only
  generalize id.extract 0 (min id.size 14) = S
  have hwo := t.write_or hf
  have htw := twrite_calls t hok (by omega) w4 ht3
  obtain ⟨P, hP⟩ : ∃ P : ByteArray, P = if pl = true then ⟨#[116, 49]⟩ else S := ⟨_, rfl⟩
  have hck := tradeE_check P t
  have hec := fun w ht => echeck_calls (tradeE P t) (tradeE_ok P t hok) (show t.meas ≤ _ by omega) w ht
  have hss := fun w => esame_calls (tradeE P t) (tradeE P t) (tradeE_ok P t hok) (tradeE_ok P t hok) w
  have hsg := fun w => esame_calls (tradeE P t) (tradeE P (.give t)) (tradeE_ok P t hok) (tradeE_ok P (.give t) hok) w
  have hst := fun w => tsame_calls _ t t (Nat.le_refl _) hok hok w
  rw [tradeE_same P t hf] at hss
  rw [tradeE_other P t hf] at hsg
  rw [t.same_self hf] at hst
  have hpl : pl = true → (tradeE P t).check = t.write.2 := fun h => by rw [hck, hP, if_pos h, t1_name]; rfl
  have hor : (tradeE P t).check = t.write.2 ∨ (tradeE P t).check = 1 := by rw [hck]; split <;> simp
  clear hck
  generalize (tradeE P t).check = f at *
  generalize t.write.1 = s at *
  generalize t.write.2 = en at *
  unfold Ev.val tradeE noS at hec hss hsg
  have hgv : (Tm.give t).val = .iface 56 (.agg #[t.val]) := rfl
  dsimp only at hec hss hsg
  rw [hgv] at hsg
  have HEC := Lib.hid hec; have HSS := Lib.hid hss; have HSG := Lib.hid hsg; have HST := Lib.hid hst; have HP := Lib.hid hP; have HT3 := Lib.hid ht3; have HBL := Lib.hid hbl
  clear hec hss hsg hst hm hgv hparts ht3 hbl hf hP
  cases pl with
  | true =>
    obtain rfl : P = ⟨#[116, 49]⟩ := HP.out
    obtain rfl := hpl rfl
    clear hor hpl
    go_wp2_with fail
    refine (htw).mono ?_
    rintro e w5 ⟨rfl, hb5⟩
    go_wp2_with fail
    refine (HEC.out _ (HT3.out.below hb5)).mono ?_
    rintro e w6 ⟨rfl, hb6⟩
    have HT6 := Lib.hid ((HT3.out.below hb5).below hb6); have HB6 := Lib.hid (bl_step hb6 (bl_step hb5 HBL.out))
    clear htw hb5 hb6 HEC
    rcases hwo with ⟨rfl, hs⟩ | ⟨hne, rfl⟩
    ·
      go_upto_region 10 with fail
      have e1 := (Blk.new w6 (evA ⟨#[116, 49]⟩ t.val) 83).below (bl_alloc (bl_refl _) (.cells #[.int .i64 2, .string ⟨#[116, 49]⟩, .string ⟨#[]⟩, .string ⟨#[]⟩, .string ⟨#[]⟩, .int .i64 0, .int .i64 0, .iface 56 (.agg #[t.val])] 83))
      have e2 := Blk_new (w6.alloc (.cells #[.int .i64 2, .string ⟨#[116, 49]⟩, .string ⟨#[]⟩, .string ⟨#[]⟩, .string ⟨#[]⟩, .int .i64 0, .int .i64 0, t.val] 83)) (evA ⟨#[116, 49]⟩ (.iface 56 (.agg #[t.val]))) 83 (w6.heap.size + 1) (alloc_size _ _).symm
      have hb8 := bl_alloc (bl_alloc HB6.out (.cells #[.int .i64 2, .string ⟨#[116, 49]⟩, .string ⟨#[]⟩, .string ⟨#[]⟩, .string ⟨#[]⟩, .int .i64 0, .int .i64 0, t.val] 83)) (.cells #[.int .i64 2, .string ⟨#[116, 49]⟩, .string ⟨#[]⟩, .string ⟨#[]⟩, .string ⟨#[]⟩, .int .i64 0, .int .i64 0, .iface 56 (.agg #[t.val])] 83)
      have ht8 := HT6.out.below (bl_alloc (bl_alloc (bl_refl _) (.cells #[.int .i64 2, .string ⟨#[116, 49]⟩, .string ⟨#[]⟩, .string ⟨#[]⟩, .string ⟨#[]⟩, .int .i64 0, .int .i64 0, t.val] 83)) (.cells #[.int .i64 2, .string ⟨#[116, 49]⟩, .string ⟨#[]⟩, .string ⟨#[]⟩, .string ⟨#[]⟩, .int .i64 0, .int .i64 0, .iface 56 (.agg #[t.val])] 83))
      obtain ⟨W8, hW8⟩ : ∃ W8, (w6.alloc (.cells #[.int .i64 2, .string ⟨#[116, 49]⟩, .string ⟨#[]⟩, .string ⟨#[]⟩, .string ⟨#[]⟩, .int .i64 0, .int .i64 0, t.val] 83)).alloc (.cells #[.int .i64 2, .string ⟨#[116, 49]⟩, .string ⟨#[]⟩, .string ⟨#[]⟩, .string ⟨#[]⟩, .int .i64 0, .int .i64 0, .iface 56 (.agg #[t.val])] 83) = W8 := ⟨_, rfl⟩
      unfold evA at e1 e2
      rw [hW8] at e1 e2 hb8 ht8 ⊢
      have HW8 := Lib.hid hW8; have HB8 := Lib.hid hb8; have HT8 := Lib.hid ht8
      clear hW8 hb8 ht8 HT6
      obtain ⟨f0, f1, f2, f3, f4, f5, f6, f7⟩ := Blk.eight (v := t.val) e1
      go_wp2_with fail
      refine (HSS.out _).mono ?_
      rintro e w9 ⟨rfl, hb9⟩
      replace e1 := e1.below hb9
      replace e2 := e2.below hb9
      have HB9 := Lib.hid (bl_step hb9 HB8.out); have HT9 := Lib.hid (HT8.out.below hb9)
      clear f0 f1 f2 f3 f4 f5 f6 f7 hb9 HB8 HT8 HSS
      obtain ⟨f0, f1, f2, f3, f4, f5, f6, f7⟩ := Blk.eight (v := t.val) e1
      obtain ⟨g0, g1, g2, g3, g4, g5, g6, g7⟩ := Blk.eight e2
      go_wp2_with fail
      refine (HSG.out _).mono ?_
      rintro e w10 ⟨rfl, hb10⟩
      replace e1 := e1.below hb10
      have HB10 := Lib.hid (bl_step hb10 HB9.out); have HT10 := Lib.hid (HT9.out.below hb10)
      clear f0 f1 f2 f3 f4 f5 f6 f7 g0 g1 g2 g3 g4 g5 g6 g7 hb10 HB9 HT9 HSG e2
      obtain ⟨f0, f1, f2, f3, f4, f5, f6, f7⟩ := Blk.eight (v := t.val) e1
      go_wp2_with fail
      refine (HST.out _).mono ?_
      rintro e w11 ⟨rfl, hb11⟩
      have HB11 := Lib.hid (bl_step hb11 HB10.out); have HT11 := Lib.hid (HT10.out.below hb11)
      clear f0 f1 f2 f3 f4 f5 f6 f7 hb11 HB10 HT10 HST e1
      go_wp2_with fail
      refine (wakes11_calls _ HT11.out).mono ?_
      rintro e w12 ⟨rfl, hb12⟩
      go_wp2_with fail
      go_ret
      exact ⟨rfl, bl_step hb12 HB11.out⟩
    · have hne2 : (f == 0) = false := by simpa using hne
      go_upto_region 10 with fail
      have e1 := (Blk.new w6 (evA ⟨#[116, 49]⟩ t.val) 83).below (bl_alloc (bl_refl _) (.cells #[.int .i64 2, .string ⟨#[116, 49]⟩, .string ⟨#[]⟩, .string ⟨#[]⟩, .string ⟨#[]⟩, .int .i64 0, .int .i64 0, .iface 56 (.agg #[t.val])] 83))
      have e2 := Blk_new (w6.alloc (.cells #[.int .i64 2, .string ⟨#[116, 49]⟩, .string ⟨#[]⟩, .string ⟨#[]⟩, .string ⟨#[]⟩, .int .i64 0, .int .i64 0, t.val] 83)) (evA ⟨#[116, 49]⟩ (.iface 56 (.agg #[t.val]))) 83 (w6.heap.size + 1) (alloc_size _ _).symm
      have hb8 := bl_alloc (bl_alloc HB6.out (.cells #[.int .i64 2, .string ⟨#[116, 49]⟩, .string ⟨#[]⟩, .string ⟨#[]⟩, .string ⟨#[]⟩, .int .i64 0, .int .i64 0, t.val] 83)) (.cells #[.int .i64 2, .string ⟨#[116, 49]⟩, .string ⟨#[]⟩, .string ⟨#[]⟩, .string ⟨#[]⟩, .int .i64 0, .int .i64 0, .iface 56 (.agg #[t.val])] 83)
      have ht8 := HT6.out.below (bl_alloc (bl_alloc (bl_refl _) (.cells #[.int .i64 2, .string ⟨#[116, 49]⟩, .string ⟨#[]⟩, .string ⟨#[]⟩, .string ⟨#[]⟩, .int .i64 0, .int .i64 0, t.val] 83)) (.cells #[.int .i64 2, .string ⟨#[116, 49]⟩, .string ⟨#[]⟩, .string ⟨#[]⟩, .string ⟨#[]⟩, .int .i64 0, .int .i64 0, .iface 56 (.agg #[t.val])] 83))
      obtain ⟨W8, hW8⟩ : ∃ W8, (w6.alloc (.cells #[.int .i64 2, .string ⟨#[116, 49]⟩, .string ⟨#[]⟩, .string ⟨#[]⟩, .string ⟨#[]⟩, .int .i64 0, .int .i64 0, t.val] 83)).alloc (.cells #[.int .i64 2, .string ⟨#[116, 49]⟩, .string ⟨#[]⟩, .string ⟨#[]⟩, .string ⟨#[]⟩, .int .i64 0, .int .i64 0, .iface 56 (.agg #[t.val])] 83) = W8 := ⟨_, rfl⟩
      unfold evA at e1 e2
      rw [hW8] at e1 e2 hb8 ht8 ⊢
      have HW8 := Lib.hid hW8; have HB8 := Lib.hid hb8; have HT8 := Lib.hid ht8
      clear hW8 hb8 ht8 HT6
      obtain ⟨f0, f1, f2, f3, f4, f5, f6, f7⟩ := Blk.eight (v := t.val) e1
      go_wp2_with fail
      refine (HSS.out _).mono ?_
      rintro e w9 ⟨rfl, hb9⟩
      replace e1 := e1.below hb9
      replace e2 := e2.below hb9
      have HB9 := Lib.hid (bl_step hb9 HB8.out); have HT9 := Lib.hid (HT8.out.below hb9)
      clear f0 f1 f2 f3 f4 f5 f6 f7 hb9 HB8 HT8 HSS
      obtain ⟨f0, f1, f2, f3, f4, f5, f6, f7⟩ := Blk.eight (v := t.val) e1
      obtain ⟨g0, g1, g2, g3, g4, g5, g6, g7⟩ := Blk.eight e2
      go_wp2_with fail
      refine (HSG.out _).mono ?_
      rintro e w10 ⟨rfl, hb10⟩
      replace e1 := e1.below hb10
      have HB10 := Lib.hid (bl_step hb10 HB9.out); have HT10 := Lib.hid (HT9.out.below hb10)
      clear f0 f1 f2 f3 f4 f5 f6 f7 g0 g1 g2 g3 g4 g5 g6 g7 hb10 HB9 HT9 HSG e2
      obtain ⟨f0, f1, f2, f3, f4, f5, f6, f7⟩ := Blk.eight (v := t.val) e1
      go_wp2_with fail
      refine (HST.out _).mono ?_
      rintro e w11 ⟨rfl, hb11⟩
      have HB11 := Lib.hid (bl_step hb11 HB10.out); have HT11 := Lib.hid (HT10.out.below hb11)
      clear f0 f1 f2 f3 f4 f5 f6 f7 hb11 HB10 HT10 HST e1
      go_wp2_with fail
      refine (wakes11_calls _ HT11.out).mono ?_
      rintro e w12 ⟨rfl, hb12⟩
      go_wp2_with fail
      go_ret
      exact ⟨rfl, bl_step hb12 HB11.out⟩
  | false =>
    obtain rfl : P = S := HP.out
    clear hpl hwo
    go_wp2_with fail
    refine (htw).mono ?_
    rintro e w5 ⟨rfl, hb5⟩
    go_wp2_with fail
    refine (HEC.out _ (HT3.out.below hb5)).mono ?_
    rintro e w6 ⟨rfl, hb6⟩
    have HT6 := Lib.hid ((HT3.out.below hb5).below hb6); have HB6 := Lib.hid (bl_step hb6 (bl_step hb5 HBL.out))
    clear htw hb5 hb6 HEC
    by_cases hen : f = en
    · subst hen
      clear hor
      by_cases h0 : f = 0
      · subst h0
        go_upto_region 10 with fail
        have e1 := (Blk.new w6 (evA P t.val) 83).below (bl_alloc (bl_refl _) (.cells #[.int .i64 2, .string P, .string ⟨#[]⟩, .string ⟨#[]⟩, .string ⟨#[]⟩, .int .i64 0, .int .i64 0, .iface 56 (.agg #[t.val])] 83))
        have e2 := Blk_new (w6.alloc (.cells #[.int .i64 2, .string P, .string ⟨#[]⟩, .string ⟨#[]⟩, .string ⟨#[]⟩, .int .i64 0, .int .i64 0, t.val] 83)) (evA P (.iface 56 (.agg #[t.val]))) 83 (w6.heap.size + 1) (alloc_size _ _).symm
        have hb8 := bl_alloc (bl_alloc HB6.out (.cells #[.int .i64 2, .string P, .string ⟨#[]⟩, .string ⟨#[]⟩, .string ⟨#[]⟩, .int .i64 0, .int .i64 0, t.val] 83)) (.cells #[.int .i64 2, .string P, .string ⟨#[]⟩, .string ⟨#[]⟩, .string ⟨#[]⟩, .int .i64 0, .int .i64 0, .iface 56 (.agg #[t.val])] 83)
        have ht8 := HT6.out.below (bl_alloc (bl_alloc (bl_refl _) (.cells #[.int .i64 2, .string P, .string ⟨#[]⟩, .string ⟨#[]⟩, .string ⟨#[]⟩, .int .i64 0, .int .i64 0, t.val] 83)) (.cells #[.int .i64 2, .string P, .string ⟨#[]⟩, .string ⟨#[]⟩, .string ⟨#[]⟩, .int .i64 0, .int .i64 0, .iface 56 (.agg #[t.val])] 83))
        obtain ⟨W8, hW8⟩ : ∃ W8, (w6.alloc (.cells #[.int .i64 2, .string P, .string ⟨#[]⟩, .string ⟨#[]⟩, .string ⟨#[]⟩, .int .i64 0, .int .i64 0, t.val] 83)).alloc (.cells #[.int .i64 2, .string P, .string ⟨#[]⟩, .string ⟨#[]⟩, .string ⟨#[]⟩, .int .i64 0, .int .i64 0, .iface 56 (.agg #[t.val])] 83) = W8 := ⟨_, rfl⟩
        unfold evA at e1 e2
        rw [hW8] at e1 e2 hb8 ht8 ⊢
        have HW8 := Lib.hid hW8; have HB8 := Lib.hid hb8; have HT8 := Lib.hid ht8
        clear hW8 hb8 ht8 HT6
        obtain ⟨f0, f1, f2, f3, f4, f5, f6, f7⟩ := Blk.eight (v := t.val) e1
        go_wp2_with fail
        refine (HSS.out _).mono ?_
        rintro e w9 ⟨rfl, hb9⟩
        replace e1 := e1.below hb9
        replace e2 := e2.below hb9
        have HB9 := Lib.hid (bl_step hb9 HB8.out); have HT9 := Lib.hid (HT8.out.below hb9)
        clear f0 f1 f2 f3 f4 f5 f6 f7 hb9 HB8 HT8 HSS
        obtain ⟨f0, f1, f2, f3, f4, f5, f6, f7⟩ := Blk.eight (v := t.val) e1
        obtain ⟨g0, g1, g2, g3, g4, g5, g6, g7⟩ := Blk.eight e2
        go_wp2_with fail
        refine (HSG.out _).mono ?_
        rintro e w10 ⟨rfl, hb10⟩
        replace e1 := e1.below hb10
        have HB10 := Lib.hid (bl_step hb10 HB9.out); have HT10 := Lib.hid (HT9.out.below hb10)
        clear f0 f1 f2 f3 f4 f5 f6 f7 g0 g1 g2 g3 g4 g5 g6 g7 hb10 HB9 HT9 HSG e2
        obtain ⟨f0, f1, f2, f3, f4, f5, f6, f7⟩ := Blk.eight (v := t.val) e1
        go_wp2_with fail
        refine (HST.out _).mono ?_
        rintro e w11 ⟨rfl, hb11⟩
        have HB11 := Lib.hid (bl_step hb11 HB10.out); have HT11 := Lib.hid (HT10.out.below hb11)
        clear f0 f1 f2 f3 f4 f5 f6 f7 hb11 HB10 HT10 HST e1
        go_wp2_with fail
        refine (wakes11_calls _ HT11.out).mono ?_
        rintro e w12 ⟨rfl, hb12⟩
        go_wp2_with fail
        go_ret
        exact ⟨rfl, bl_step hb12 HB11.out⟩
      · have hne2 : (f == 0) = false := by simpa using h0
        go_upto_region 10 with fail
        have e1 := (Blk.new w6 (evA P t.val) 83).below (bl_alloc (bl_refl _) (.cells #[.int .i64 2, .string P, .string ⟨#[]⟩, .string ⟨#[]⟩, .string ⟨#[]⟩, .int .i64 0, .int .i64 0, .iface 56 (.agg #[t.val])] 83))
        have e2 := Blk_new (w6.alloc (.cells #[.int .i64 2, .string P, .string ⟨#[]⟩, .string ⟨#[]⟩, .string ⟨#[]⟩, .int .i64 0, .int .i64 0, t.val] 83)) (evA P (.iface 56 (.agg #[t.val]))) 83 (w6.heap.size + 1) (alloc_size _ _).symm
        have hb8 := bl_alloc (bl_alloc HB6.out (.cells #[.int .i64 2, .string P, .string ⟨#[]⟩, .string ⟨#[]⟩, .string ⟨#[]⟩, .int .i64 0, .int .i64 0, t.val] 83)) (.cells #[.int .i64 2, .string P, .string ⟨#[]⟩, .string ⟨#[]⟩, .string ⟨#[]⟩, .int .i64 0, .int .i64 0, .iface 56 (.agg #[t.val])] 83)
        have ht8 := HT6.out.below (bl_alloc (bl_alloc (bl_refl _) (.cells #[.int .i64 2, .string P, .string ⟨#[]⟩, .string ⟨#[]⟩, .string ⟨#[]⟩, .int .i64 0, .int .i64 0, t.val] 83)) (.cells #[.int .i64 2, .string P, .string ⟨#[]⟩, .string ⟨#[]⟩, .string ⟨#[]⟩, .int .i64 0, .int .i64 0, .iface 56 (.agg #[t.val])] 83))
        obtain ⟨W8, hW8⟩ : ∃ W8, (w6.alloc (.cells #[.int .i64 2, .string P, .string ⟨#[]⟩, .string ⟨#[]⟩, .string ⟨#[]⟩, .int .i64 0, .int .i64 0, t.val] 83)).alloc (.cells #[.int .i64 2, .string P, .string ⟨#[]⟩, .string ⟨#[]⟩, .string ⟨#[]⟩, .int .i64 0, .int .i64 0, .iface 56 (.agg #[t.val])] 83) = W8 := ⟨_, rfl⟩
        unfold evA at e1 e2
        rw [hW8] at e1 e2 hb8 ht8 ⊢
        have HW8 := Lib.hid hW8; have HB8 := Lib.hid hb8; have HT8 := Lib.hid ht8
        clear hW8 hb8 ht8 HT6
        obtain ⟨f0, f1, f2, f3, f4, f5, f6, f7⟩ := Blk.eight (v := t.val) e1
        go_wp2_with fail
        refine (HSS.out _).mono ?_
        rintro e w9 ⟨rfl, hb9⟩
        replace e1 := e1.below hb9
        replace e2 := e2.below hb9
        have HB9 := Lib.hid (bl_step hb9 HB8.out); have HT9 := Lib.hid (HT8.out.below hb9)
        clear f0 f1 f2 f3 f4 f5 f6 f7 hb9 HB8 HT8 HSS
        obtain ⟨f0, f1, f2, f3, f4, f5, f6, f7⟩ := Blk.eight (v := t.val) e1
        obtain ⟨g0, g1, g2, g3, g4, g5, g6, g7⟩ := Blk.eight e2
        go_wp2_with fail
        refine (HSG.out _).mono ?_
        rintro e w10 ⟨rfl, hb10⟩
        replace e1 := e1.below hb10
        have HB10 := Lib.hid (bl_step hb10 HB9.out); have HT10 := Lib.hid (HT9.out.below hb10)
        clear f0 f1 f2 f3 f4 f5 f6 f7 g0 g1 g2 g3 g4 g5 g6 g7 hb10 HB9 HT9 HSG e2
        obtain ⟨f0, f1, f2, f3, f4, f5, f6, f7⟩ := Blk.eight (v := t.val) e1
        go_wp2_with fail
        refine (HST.out _).mono ?_
        rintro e w11 ⟨rfl, hb11⟩
        have HB11 := Lib.hid (bl_step hb11 HB10.out); have HT11 := Lib.hid (HT10.out.below hb11)
        clear f0 f1 f2 f3 f4 f5 f6 f7 hb11 HB10 HT10 HST e1
        go_wp2_with fail
        refine (wakes11_calls _ HT11.out).mono ?_
        rintro e w12 ⟨rfl, hb12⟩
        go_wp2_with fail
        go_ret
        exact ⟨rfl, bl_step hb12 HB11.out⟩
    · obtain rfl : f = 1 := hor.resolve_left hen
      have hen2 : (1 == en) = false := by simpa using hen
      clear hor
      go_upto_region 10 with fail
      have e1 := (Blk.new w6 (evA P t.val) 83).below (bl_alloc (bl_refl _) (.cells #[.int .i64 2, .string P, .string ⟨#[]⟩, .string ⟨#[]⟩, .string ⟨#[]⟩, .int .i64 0, .int .i64 0, .iface 56 (.agg #[t.val])] 83))
      have e2 := Blk_new (w6.alloc (.cells #[.int .i64 2, .string P, .string ⟨#[]⟩, .string ⟨#[]⟩, .string ⟨#[]⟩, .int .i64 0, .int .i64 0, t.val] 83)) (evA P (.iface 56 (.agg #[t.val]))) 83 (w6.heap.size + 1) (alloc_size _ _).symm
      have hb8 := bl_alloc (bl_alloc HB6.out (.cells #[.int .i64 2, .string P, .string ⟨#[]⟩, .string ⟨#[]⟩, .string ⟨#[]⟩, .int .i64 0, .int .i64 0, t.val] 83)) (.cells #[.int .i64 2, .string P, .string ⟨#[]⟩, .string ⟨#[]⟩, .string ⟨#[]⟩, .int .i64 0, .int .i64 0, .iface 56 (.agg #[t.val])] 83)
      have ht8 := HT6.out.below (bl_alloc (bl_alloc (bl_refl _) (.cells #[.int .i64 2, .string P, .string ⟨#[]⟩, .string ⟨#[]⟩, .string ⟨#[]⟩, .int .i64 0, .int .i64 0, t.val] 83)) (.cells #[.int .i64 2, .string P, .string ⟨#[]⟩, .string ⟨#[]⟩, .string ⟨#[]⟩, .int .i64 0, .int .i64 0, .iface 56 (.agg #[t.val])] 83))
      obtain ⟨W8, hW8⟩ : ∃ W8, (w6.alloc (.cells #[.int .i64 2, .string P, .string ⟨#[]⟩, .string ⟨#[]⟩, .string ⟨#[]⟩, .int .i64 0, .int .i64 0, t.val] 83)).alloc (.cells #[.int .i64 2, .string P, .string ⟨#[]⟩, .string ⟨#[]⟩, .string ⟨#[]⟩, .int .i64 0, .int .i64 0, .iface 56 (.agg #[t.val])] 83) = W8 := ⟨_, rfl⟩
      unfold evA at e1 e2
      rw [hW8] at e1 e2 hb8 ht8 ⊢
      have HW8 := Lib.hid hW8; have HB8 := Lib.hid hb8; have HT8 := Lib.hid ht8
      clear hW8 hb8 ht8 HT6
      obtain ⟨f0, f1, f2, f3, f4, f5, f6, f7⟩ := Blk.eight (v := t.val) e1
      go_wp2_with fail
      refine (HSS.out _).mono ?_
      rintro e w9 ⟨rfl, hb9⟩
      replace e1 := e1.below hb9
      replace e2 := e2.below hb9
      have HB9 := Lib.hid (bl_step hb9 HB8.out); have HT9 := Lib.hid (HT8.out.below hb9)
      clear f0 f1 f2 f3 f4 f5 f6 f7 hb9 HB8 HT8 HSS
      obtain ⟨f0, f1, f2, f3, f4, f5, f6, f7⟩ := Blk.eight (v := t.val) e1
      obtain ⟨g0, g1, g2, g3, g4, g5, g6, g7⟩ := Blk.eight e2
      go_wp2_with fail
      refine (HSG.out _).mono ?_
      rintro e w10 ⟨rfl, hb10⟩
      replace e1 := e1.below hb10
      have HB10 := Lib.hid (bl_step hb10 HB9.out); have HT10 := Lib.hid (HT9.out.below hb10)
      clear f0 f1 f2 f3 f4 f5 f6 f7 g0 g1 g2 g3 g4 g5 g6 g7 hb10 HB9 HT9 HSG e2
      obtain ⟨f0, f1, f2, f3, f4, f5, f6, f7⟩ := Blk.eight (v := t.val) e1
      go_wp2_with fail
      refine (HST.out _).mono ?_
      rintro e w11 ⟨rfl, hb11⟩
      have HB11 := Lib.hid (bl_step hb11 HB10.out); have HT11 := Lib.hid (HT10.out.below hb11)
      clear f0 f1 f2 f3 f4 f5 f6 f7 hb11 HB10 HT10 HST e1
      go_wp2_with fail
      refine (wakes11_calls _ HT11.out).mono ?_
      rintro e w12 ⟨rfl, hb12⟩
      go_wp2_with fail
      go_ret
      exact ⟨rfl, bl_step hb12 HB11.out⟩
end Go.Proofs.YtgcglongjjpkbaaDoor
