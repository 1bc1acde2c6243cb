/- LedgerErrors: the events, one by one. -/
import Derived.Test.YtnekcijganhknaaGreatDoorLawLLf
namespace Go.Proofs.YtnekcijganhknaaGreatDoor
open Go.RowKit
set_option linter.unusedVariables false
set_option linter.unusedSimpArgs false

theorem done_two {l : Lg} {e : Ev} {by_ : Int} : (l.done e by_).2 = (l.try_ e by_).2 := by
  unfold Lg.done
  split
  · rfl
  · rfl
def sA : ByteArray := ⟨#[97]⟩
def sB : ByteArray := ⟨#[98]⟩
def sBig : ByteArray := ⟨#[98, 105, 103]⟩
def sOr : ByteArray := ⟨#[111, 114]⟩
def sOver : ByteArray := ⟨#[111, 118, 101, 114]⟩
def sNo : ByteArray := ⟨#[110, 111]⟩
def mA : Int := 1000000000000
def tBig : Tm := .scale (.const mA) (.scale (.fix xS) (.one usd))
def tOr : Tm := .or sA (.one usd) .zero
def tWhen (D : Int) : Tm := .when_ D (.give tOr)
def tOver : Tm := .scale (.const 2) (.scale (.const mA) tOr)
theorem sA_name : nameB sA = true := by kernel_rfl
theorem sB_name : nameB sB = true := by kernel_rfl
theorem sBig_name : nameB sBig = true := by kernel_rfl
theorem sOr_name : nameB sOr = true := by kernel_rfl
theorem sOver_name : nameB sOver = true := by kernel_rfl
theorem sNo_name : nameB sNo = true := by kernel_rfl
theorem sT_name : nameB sT = true := by kernel_rfl
theorem mA_valid : validB mA = true := by decide
section
variable {D : Int}
theorem tBig_ok : tBig.ok := ⟨small64 mA_valid, show xS.size ≤ _ by decide, show usd.size ≤ _ by decide⟩
theorem tBig_check : tBig.check = 0 := by
  unfold Tm.check tBig
  simp [Tm.form, Ob.form, mA_valid, usd_name, xS_name, Tm.nodes, Ob.nodes, Tm.deep, Ob.deep, Tm.labels, Tm.ownL, Tm.kids, addNew, dup_nil]
theorem tOr_ok : tOr.ok := ⟨show sA.size ≤ _ by decide, show usd.size ≤ _ by decide, trivial⟩
theorem tOr_check : tOr.check = 0 := by
  unfold Tm.check tOr
  simp [Tm.form, sA_name, usd_name, Tm.nodes, Tm.deep, Tm.labels, Tm.ownL, Tm.kids, addNew, dup_one]
theorem tWhen_ok (hD : dayB D = true) : (tWhen D).ok := ⟨small64d hD, tOr_ok⟩
theorem tWhen_check (hD : dayB D = true) : (tWhen D).check = 0 := by
  unfold Tm.check tWhen tOr
  simp [Tm.form, sA_name, usd_name, hD, Tm.nodes, Tm.deep, Tm.labels, Tm.ownL, Tm.kids, addNew, dup_one]
theorem tOver_ok : tOver.ok := ⟨small64 (show validB 2 = true by decide), small64 mA_valid, tOr_ok⟩
theorem tOver_check : tOver.check = 0 := by
  unfold Tm.check tOver tOr
  simp [Tm.form, Ob.form, mA_valid, show validB 2 = true by decide, sA_name, usd_name, Tm.nodes, Ob.nodes, Tm.deep, Ob.deep, Tm.labels, Tm.ownL, Tm.kids, addNew, dup_one]
theorem zero_check : Tm.zero.check = 0 := by
  unfold Tm.check
  simp [Tm.form, Tm.nodes, Tm.deep, Tm.labels, Tm.ownL, Tm.kids, dup_nil]
/-! What they pay. -/
theorem er_big0 {id : ByteArray} {W : Wd} (hx : W.fixed xS 0 = none) : tBig.cash id 0 W = (⟨[], [⟨false, xS, ⟨#[]⟩, 0, 0⟩]⟩, 0) := by
  refine cash_in tBig_check day_zero ?_
  have h1 : mulC 1 mA = some mA := mulC_one mA_valid
  simp [tBig, Tm.into, Wk.number, Ob.value, h1, show mA ≠ 0 by decide, hx, Ob.needs, Ob.names, Wk.waitN, Wk.wait]
theorem er_big2 {id : ByteArray} {W : Wd} (hx : W.fixed xS 0 = some 2) : (tBig.cash id 0 W).2 = 6 := by
  have h1 : mulC 1 mA = some mA := mulC_one mA_valid
  have h2 : mulC mA 2 = none := by decide
  have h : tBig.into id W 0 1 ⟨[], []⟩ = (⟨[], []⟩, 6) := by simp [tBig, Tm.into, Wk.number, Ob.value, h1, h2, show mA ≠ 0 by decide, hx]
  unfold Tm.cash
  rw [if_neg (by simp [tBig_check, day_zero]), h]
  rfl
theorem er_bigN {id : ByteArray} {W : Wd} (hx : W.fixed xS 0 = some (-1)) : tBig.cash id 0 W = (⟨[⟨0, usd, -1000000000000⟩], []⟩, 0) := by
  refine cash_in tBig_check day_zero ?_
  have h1 : mulC 1 mA = some mA := mulC_one mA_valid
  have h2 : mulC mA (-1) = some (-1000000000000) := by decide
  simp [tBig, Tm.into, Wk.number, Ob.value, h1, h2, show mA ≠ 0 by decide, hx]
theorem er_or0 {W : Wd} (hD : dayB D = true) (h0 : 0 ≤ D) (hc : W.chosen sOr sA = none) : (tWhen D).cash sOr 0 W = (⟨[], [⟨true, ⟨#[]⟩, sA, D, 1⟩]⟩, 0) := by
  refine cash_in (tWhen_check hD) day_zero ?_
  have hm : Max.max (0 : Int) D = D := Int.max_eq_right h0
  simp [tWhen, tOr, Tm.into, hm, hc]
theorem er_or1 {W : Wd} (hD : dayB D = true) (h0 : 0 ≤ D) (hc : W.chosen sOr sA = some (0, D)) : (tWhen D).cash sOr 0 W = (⟨[⟨D, usd, -1⟩], []⟩, 0) := by
  refine cash_in (tWhen_check hD) day_zero ?_
  have hm : Max.max (0 : Int) D = D := Int.max_eq_right h0
  have hm2 : Max.max D D = D := Int.max_eq_right (Int.le_refl D)
  simp [tWhen, tOr, Tm.into, hm, hm2, hc]
theorem er_over {id : ByteArray} {W : Wd} : (tOver.cash id 0 W).2 = 6 := by
  have h1 : mulC 1 2 = some 2 := by decide
  have h2 : mulC 2 mA = none := by decide
  have h : tOver.into id W 0 1 ⟨[], []⟩ = (⟨[], []⟩, 6) := by simp [tOver, Tm.into, Wk.number, Ob.value, h1, h2]
  unfold Tm.cash
  rw [if_neg (by simp [tOver_check, day_zero]), h]
  rfl
/-! The states. -/
def erW1 : Wd := ⟨[((xS.toList, 0), -1)], []⟩
def erW2 (D : Int) : Wd := ⟨[((xS.toList, 0), -1)], [((sOr.toList, sA.toList), (0, D))]⟩
def erDeals (D : Int) : List Dl := [⟨sBig, 0, tBig⟩, ⟨sOr, 0, tWhen D⟩]
def erS1 : Lg := ⟨0, [⟨sBig, 0, tBig⟩], Wd.none, []⟩
def erS2 (D : Int) : Lg := ⟨0, erDeals D, Wd.none, []⟩
def erS3 (D : Int) : Lg := ⟨0, erDeals D, erW1, []⟩
def erS4 (D : Int) : Lg := ⟨D, erDeals D, erW1, []⟩
def erS5 (D : Int) : Lg := ⟨D, erDeals D, erW2 D, []⟩
def erS6 (D : Int) : Lg := ⟨D, erDeals D, erW2 D, [((D, usd.toList), -1)]⟩
def erS7 (D : Int) : Lg := ⟨D, erDeals D, erW2 D, [((D, usd.toList), -1), ((0, usd.toList), -1000000000000)]⟩
theorem evT_checkW {id : ByteArray} {t : Tm} (hi : nameB id = true) : (evT id t).check = t.write.2 := by
  have h1 : qB 2 = false := by kernel_rfl
  have h2 : (evT id t).only = true := by simp [evT, Ev.only, Ev.onlyT, Ev.onlyR, Ev.texts, show hasB 2 73 = true by decide, show hasB 2 84 = true by decide]
  have h3 : (evT id t).named = true := by simp [evT, Ev.named, Ev.texts, hi, show hasB 2 78 = false by decide, show hasB 2 76 = false by decide, show hasB 2 67 = false by decide]
  unfold Ev.check
  rw [h2, h3]
  simp [evT, h1, show validB 0 = true by decide]
def evP : Ev := ⟨1, ⟨#[]⟩, ⟨#[]⟩, ⟨#[]⟩, ⟨#[]⟩, 0, 0, .odd .nilIface⟩
def ev7 : Ev := ⟨7, ⟨#[]⟩, ⟨#[]⟩, ⟨#[]⟩, ⟨#[]⟩, 0, 0, .odd .nilIface⟩
def tFive : Tm := .odd (.iface 3 (.int .i64 5))
theorem tFive_ok : tFive.ok := .inr ⟨_, _, rfl, by decide, by decide, by decide, by decide, by decide, by decide, by decide, by decide⟩
theorem try_chk {l : Lg} {e : Ev} {by_ k : Int} (hb : by_ = 0 ∨ by_ = 1) (hc : e.check = k) (hk : k ≠ 0) : (l.try_ e by_).2 = k := by
  unfold Lg.try_
  rw [if_neg (by omega), if_pos (by rw [hc]; exact hk)]
  exact hc
theorem er0 : Lg.none.done evP 2 = (Lg.none, 1) := done_no (by unfold Lg.try_; rw [if_pos (by decide)]) (by decide)
theorem er1 : Lg.none.done ev7 0 = (Lg.none, 1) := done_no (try_chk (.inl rfl) (by
  unfold Ev.check
  rw [show qB ev7.kind = true by kernel_rfl]
  rfl) (by decide)) (by decide)
theorem er2 : Lg.none.done (evT sT tFive) 0 = (Lg.none, 2) := done_no (try_chk (.inl rfl) ((evT_checkW sT_name).trans (by decide)) (by decide)) (by decide)
theorem er3 : Lg.none.done (evT sBig tBig) 0 = (erS1, 0) :=
  done_of (do_trade (.inl rfl) (evT_check sBig_name (Tm.write_ok tBig_ok tBig_check (by decide))) rfl (by decide) (by show (tBig.cash sBig 0 Wd.none).2 = 0; rw [er_big0 rfl]))
theorem er4 : erS1.done (evT sBig tOr) 1 = (erS1, 4) := done_no (by
  rw [try_in (.inr rfl) (evT_check sBig_name (Tm.write_ok tOr_ok tOr_check (by decide)))]
  show (erS1.trade (evT sBig tOr)).2 = 4
  unfold Lg.trade
  rw [if_pos (show (erS1.deals.any (·.id.toList == (evT sBig tOr).id.toList)) = true from by show ((sBig.toList == sBig.toList) || false) = true; simp)]) (by decide)
theorem er5 (hD : dayB D = true) (h0 : 0 ≤ D) : erS1.done (evT sOr (tWhen D)) 1 = (erS2 D, 0) :=
  done_of (do_trade (.inr rfl) (evT_check sOr_name (Tm.write_ok (tWhen_ok hD) (tWhen_check hD) (show 5 ≤ 16 by decide))) (show ((sBig.toList == sOr.toList) || false) = false by kernel_rfl) (by decide) (by show ((tWhen D).cash sOr 0 Wd.none).2 = 0; rw [er_or0 hD h0 rfl]))
theorem er6 : (erS2 D).done (evT sOver tOver) 0 = (erS2 D, 6) := done_no (by
  rw [try_in (.inl rfl) (evT_check sOver_name (Tm.write_ok tOver_ok tOver_check (by decide)))]
  show ((erS2 D).trade (evT sOver tOver)).2 = 6
  unfold Lg.trade
  rw [if_neg (show ¬ ((erS2 D).deals.any (·.id.toList == (evT sOver tOver).id.toList)) = true from by show ¬ ((sBig.toList == sOver.toList) || ((sOr.toList == sOver.toList) || false)) = true; rw [show ((sBig.toList == sOver.toList) || ((sOr.toList == sOver.toList) || false)) = false by kernel_rfl]; decide), if_neg (show ¬ 8 ≤ (erS2 D).deals.length by show ¬ 8 ≤ 2; decide)]
  have h := er_over (id := sOver) (W := Wd.none)
  show (if (tOver.cash sOver 0 Wd.none).2 ≠ 0 then (erS2 D, (tOver.cash sOver 0 Wd.none).2) else _).2 = (6 : Int)
  rw [h]
  rfl) (by decide)
theorem er7 : (erS2 D).done (evF xS 1 3) 0 = (erS2 D, 7) := done_no (by
  rw [try_in (.inl rfl) (evF_check xS_name (by decide) (by decide))]
  show ((erS2 D).fixing (evF xS 1 3)).2 = 7
  unfold Lg.fixing
  rw [if_pos (show (erS2 D).day < (evF xS 1 3).day from (show (0 : Int) < 1 by decide))]) (by decide)
def erW9 : Wd := ⟨[((xS.toList, 0), 2)], []⟩
theorem er8 : (erS2 D).done (evF xS 0 2) 0 = (erS2 D, 6) := done_no (by
  have hf : (erS2 D).w.fix xS 0 2 = (erW9, 0) := by
    show Wd.none.fix xS 0 2 = _
    unfold Wd.fix
    rw [xS_name, day_zero, show validB 2 = true by decide]
    rfl
  rw [do_fix (.inl rfl) (evF_check xS_name day_zero (by decide)) (Int.le_refl 0) hf]
  show (allOf erW9 (erDeals D) ⟨[], []⟩).2 = 6
  have h := er_big2 (id := sBig) (W := erW9) (by simp [erW9, Wd.fixed])
  simp [allOf, erDeals, h]) (by decide)
theorem er_all3 (hD : dayB D = true) (h0 : 0 ≤ D) {d : Int} {p : List ((Int × List UInt8) × Int)} : (Lg.mk d (erDeals D) erW1 p).all = (⟨[⟨0, usd, -1000000000000⟩], [⟨true, ⟨#[]⟩, sA, D, 1⟩]⟩, 0) := by
  have h1 := er_bigN (id := sBig) (W := erW1) (by simp [erW1, Wd.fixed])
  have h2 := er_or0 (W := erW1) hD h0 rfl
  unfold Lg.all
  simp [allOf, erDeals, h1, h2]
theorem er_all5 (hD : dayB D = true) (h0 : 0 ≤ D) {d : Int} {p : List ((Int × List UInt8) × Int)} : (Lg.mk d (erDeals D) (erW2 D) p).all = (⟨[⟨0, usd, -1000000000000⟩, ⟨D, usd, -1⟩], []⟩, 0) := by
  have h1 := er_bigN (id := sBig) (W := erW2 D) (by simp [erW2, Wd.fixed])
  have h2 := er_or1 (W := erW2 D) hD h0 (by simp [erW2, Wd.chosen])
  unfold Lg.all
  simp [allOf, erDeals, h1, h2]
theorem er9 (hD : dayB D = true) (h0 : 0 ≤ D) : (erS2 D).done (evF xS 0 (-1)) 0 = (erS3 D, 0) :=
  done_of ((do_fix (D := erW1) (.inl rfl) (evF_check xS_name day_zero (by decide)) (Int.le_refl 0) (by
    show Wd.none.fix xS 0 (-1) = _
    unfold Wd.fix
    rw [xS_name, day_zero, show validB (-1) = true by decide]
    rfl)).trans (by show (erS3 D, (Lg.mk 0 (erDeals D) erW1 []).all.2) = _; rw [er_all3 hD h0]))
theorem er10 : (erS3 D).done (evF xS 0 (-1)) 1 = (erS3 D, 4) := done_no (by
  rw [try_in (.inr rfl) (evF_check xS_name day_zero (by decide))]
  show ((erS3 D).fixing (evF xS 0 (-1))).2 = 4
  have hf : (erS3 D).w.fix xS 0 (-1) = (erW1, 4) := by
    show erW1.fix xS 0 (-1) = _
    unfold Wd.fix
    rw [xS_name, day_zero, show validB (-1) = true by decide]
    simp [erW1, Wd.fixed]
  unfold Lg.fixing
  rw [if_neg (show ¬ (erS3 D).day < (evF xS 0 (-1)).day from (show ¬ (0 : Int) < 0 by decide))]
  show (if ((erS3 D).w.fix xS 0 (-1)).2 ≠ 0 then (erS3 D, ((erS3 D).w.fix xS 0 (-1)).2) else _).2 = (4 : Int)
  rw [hf]
  rfl) (by decide)
theorem er_findNo : (erDeals D).find? (·.id.toList == sNo.toList) = none := by
  rw [List.find?_eq_none]
  intro x hx
  simp only [erDeals, List.mem_cons, List.not_mem_nil, or_false] at hx
  rcases hx with rfl | rfl
  · show ¬ (sBig.toList == sNo.toList) = true; rw [show (sBig.toList == sNo.toList) = false by kernel_rfl]; decide
  · show ¬ (sOr.toList == sNo.toList) = true; rw [show (sOr.toList == sNo.toList) = false by kernel_rfl]; decide
theorem er_findOr : (erDeals D).find? (·.id.toList == sOr.toList) = some ⟨sOr, 0, tWhen D⟩ := by
  unfold erDeals
  rw [List.find?_cons]
  rw [show (sBig.toList == sOr.toList) = false by kernel_rfl]
  simp
theorem er11 : (erS3 D).done (evC sNo sA 0) 0 = (erS3 D, 3) := done_no (by
  rw [try_in (.inl rfl) (evC_check sNo_name sA_name (.inl rfl))]
  show ((erS3 D).choice (evC sNo sA 0) 0).2 = 3
  rw [Lg.choice_eq]
  show (dealF (erS3 D) (evC sNo sA 0) 0 ((erDeals D).find? (·.id.toList == sNo.toList))).2 = 3
  rw [er_findNo]
  rfl) (by decide)
theorem er_try (l : Lg) (s : ByteArray) (hs : nameB s = true) (by_ v : Int) (hb : by_ = 0 ∨ by_ = 1) (hv : v = 0 ∨ v = 1) (hl : l.deals = erDeals D) {ws : List Wt} (hx : ((tWhen D).cash sOr 0 l.w).1.waits = ws) :
    l.try_ (evC sOr s v) by_ = waitF l (evC sOr s v) by_ ⟨sOr, 0, tWhen D⟩ (ws.find? (fun w => w.choice && w.label.toList == s.toList)) := by
  rw [try_in hb (evC_check sOr_name hs hv)]
  show l.choice (evC sOr s v) by_ = _
  rw [Lg.choice_eq, hl]
  show dealF l (evC sOr s v) by_ ((erDeals D).find? (·.id.toList == sOr.toList)) = _
  rw [er_findOr]
  show waitF l (evC sOr s v) by_ ⟨sOr, 0, tWhen D⟩ (((tWhen D).cash sOr 0 l.w).1.waits.find? (fun w => w.choice && w.label.toList == s.toList)) = _
  rw [hx]
theorem er_w1 (hD : dayB D = true) (h0 : 0 ≤ D) : ((tWhen D).cash sOr 0 erW1).1.waits = [⟨true, ⟨#[]⟩, sA, D, 1⟩] := by rw [er_or0 hD h0 rfl]
theorem er_fA : ([⟨true, ⟨#[]⟩, sA, D, 1⟩] : List Wt).find? (fun w => w.choice && w.label.toList == sA.toList) = some ⟨true, ⟨#[]⟩, sA, D, 1⟩ := by simp
theorem er12 (hD : dayB D = true) (h0 : 0 ≤ D) : (erS3 D).done (evC sOr sB 0) 0 = (erS3 D, 3) := done_no (by
  rw [er_try (erS3 D) sB sB_name 0 0 (.inl rfl) (.inl rfl) rfl (er_w1 hD h0)]
  rw [show ([⟨true, ⟨#[]⟩, sA, D, 1⟩] : List Wt).find? (fun w => w.choice && w.label.toList == sB.toList) = none by kernel_rfl]
  rfl) (by decide)
theorem er13 (hD : dayB D = true) (h0 : 0 < D) : (erS3 D).done (evC sOr sA 0) 1 = (erS3 D, 7) := done_no (by
  rw [er_try (erS3 D) sA sA_name 1 0 (.inr rfl) (.inl rfl) rfl (er_w1 hD (Int.le_of_lt h0)), er_fA]
  show (if (erS3 D).day < D then (erS3 D, (7 : Int)) else _).2 = 7
  rw [if_pos (show (erS3 D).day < D from h0)]) (by decide)
theorem er_dayNo {l : Lg} {d by_ : Int} (hb : by_ = 0 ∨ by_ = 1) (hd : dayB d = true) (h : d ≤ l.day) : l.done (evD d) by_ = (l, 7) := done_no (by
  rw [try_in hb (evD_check hd)]
  show (if d ≤ l.day then (l, (7 : Int)) else _).2 = 7
  rw [if_pos h]) (by decide)
theorem er15 (hD : dayB D = true) (h0 : 0 < D) : (erS3 D).done (evD D) 0 = (erS4 D, 0) := done_of (do_day (.inl rfl) (evD_check hD) (show (0 : Int) < D from h0))
theorem er17 (hD : dayB D = true) (h0 : 0 ≤ D) : (erS4 D).done (evC sOr sA 0) 0 = (erS4 D, 8) := done_no (by
  rw [er_try (erS4 D) sA sA_name 0 0 (.inl rfl) (.inl rfl) rfl (er_w1 hD h0), er_fA]
  show (if (erS4 D).day < D then (erS4 D, (7 : Int)) else if (1 : Int) ≠ 0 then (erS4 D, 8) else _).2 = 8
  rw [if_neg (show ¬ (erS4 D).day < D from Int.lt_irrefl D), if_pos (by decide)]) (by decide)
theorem er18 (hD : dayB D = true) (h0 : 0 ≤ D) : (erS4 D).done (evC sOr sA 0) 1 = (erS5 D, 0) := done_of (by
  rw [er_try (erS4 D) sA sA_name 1 0 (.inr rfl) (.inl rfl) rfl (er_w1 hD h0), er_fA]
  show (if (erS4 D).day < D then (erS4 D, (7 : Int)) else if (1 : Int) ≠ 1 then (erS4 D, 8) else chooseF (erS4 D) (evC sOr sA 0) ⟨sOr, 0, tWhen D⟩ ((erS4 D).w.choose sOr sA 0 (erS4 D).day)) = _
  rw [if_neg (show ¬ (erS4 D).day < D from Int.lt_irrefl D), if_neg (by decide)]
  have hc : (erS4 D).w.choose sOr sA 0 (erS4 D).day = (erW2 D, 0) := by
    show erW1.choose sOr sA 0 D = _
    unfold Wd.choose
    rw [sOr_name, sA_name, hD]
    rfl
  show chooseF (erS4 D) (evC sOr sA 0) ⟨sOr, 0, tWhen D⟩ ((erS4 D).w.choose sOr sA 0 (erS4 D).day) = _
  rw [hc]
  show (erS5 D, ((tWhen D).cash sOr 0 (erW2 D)).2) = _
  rw [er_or1 hD h0 (by simp [erW2, Wd.chosen])])
theorem er19 (hD : dayB D = true) (h0 : 0 ≤ D) : (erS5 D).done (evC sOr sA 1) 1 = (erS5 D, 3) := done_no (by
  rw [er_try (erS5 D) sA sA_name 1 1 (.inr rfl) (.inr rfl) rfl (ws := []) (by show ((tWhen D).cash sOr 0 (erW2 D)).1.waits = []; rw [er_or1 hD h0 (by simp [erW2, Wd.chosen])])]
  rfl) (by decide)
theorem er_owed5 (hD : dayB D = true) (h0 : 0 < D) : (erS5 D).owed D usd = -1 ∧ (erS5 D).owed D eur = 0 := by
  have hne : (0 : Int) ≠ D := by omega
  have he : ¬ usd.toList = eur.toList := by
    have : (usd.toList == eur.toList) = false := by kernel_rfl
    exact beq_eq_false_iff_ne.1 this
  unfold Lg.owed erS5
  rw [er_all5 hD (Int.le_of_lt h0)]
  constructor
  · simp [Lg.paidOn, hne]
  · simp [Lg.paidOn, he]
theorem er_owed6 (hD : dayB D = true) (h0 : 0 < D) : (erS6 D).owed D usd = 0 ∧ (erS6 D).owed 0 usd = -1000000000000 := by
  have hne : (0 : Int) ≠ D := by omega
  have hne2 : ¬ D = 0 := by omega
  unfold Lg.owed erS6
  rw [er_all5 hD (Int.le_of_lt h0)]
  constructor
  · simp [Lg.paidOn, hne, List.lookup]
  · have hb : (((0 : Int), usd.toList) == (D, usd.toList)) = false := beq_eq_false_iff_ne.2 (by simp [hne])
    simp [Lg.paidOn, hne2, List.lookup, hb]
theorem settle_no {l : Lg} {c : ByteArray} {d v by_ o : Int} (hb : by_ = 0 ∨ by_ = 1) (hc : (evS d c v).check = 0) (ho : l.owed d c = o) : l.try_ (evS d c v) by_ = if l.day < d then (l, 7) else if o = 0 then (l, 3) else if o ≠ v then (l, 1) else (Lg.mk l.day l.deals l.w (payMore (d, c.toList) o l.paid), 0) := by
  subst ho
  rw [try_in hb hc]
  rfl
theorem er20 (hD1 : dayB (D + 1) = true) : (erS5 D).done (evS (D + 1) usd (-1)) 0 = (erS5 D, 7) := done_no (by
  rw [settle_no (.inl rfl) (evS_check usd_name hD1 (by decide)) rfl, if_pos (show (erS5 D).day < D + 1 from (show D < D + 1 by omega))]) (by decide)
theorem er21 (hD : dayB D = true) (h0 : 0 < D) : (erS5 D).done (evS D eur 1) 0 = (erS5 D, 3) := done_no (by
  rw [settle_no (.inl rfl) (evS_check eur_name hD (by decide)) (er_owed5 hD h0).2, if_neg (show ¬ (erS5 D).day < D from Int.lt_irrefl D)]
  rfl) (by decide)
theorem er22 (hD : dayB D = true) (h0 : 0 < D) : (erS5 D).done (evS D usd 1) 0 = (erS5 D, 1) := done_no (by
  rw [settle_no (.inl rfl) (evS_check usd_name hD (by decide)) (er_owed5 hD h0).1, if_neg (show ¬ (erS5 D).day < D from Int.lt_irrefl D)]
  rfl) (by decide)
theorem er23 (hD : dayB D = true) (h0 : 0 < D) : (erS5 D).done (evS D usd (-1)) 0 = (erS6 D, 0) := done_of (by
  rw [settle_no (.inl rfl) (evS_check usd_name hD (by decide)) (er_owed5 hD h0).1, if_neg (show ¬ (erS5 D).day < D from Int.lt_irrefl D)]
  rfl)
theorem er24 (hD : dayB D = true) (h0 : 0 < D) : (erS6 D).done (evS D usd (-1)) 0 = (erS6 D, 3) := done_no (by
  rw [settle_no (.inl rfl) (evS_check usd_name hD (by decide)) (er_owed6 hD h0).1, if_neg (show ¬ (erS6 D).day < D from Int.lt_irrefl D)]
  rfl) (by decide)
theorem er25 (hD : dayB D = true) (h0 : 0 < D) : (erS6 D).done (evS 0 usd (-1000000000000)) 1 = (erS7 D, 0) := done_of (by
  rw [settle_no (.inr rfl) (evS_check usd_name day_zero (by decide)) (er_owed6 hD h0).2, if_neg (show ¬ (erS6 D).day < 0 from (show ¬ D < 0 by omega))]
  have hne2 : ¬ (0 : Int) = D := by omega
  rw [if_neg (by decide), if_neg (by decide)]
  show (Lg.mk D (erDeals D) (erW2 D) (payMore (0, usd.toList) (-1000000000000) [((D, usd.toList), -1)]), (0 : Int)) = _
  have : ((0 : Int), usd.toList) ≠ (D, usd.toList) := by simp [hne2]
  have hb : (((0 : Int), usd.toList) == (D, usd.toList)) = false := beq_eq_false_iff_ne.2 this
  unfold payMore payMore
  rw [hb]
  rfl)
end
end Go.Proofs.YtnekcijganhknaaGreatDoor
