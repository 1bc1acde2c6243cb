/- LedgerLife: a bond with a choice, step by step. -/
import Derived.Test.YtnekcijganhknaaGreatDoorLawLAgW
namespace Go.Proofs.YtnekcijganhknaaGreatDoor
open Go.RowKit
set_option linter.unusedVariables false
set_option linter.unusedSimpArgs false

def sBond : ByteArray := ⟨#[98, 111, 110, 100]⟩
def sTake : ByteArray := ⟨#[116, 97, 107, 101]⟩
def sRate : ByteArray := ⟨#[114, 97, 116, 101]⟩
theorem sBond_name : nameB sBond = true := by kernel_rfl
theorem sTake_name : nameB sTake = true := by kernel_rfl
theorem sRate_name : nameB sRate = true := by kernel_rfl
def tR (n : Int) : Tm := .scale (.mul (.const n) (.fix sRate)) (.one eur)
def tB (n D : Int) : Tm := .when_ D (.or sTake (tO n) (tR n))
section
variable {n D d : Int}
theorem tB_ok (hn : validB n = true) (hD : dayB D = true) : (tB n D).ok := ⟨small64d hD, show sTake.size ≤ _ by decide, tO_ok hn, ⟨small64 hn, show sRate.size ≤ _ by decide⟩, show eur.size ≤ _ by decide⟩
theorem dup_one (s : ByteArray) : dupL [s] = false := by simp [dupL, anyTo]
theorem tB_check (hn : validB n = true) (hD : dayB D = true) : (tB n D).check = 0 := by
  unfold Tm.check tB tO tR
  simp [Tm.form, Ob.form, hn, hD, usd_name, eur_name, sRate_name, sTake_name, Tm.nodes, Ob.nodes, Tm.deep, Ob.deep, Tm.labels, Tm.ownL, Tm.kids, addNew, dup_nil, dup_one]
def lfL1 (n D : Int) : Lg := ⟨0, [⟨sBond, 0, tB n D⟩], Wd.none, []⟩
def lfL2 (n D d : Int) : Lg := ⟨d, [⟨sBond, 0, tB n D⟩], Wd.none, []⟩
def lfW3 (d : Int) : Wd := ⟨[], [((sBond.toList, sTake.toList), (1, d))]⟩
def lfL3 (n D d : Int) : Lg := ⟨d, [⟨sBond, 0, tB n D⟩], lfW3 d, []⟩
def lfW4 (d : Int) : Wd := ⟨[((sRate.toList, d), 3)], [((sBond.toList, sTake.toList), (1, d))]⟩
def lfL4 (n D d : Int) : Lg := ⟨d, [⟨sBond, 0, tB n D⟩], lfW4 d, []⟩
def lfL5 (n D d : Int) : Lg := ⟨d, [⟨sBond, 0, tB n D⟩], lfW4 d, [((d, eur.toList), n * 3)]⟩
theorem lf_cash0 (hn : validB n = true) (hD : dayB D = true) (h0 : 0 ≤ D) : (tB n D).cash sBond 0 Wd.none = (⟨[], [⟨true, ⟨#[]⟩, sTake, D, 0⟩]⟩, 0) := by
  refine cash_in (tB_check hn hD) day_zero ?_
  have hm : Max.max (0 : Int) D = D := Int.max_eq_right h0
  have hc : Wd.none.chosen sBond sTake = none := rfl
  simp [tB, Tm.into, hm, hc]
theorem lf_into3 (h0 : 0 ≤ D) (hd : D ≤ d) (W : Wd) (hc : W.chosen sBond sTake = some (1, d)) : (tB n D).into sBond W 0 1 ⟨[], []⟩ = (tR n).into sBond W d 1 ⟨[], []⟩ := by
  have hm : Max.max (0 : Int) D = D := Int.max_eq_right h0
  have hm2 : Max.max D d = d := Int.max_eq_right hd
  simp [tB, Tm.into, hm, hm2, hc]
theorem lf_cash3 (hn : validB n = true) (hD : dayB D = true) (h0 : 0 ≤ D) (hd : D ≤ d) : (tB n D).cash sBond 0 (lfW3 d) = (⟨[], [⟨false, sRate, ⟨#[]⟩, d, 0⟩]⟩, 0) := by
  refine cash_in (tB_check hn hD) day_zero ?_
  rw [lf_into3 h0 hd _ (by simp [lfW3, Wd.chosen])]
  have hx : (lfW3 d).fixed sRate d = none := rfl
  simp [tR, Tm.into, Wk.number, Ob.value, pairV, hx, Ob.needs, Ob.names, addNew, Wk.waitN, Wk.wait]
theorem lf_cash4 (hn : validB n = true) (hD : dayB D = true) (h0 : 0 ≤ D) (hd : D ≤ d) (hv : validB (n * 3) = true) (hz : n * 3 ≠ 0) : (tB n D).cash sBond 0 (lfW4 d) = (⟨[⟨d, eur, n * 3⟩], []⟩, 0) := by
  refine cash_in (tB_check hn hD) day_zero ?_
  rw [lf_into3 h0 hd _ (by simp [lfW4, Wd.chosen])]
  have hx : (lfW4 d).fixed sRate d = some 3 := by simp [lfW4, Wd.fixed]
  have hp : Ob.value (lfW4 d) d (.mul (.const n) (.fix sRate)) = (some (n * 3), 0) := by simp [Ob.value, pairV, hx, mulC_in hn (show validB 3 = true by decide) hv, toldV]
  unfold tR Tm.into Wk.number
  rw [hp]
  simp only [reduceCtorEq, and_false, if_false]
  rw [mulC_one hv]
  simp [hz, Tm.into]
theorem lf1 (hn : validB n = true) (hD : dayB D = true) (h0 : 0 ≤ D) : Lg.none.done (evT sBond (tB n D)) 1 = (lfL1 n D, 0) :=
  done_of (do_trade (.inr rfl) (evT_check sBond_name (Tm.write_ok (tB_ok hn hD) (tB_check hn hD) (show 10 ≤ 16 by decide))) rfl (by decide) (by show ((tB n D).cash sBond 0 Wd.none).2 = 0; rw [lf_cash0 hn hD h0]))
theorem find_bond (p : Dl → Bool) (x : Dl) (h : p x = true) : [x].find? p = some x := by simp [h]
theorem lf_try (l : Lg) (by_ v : Int) (hb : by_ = 0 ∨ by_ = 1) (hv : v = 0 ∨ v = 1) (hl : l.deals = [⟨sBond, 0, tB n D⟩]) (x : Wt) (hx : ((tB n D).cash sBond 0 l.w).1.waits = [x]) (hc : (x.choice && x.label.toList == sTake.toList) = true) :
    l.try_ (evC sBond sTake v) by_ = if l.day < x.day then (l, 7) else if x.side ≠ by_ then (l, 8) else chooseF l (evC sBond sTake v) ⟨sBond, 0, tB n D⟩ (l.w.choose sBond sTake v l.day) := by
  rw [try_in hb (evC_check sBond_name sTake_name hv)]
  show l.choice (evC sBond sTake v) by_ = _
  rw [Lg.choice_eq, hl]
  have h1 : ([⟨sBond, 0, tB n D⟩] : List Dl).find? (·.id.toList == (evC sBond sTake v).id.toList) = some ⟨sBond, 0, tB n D⟩ := find_bond _ _ (by show (sBond.toList == sBond.toList) = true; simp)
  rw [h1]
  show waitF l (evC sBond sTake v) by_ ⟨sBond, 0, tB n D⟩ (((tB n D).cash sBond 0 l.w).1.waits.find? (fun w => w.choice && w.label.toList == sTake.toList)) = _
  rw [hx]
  have h2 : ([x] : List Wt).find? (fun w => w.choice && w.label.toList == sTake.toList) = some x := by simp [hc]
  rw [h2]
  rfl
theorem lf_try1 (hn : validB n = true) (hD : dayB D = true) (h0 : 0 < D) : ((lfL1 n D).try_ (evC sBond sTake 0) 0).2 = 7 := by
  rw [lf_try (lfL1 n D) 0 0 (.inl rfl) (.inl rfl) rfl ⟨true, ⟨#[]⟩, sTake, D, 0⟩ (by show ((tB n D).cash sBond 0 Wd.none).1.waits = _; rw [lf_cash0 hn hD (by omega)]) (by simp)]
  rw [if_pos (show (lfL1 n D).day < D from h0)]
theorem lf2 (hd : dayB d = true) (h0 : 0 < d) : (lfL1 n D).done (evD d) 0 = (lfL2 n D d, 0) := done_of (do_day (.inl rfl) (evD_check hd) (show (0 : Int) < d from h0))
theorem lf_try2 (hn : validB n = true) (hD : dayB D = true) (h0 : 0 ≤ D) (hd : D ≤ d) : ((lfL2 n D d).try_ (evC sBond sTake 0) 1).2 = 8 := by
  rw [lf_try (lfL2 n D d) 1 0 (.inr rfl) (.inl rfl) rfl ⟨true, ⟨#[]⟩, sTake, D, 0⟩ (by show ((tB n D).cash sBond 0 Wd.none).1.waits = _; rw [lf_cash0 hn hD h0]) (by simp)]
  rw [if_neg (show ¬ (lfL2 n D d).day < D from by show ¬ d < D; omega), if_pos (show ¬ (0 : Int) = 1 by decide)]
theorem lf_waits2 (hn : validB n = true) (hD : dayB D = true) (h0 : 0 ≤ D) : (lfL2 n D d).all.1.waits = [⟨true, ⟨#[]⟩, sTake, D, 0⟩] := by
  unfold Lg.all lfL2
  simp [allOf, lf_cash0 hn hD h0]
theorem lf3 (hn : validB n = true) (hD : dayB D = true) (h0 : 0 ≤ D) (hd : D ≤ d) (hdd : dayB d = true) : (lfL2 n D d).done (evC sBond sTake 1) 0 = (lfL3 n D d, 0) := by
  refine done_of ?_
  rw [lf_try (lfL2 n D d) 0 1 (.inl rfl) (.inr rfl) rfl ⟨true, ⟨#[]⟩, sTake, D, 0⟩ (by show ((tB n D).cash sBond 0 Wd.none).1.waits = _; rw [lf_cash0 hn hD h0]) (by simp)]
  rw [if_neg (show ¬ (lfL2 n D d).day < D from by show ¬ d < D; omega), if_neg (show ¬ (0 : Int) ≠ 0 by decide)]
  have hc : (lfL2 n D d).w.choose sBond sTake 1 (lfL2 n D d).day = (lfW3 d, 0) := by
    show Wd.none.choose sBond sTake 1 d = _
    unfold Wd.choose
    rw [sBond_name, sTake_name, hdd]
    rfl
  rw [hc]
  show (lfL3 n D d, ((tB n D).cash sBond 0 (lfW3 d)).2) = _
  rw [lf_cash3 hn hD h0 hd]
theorem lf_all3 (hn : validB n = true) (hD : dayB D = true) (h0 : 0 ≤ D) (hd : D ≤ d) : (lfL3 n D d).all = (⟨[], [⟨false, sRate, ⟨#[]⟩, d, 0⟩]⟩, 0) := by
  unfold Lg.all lfL3
  simp [allOf, lf_cash3 hn hD h0 hd]
theorem lf_owed3 (hn : validB n = true) (hD : dayB D = true) (h0 : 0 ≤ D) (hd : D ≤ d) : (lfL3 n D d).owed d eur = 0 := by
  unfold Lg.owed
  rw [lf_all3 hn hD h0 hd]
  rfl
theorem lf_all4 (hn : validB n = true) (hD : dayB D = true) (h0 : 0 ≤ D) (hd : D ≤ d) (hv : validB (n * 3) = true) (hz : n * 3 ≠ 0) {p : List ((Int × List UInt8) × Int)} : (Lg.mk d [⟨sBond, 0, tB n D⟩] (lfW4 d) p).all = (⟨[⟨d, eur, n * 3⟩], []⟩, 0) := by
  unfold Lg.all
  simp [allOf, lf_cash4 hn hD h0 hd hv hz]
theorem lf4 (hn : validB n = true) (hD : dayB D = true) (h0 : 0 ≤ D) (hd : D ≤ d) (hdd : dayB d = true) (hv : validB (n * 3) = true) (hz : n * 3 ≠ 0) : (lfL3 n D d).done (evF sRate d 3) 1 = (lfL4 n D d, 0) :=
  done_of ((do_fix (D := lfW4 d) (.inr rfl) (evF_check sRate_name hdd (by decide)) (Int.le_refl d) (by
    show (lfW3 d).fix sRate d 3 = _
    unfold Wd.fix
    rw [sRate_name, hdd, show validB 3 = true by decide]
    rfl)).trans (by show (lfL4 n D d, (Lg.mk d [⟨sBond, 0, tB n D⟩] (lfW4 d) []).all.2) = _; rw [lf_all4 hn hD h0 hd hv hz]))
theorem lf_owed4 (hn : validB n = true) (hD : dayB D = true) (h0 : 0 ≤ D) (hd : D ≤ d) (hv : validB (n * 3) = true) (hz : n * 3 ≠ 0) : (lfL4 n D d).owed d eur = n * 3 := by
  unfold Lg.owed lfL4
  rw [lf_all4 hn hD h0 hd hv hz]
  simp [Lg.paidOn]
theorem lf5 (hn : validB n = true) (hD : dayB D = true) (h0 : 0 ≤ D) (hd : D ≤ d) (hdd : dayB d = true) (hv : validB (n * 3) = true) (hz : n * 3 ≠ 0) : (lfL4 n D d).done (evS d eur (n * 3)) 1 = (lfL5 n D d, 0) :=
  done_of ((do_settle (.inr rfl) (evS_check eur_name hdd hv) (Int.le_refl d) (lf_owed4 hn hD h0 hd hv hz)).trans (by rw [if_neg hz]; rfl))
theorem lf_owed5 (hn : validB n = true) (hD : dayB D = true) (h0 : 0 ≤ D) (hd : D ≤ d) (hv : validB (n * 3) = true) (hz : n * 3 ≠ 0) : (lfL5 n D d).owed d eur = 0 := by
  unfold Lg.owed lfL5
  rw [lf_all4 hn hD h0 hd hv hz]
  simp [Lg.paidOn, List.lookup]
  omega
theorem lf_paid5 : (lfL5 n D d).paidOn d eur = n * 3 := by simp [lfL5, Lg.paidOn, List.lookup]
theorem evC_fair {id s : ByteArray} {v : Int} (hi : id.size ≤ 1000000) (hs : s.size ≤ 1000000) (hv : validB v = true) : (evC id s v).fair := ⟨⟨i64k (n := 4) (by omega), i64k (n := 0) (by omega), small64 hv, .inl rfl⟩, show (1 : Nat) ≤ 1099511627776 by decide, hi, ba_nil, hs, ba_nil⟩
theorem evD_fair (hd : dayB d = true) : (evD d).fair := ⟨⟨i64k (n := 5) (by omega), small64d hd, i64k (n := 0) (by omega), .inl rfl⟩, show (1 : Nat) ≤ 1099511627776 by decide, ba_nil, ba_nil, ba_nil, ba_nil⟩
end
end Go.Proofs.YtnekcijganhknaaGreatDoor
