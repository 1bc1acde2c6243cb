/- LedgerAgain: the contracts, step by step. -/
import Derived.Test.YtnekcijganhknaaGreatDoorLdoG
namespace Go.Proofs.YtnekcijganhknaaGreatDoor
open Go.RowKit
set_option linter.unusedVariables false
set_option linter.unusedSimpArgs false

theorem usd_name : nameB usd = true := by kernel_rfl
theorem eur_name : nameB eur = true := by kernel_rfl
theorem day_zero : dayB 0 = true := by decide
def tO (a : Int) : Tm := .scale (.const a) (.one usd)
def xS : ByteArray := ⟨#[120]⟩
def tL (b : Int) : Tm := .scale (.mul (.const b) (.fix xS)) (.one usd)
def sOne : ByteArray := ⟨#[111, 110, 101]⟩
def sLate : ByteArray := ⟨#[108, 97, 116, 101]⟩
theorem xS_name : nameB xS = true := by kernel_rfl
theorem sOne_name : nameB sOne = true := by kernel_rfl
theorem sLate_name : nameB sLate = true := by kernel_rfl
theorem valid_of {n : Int} (h : -1000000000000 ≤ n ∧ n ≤ 1000000000000) : validB n = true := (validB_iff n).2 h
theorem small64 {n : Int} (h : validB n = true) : -9223372036854775808 ≤ n ∧ n < 9223372036854775808 := by have := (validB_iff n).1 h; omega
theorem small64d {n : Int} (h : dayB n = true) : -9223372036854775808 ≤ n ∧ n < 9223372036854775808 := by unfold dayB at h; simp at h; omega
theorem dup_nil : dupL [] = false := rfl
theorem one_check {c : ByteArray} (h : nameB c = true) : (Tm.one c).check = 0 := by
  unfold Tm.check
  simp [Tm.form, h, Tm.nodes, Tm.deep, Tm.labels, dup_nil]
theorem tO_ok {a : Int} (ha : validB a = true) : (tO a).ok := ⟨small64 ha, show usd.size ≤ _ by decide⟩
theorem tO_check {a : Int} (ha : validB a = true) : (tO a).check = 0 := by
  unfold Tm.check tO
  simp [Tm.form, Ob.form, ha, usd_name, Tm.nodes, Ob.nodes, Tm.deep, Ob.deep, Tm.labels, dup_nil, addNew]
theorem tL_ok {b : Int} (hb : validB b = true) : (tL b).ok := ⟨⟨small64 hb, show xS.size ≤ _ by decide⟩, show usd.size ≤ _ by decide⟩
theorem tL_check {b : Int} (hb : validB b = true) : (tL b).check = 0 := by
  unfold Tm.check tL
  simp [Tm.form, Ob.form, hb, usd_name, xS_name, Tm.nodes, Ob.nodes, Tm.deep, Ob.deep, Tm.labels, dup_nil, addNew]
theorem cash_in {id : ByteArray} {t : Tm} {d : Int} {W : Wd} {x : Wk} (hc : t.check = 0) (hd : dayB d = true) (h : t.into id W d 1 ⟨[], []⟩ = (x, 0)) : t.cash id d W = (x, 0) := by
  unfold Tm.cash
  rw [if_neg (by simp [hc, hd]), h, if_neg (by simp)]
theorem mulC_one {a : Int} (ha : validB a = true) : mulC 1 a = some a := by
  unfold mulC
  rw [Int.one_mul, ha, show validB 1 = true by decide]
  rfl
theorem cash_one {id c : ByteArray} {d : Int} {W : Wd} (h : nameB c = true) (hd : dayB d = true) : (Tm.one c).cash id d W = (⟨[⟨d, c, 1⟩], []⟩, 0) := cash_in (one_check h) hd rfl
theorem cash_tO {id : ByteArray} {a d : Int} {W : Wd} (ha : validB a = true) (h0 : a ≠ 0) (hd : dayB d = true) : (tO a).cash id d W = (⟨[⟨d, usd, a⟩], []⟩, 0) := by
  refine cash_in (tO_check ha) hd ?_
  simp [tO, Tm.into, Wk.number, Ob.value, mulC_one ha, h0]
theorem cash_tL0 {id : ByteArray} {b d : Int} {W : Wd} (hb : validB b = true) (hd : dayB d = true) (hx : W.fixed xS d = none) : (tL b).cash id d W = (⟨[], [⟨false, xS, ⟨#[]⟩, d, 0⟩]⟩, 0) := by
  refine cash_in (tL_check hb) hd ?_
  simp [tL, Tm.into, Wk.number, Ob.value, pairV, hx, Ob.needs, Ob.names, addNew, Wk.waitN, Wk.wait]
theorem mulC_in {b c : Int} (hb : validB b = true) (hc : validB c = true) (hbc : validB (b * c) = true) : mulC b c = some (b * c) := by
  unfold mulC
  rw [hb, hc, hbc]
  rfl
theorem cash_tL1 {id : ByteArray} {b c d : Int} {W : Wd} (hb : validB b = true) (hc : validB c = true) (hbc : validB (b * c) = true) (hd : dayB d = true) (hx : W.fixed xS d = some c) : (tL b).cash id d W = (⟨if b * c = 0 then [] else [⟨d, usd, b * c⟩], []⟩, 0) := by
  refine cash_in (tL_check hb) hd ?_
  have hp : Ob.value W d (.mul (.const b) (.fix xS)) = (some (b * c), 0) := by simp [Ob.value, pairV, hx, mulC_in hb hc hbc, toldV]
  unfold tL Tm.into Wk.number
  rw [hp]
  simp only [reduceCtorEq, and_false, if_false]
  rw [mulC_one hbc]
  by_cases h : b * c = 0
  · simp [h]
  · simp [h, Tm.into]
theorem ba_nil : (⟨#[]⟩ : ByteArray).size ≤ 1000000 := by decide
theorem i64k {n : Int} (h : 0 ≤ n ∧ n ≤ 10) : IsInt64 n := isI_small (by omega)
theorem evT_fair {id : ByteArray} {t : Tm} (hi : id.size ≤ 1000000) (ht : t.ok) (hm : t.meas ≤ 100) : (evT id t).fair := ⟨⟨i64k (n := 2) (by omega), i64k (n := 0) (by omega), i64k (n := 0) (by omega), ht⟩, Nat.le_trans hm (by decide), hi, ba_nil, ba_nil, ba_nil⟩
theorem evF_fair {s : ByteArray} {d v : Int} (hi : s.size ≤ 1000000) (hd : dayB d = true) (hv : validB v = true) : (evF s d v).fair := ⟨⟨i64k (n := 3) (by omega), small64d hd, small64 hv, .inl rfl⟩, show (1 : Nat) ≤ 1099511627776 by decide, ba_nil, hi, ba_nil, ba_nil⟩
theorem evS_fair {s : ByteArray} {d v : Int} (hi : s.size ≤ 1000000) (hd : dayB d = true) (hv : validB v = true) : (evS d s v).fair := ⟨⟨i64k (n := 6) (by omega), small64d hd, small64 hv, .inl rfl⟩, show (1 : Nat) ≤ 1099511627776 by decide, ba_nil, ba_nil, ba_nil, hi⟩
/-! The states of the law. -/
section
variable {a b c : Int}
def agL1 (a : Int) : Lg := ⟨0, [⟨sOne, 0, tO a⟩], Wd.none, []⟩
def agL2 (a b : Int) : Lg := ⟨0, [⟨sOne, 0, tO a⟩, ⟨sLate, 0, tL b⟩], Wd.none, []⟩
def agL3 (a b : Int) : Lg := ⟨0, [⟨sOne, 0, tO a⟩, ⟨sLate, 0, tL b⟩], Wd.none, [((0, usd.toList), a)]⟩
def agW (c : Int) : Wd := ⟨[((xS.toList, 0), c)], []⟩
def agL4 (a b c : Int) : Lg := ⟨0, [⟨sOne, 0, tO a⟩, ⟨sLate, 0, tL b⟩], agW c, [((0, usd.toList), a)]⟩
def agL5 (a b c : Int) : Lg := ⟨0, [⟨sOne, 0, tO a⟩, ⟨sLate, 0, tL b⟩], agW c, [((0, usd.toList), a + b * c)]⟩
theorem ag1 (ha : validB a = true) (h0 : a ≠ 0) : Lg.none.done (evT sOne (tO a)) 0 = (agL1 a, 0) :=
  done_of (do_trade (.inl rfl) (evT_check sOne_name (Tm.write_ok (tO_ok ha) (tO_check ha) (show 3 ≤ 16 by decide))) rfl (by decide) (by show ((tO a).cash sOne 0 Wd.none).2 = 0; rw [cash_tO ha h0 day_zero]))
theorem ag2 (hb : validB b = true) : (agL1 a).done (evT sLate (tL b)) 0 = (agL2 a b, 0) :=
  done_of (do_trade (.inl rfl) (evT_check sLate_name (Tm.write_ok (tL_ok hb) (tL_check hb) (show 5 ≤ 16 by decide))) (show ((sOne.toList == sLate.toList) || false) = false by kernel_rfl) (by show 1 < 8; decide) (by show ((tL b).cash sLate 0 Wd.none).2 = 0; rw [cash_tL0 hb day_zero rfl]))
theorem all2 (ha : validB a = true) (h0 : a ≠ 0) (hb : validB b = true) {p : List ((Int × List UInt8) × Int)} : (Lg.mk 0 [⟨sOne, 0, tO a⟩, ⟨sLate, 0, tL b⟩] Wd.none p).all = (⟨[⟨0, usd, a⟩], [⟨false, xS, ⟨#[]⟩, 0, 0⟩]⟩, 0) := by
  unfold Lg.all
  simp [allOf, cash_tO ha h0 day_zero, cash_tL0 hb day_zero (show Wd.none.fixed xS 0 = none from rfl)]
theorem all4 (ha : validB a = true) (h0 : a ≠ 0) (hb : validB b = true) (hc : validB c = true) (hbc : validB (b * c) = true) {p : List ((Int × List UInt8) × Int)} : (Lg.mk 0 [⟨sOne, 0, tO a⟩, ⟨sLate, 0, tL b⟩] (agW c) p).all = (⟨⟨0, usd, a⟩ :: (if b * c = 0 then [] else [⟨0, usd, b * c⟩]), []⟩, 0) := by
  have hx : (agW c).fixed xS 0 = some c := by simp [agW, Wd.fixed]
  unfold Lg.all
  simp [allOf, cash_tO ha h0 day_zero, cash_tL1 hb hc hbc day_zero hx]
theorem ag_owed2 (ha : validB a = true) (h0 : a ≠ 0) (hb : validB b = true) : (agL2 a b).owed 0 usd = a := by
  unfold Lg.owed agL2
  rw [all2 ha h0 hb]
  simp [Lg.paidOn]
theorem ag_owed4 (ha : validB a = true) (h0 : a ≠ 0) (hb : validB b = true) (hc : validB c = true) (hbc : validB (b * c) = true) : (agL4 a b c).owed 0 usd = b * c := by
  unfold Lg.owed agL4
  rw [all4 ha h0 hb hc hbc]
  by_cases h : b * c = 0
  · simp [Lg.paidOn, h, List.lookup]; omega
  · simp [Lg.paidOn, h, List.lookup]; omega
theorem ag_owed5 (ha : validB a = true) (h0 : a ≠ 0) (hb : validB b = true) (hc : validB c = true) (hbc : validB (b * c) = true) : (agL5 a b c).owed 0 usd = 0 := by
  unfold Lg.owed agL5
  rw [all4 ha h0 hb hc hbc]
  by_cases h : b * c = 0
  · simp [Lg.paidOn, h, List.lookup]; omega
  · simp [Lg.paidOn, h, List.lookup]; omega
theorem ag3 (ha : validB a = true) (h0 : a ≠ 0) (hb : validB b = true) : (agL2 a b).done (evS 0 usd a) 0 = (agL3 a b, 0) :=
  done_of ((do_settle (.inl rfl) (evS_check usd_name day_zero ha) (Int.le_refl 0) (ag_owed2 ha h0 hb)).trans (if_neg h0))
theorem ag_fix (hc : validB c = true) : Wd.none.fix xS 0 c = (agW c, 0) := by
  unfold Wd.fix
  rw [xS_name, day_zero, hc]
  rfl
theorem ag4 (ha : validB a = true) (h0 : a ≠ 0) (hb : validB b = true) (hc : validB c = true) (hbc : validB (b * c) = true) : (agL3 a b).done (evF xS 0 c) 0 = (agL4 a b c, 0) :=
  done_of ((do_fix (.inl rfl) (evF_check xS_name day_zero hc) (Int.le_refl 0) (ag_fix hc)).trans (by show (agL4 a b c, (Lg.mk 0 [⟨sOne, 0, tO a⟩, ⟨sLate, 0, tL b⟩] (agW c) [((0, usd.toList), a)]).all.2) = _; rw [all4 ha h0 hb hc hbc]))
theorem ag5 (ha : validB a = true) (h0 : a ≠ 0) (hb : validB b = true) (hc : validB c = true) (hbc : validB (b * c) = true) (hne : b * c ≠ 0) : (agL4 a b c).done (evS 0 usd (b * c)) 1 = (agL5 a b c, 0) :=
  done_of ((do_settle (.inr rfl) (evS_check usd_name day_zero hbc) (Int.le_refl 0) (ag_owed4 ha h0 hb hc hbc)).trans (by rw [if_neg hne]; simp [agL4, agL5, payMore]))
theorem ag5n (ha : validB a = true) (h0 : a ≠ 0) (hb : validB b = true) (hc : validB c = true) (hbc : validB (b * c) = true) (hz : b * c = 0) : (agL4 a b c).done (evS 0 usd (b * c)) 1 = (agL4 a b c, 3) :=
  done_no (by rw [do_settle (.inr rfl) (evS_check usd_name day_zero hbc) (Int.le_refl 0) (ag_owed4 ha h0 hb hc hbc), if_pos hz]) (by decide)
end
end Go.Proofs.YtnekcijganhknaaGreatDoor
