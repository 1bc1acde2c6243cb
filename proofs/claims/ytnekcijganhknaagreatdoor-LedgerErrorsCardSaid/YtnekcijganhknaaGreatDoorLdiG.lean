/- A choice. -/
import Derived.Test.YtnekcijganhknaaGreatDoorLdhG
namespace Go.Proofs.YtnekcijganhknaaGreatDoor
open Go.RowKit
set_option linter.unusedVariables false
set_option linter.unusedSimpArgs false

theorem addr_at (g i j : Nat) : (⟨g, i, none⟩ : Addr).add j = ⟨g, i + j, none⟩ := by unfold Addr.add; split <;> simp_all
theorem Own.addr {w0 W : World} {e size n : Nat} {v : Value} {xs : List Value} (h : Own w0 W e size v n xs) : ∃ A c, v = .slice A n c ∧ Rd W A xs ∧ ∀ ad, A = some ad → ∃ g, ad = ⟨g, 0, none⟩ := by
  obtain ⟨A, c, rfl, hr, -, -⟩ := h.read
  refine ⟨A, c, rfl, hr, fun ad e => ?_⟩
  subst e
  rcases h.2 with ⟨e, _⟩ | ⟨g, cap, cur, e, _⟩
  · cases e
  · cases e; exact ⟨g, rfl⟩
theorem find_at {α : Type} {l : List α} {q : α → Bool} {j : Nat} (hj : j < l.length) (h : q l[j] = true) (hn : ∀ i (hi : i < j), q (l[i]'(by omega)) = false) : l.find? q = some l[j] := by
  rw [List.find?_eq_some_iff_getElem]
  exact ⟨h, j, hj, rfl, fun i hi => by rw [hn i hi]; rfl⟩
theorem find_no {α : Type} {l : List α} {q : α → Bool} (hn : ∀ i (hi : i < l.length), q l[i] = false) : l.find? q = none := by
  rw [List.find?_eq_none]
  intro x hx
  obtain ⟨i, hi, rfl⟩ := List.getElem_of_mem hx
  rw [hn i hi]
  decide
theorem anyTo_no {p : Nat → Bool} {n : Nat} (h : anyTo p n = false) (j : Nat) (hj : j < n) : p j = false := by
  unfold anyTo at h
  rw [List.any_eq_false] at h
  have := h j (List.mem_range.2 hj)
  simpa using this
theorem isDl_at {l : List Dl} {id : ByteArray} {j : Nat} (hj : j < l.length) : isDl l id j = (l[j].id.toList == id.toList) := by unfold isDl; rw [List.getElem?_eq_getElem hj]
theorem isCh_at {l : List Wt} {s : ByteArray} {j : Nat} (hj : j < l.length) : isCh l s j = (l[j].choice && l[j].label.toList == s.toList) := by unfold isCh; rw [List.getElem?_eq_getElem hj]
theorem Wd.choose_ok2 {D : Wd} (h : D.ok2) (id s : ByteArray) (side d : Int) : (D.choose id s side d).1.ok2 := by
  refine ⟨Wd.choose_ok h.1 id s side d, ?_⟩
  unfold Wd.choose
  split
  · exact h.2
  · rename_i hn
    split
    · exact h.2
    · intro p hp
      rcases List.mem_cons.1 hp with rfl | hp
      · simp at hn
        exact hn.2
      · exact h.2 p hp
def chooseF (l : Lg) (e : Ev) (d : Dl) (z : Wd × Int) : Lg × Int := if z.2 ≠ 0 then (l, z.2) else (⟨l.day, l.deals, z.1, l.paid⟩, (d.term.cash d.id d.day z.1).2)
def waitF (l : Lg) (e : Ev) (by_ : Int) (d : Dl) : Option Wt → Lg × Int
  | none => (l, 3)
  | some w => if l.day < w.day then (l, 7) else if w.side ≠ by_ then (l, 8) else chooseF l e d (l.w.choose e.id e.label e.value l.day)
def dealF (l : Lg) (e : Ev) (by_ : Int) : Option Dl → Lg × Int
  | none => (l, 3)
  | some d => waitF l e by_ d ((d.term.cash d.id d.day l.w).1.waits.find? (fun w => w.choice && w.label.toList == e.label.toList))
theorem Lg.choice_eq (l : Lg) (e : Ev) (by_ : Int) : l.choice e by_ = dealF l e by_ (l.deals.find? (·.id.toList == e.id.toList)) := by
  unfold Lg.choice dealF waitF chooseF
  cases l.deals.find? (·.id.toList == e.id.toList) with
  | none => rfl
  | some d =>
    first | rfl | (dsimp only; cases (d.term.cash d.id d.day l.w).1.waits.find? (fun w => w.choice && w.label.toList == e.label.toList) <;> rfl)
set_option maxRecDepth 100000 in
set_option maxHeartbeats 4000000 in
theorem lchoice_calls {w0 w : World} {b : Nat} {l : Lg} {m : Nat} (hm : m ≤ 1000000) (ho : l.ok m) (h : LgAt w0 w b l) (hb : Below w0.heap.size w0 w) (e : Ev) (by_ : Int) (he : e.ok) (hid : e.id.size ≤ 1000000) (hls : e.label.size ≤ 1000000) :
    Calls Tryz.prog 67 #[.pointer (some ⟨b, 0, none⟩), e.val, .int .i64 by_] w (StepPost w0 b (l.choice e by_)) := by
  rw [Lg.choice_eq]
  have HDO : Hid (∀ d ∈ l.deals, d.term.ok) := fun d hd => (ho.deals d hd).1
  obtain ⟨vd, bw, g1, g2, gp, h⟩ := h
  have hc7 := e.term.cells_ he.term; have ho7 := e.term.one_ he.term
  obtain ⟨W1, hW1⟩ : ∃ W1, w.alloc (.cells e.cells 40) = W1 := ⟨_, rfl⟩
  have hb1 : Below w.heap.size w W1 := by rw [← hW1]; exact bl_alloc (bl_refl w) _
  have hk1 : Blk W1 w.heap.size e.cells 40 := by rw [← hW1]; exact Blk.new w _ _
  have HLG := Lib.hid (h.below hb1); have HOK := Lib.hid ho; have HW1 := Lib.hid hW1; have HB1 := Lib.hid hb1; have HK1 := Lib.hid hk1; have HB := Lib.hid (bl_step hb1 hb)
  have c0 := (h.blk.below hb1).cell 0
  unfold Ev.val
  unfold Ev.cells at *
  have k5 := hk1.cell 5; have k4 := hk1.cell 4; have k6 := hk1.cell 6
  clear h ho hW1 hb1 hk1 hb
  obtain ⟨A, c, rfl, hA, -, -⟩ := HLG.out.dl.read
  have hfd := dlf_c (A := A) (c := c) HDO.out (by have := HOK.out.max; omega) w.heap.size e.id W1 hA (HK1.out.cell 1)
  have c1 := HLG.out.blk.cell 1
  have HFD := Lib.hid hfd; have HA := Lib.hid hA
  have hmx := HOK.out.max
  have HT : Hid (dealF l e by_ (l.deals.find? (·.id.toList == e.id.toList)) = dealF l e by_ (l.deals.find? (·.id.toList == e.id.toList))) := rfl
  generalize hq : dealF l e by_ (l.deals.find? (·.id.toList == e.id.toList)) = q at *
  have HQ0 := Lib.hid hq
  clear hfd hA k5 k4 k6 hq HT
  unfold StepPost
  go_enter Tryz.func67, Tryz.ntmps67
  go_upto_region 1 with fail
  rw [HW1.out]
  go_wp2_with fail
  refine (HFD.out).mono ?_
  intro en w2 hr; obtain ⟨r, rfl, hr0, hr1, hr2, hb2⟩ := hr
  have HR1 := Lib.hid hr1; have HR2 := Lib.hid hr2
  clear hr1 hr2
  by_cases hr : r < 0
  · have HQ : Hid (q = (l, 3)) := by
      show _ = _
      rw [← HQ0.out, find_no (fun i hi => by have := anyTo_no (HR1.out hr) i hi; rwa [isDl_at hi] at this)]
      rfl
    go_wp2_with fail
    go_ret
    rw [HQ.out]
    exact StepPost.bad (by decide) (bl_step hb2 HB.out)
  · obtain ⟨j, hj, rfl, hpj, hnj⟩ := HR2.out (by omega)
    have hd : l.deals[j]? = some l.deals[j] := List.getElem?_eq_getElem hj
    have hdo := HOK.out.deals _ (List.getElem_mem hj)
    have HQ1 : Hid (q = waitF l e by_ l.deals[j] ((l.deals[j].term.cash l.deals[j].id l.deals[j].day l.w).1.waits.find? (fun w => w.choice && w.label.toList == e.label.toList))) := by
      show _ = _
      rw [← HQ0.out, find_at hj (by rw [← isDl_at hj]; exact hpj) (fun i hi => by rw [← isDl_at (by omega)]; exact hnj i hi)]
      rfl
    clear HQ0 HR1 HR2 hpj hnj
    generalize l.deals[j] = d at *
    obtain ⟨hd1, hd2, hd3, hd4⟩ := hdo
    obtain ⟨ad, rfl⟩ := rows_ad Dl.row_length (by omega) HA.out hd
    have hrow := (rows_rd Dl.row_length HA.out hd).below hb2
    have e1 := d.term.cells_ hd1; have e2 := d.term.one_ hd1
    have c12 := (HLG.out.blk.below hb2).cell 1
    have HROW := Lib.hid hrow; have HB2 := Lib.hid hb2
    have hr0' : decide ((j : Int) < 0) = false := by simp
    have hjl : (j : Int) < (l.deals.length : Int) := by omega
    clear hrow hd hb2 c1 c0 hr hr0
    go_upto_region 5 with (refine wpList_load_rd rfl 133 _ rfl (ad.add (j * 3)) rfl [.string d.id, .int .i64 d.day, d.term.val] _ HROW.out Tryz.underlying133 rfl (by kernel_rfl) ?_; simp only [Act.put, List.setIfInBounds_toArray, List.set_cons_zero, List.set_cons_succ])
    obtain ⟨W3, hW3⟩ : ∃ W3, w2.alloc (.cells #[.string d.id, .int .i64 d.day, d.term.val] 133) = W3 := ⟨_, rfl⟩
    have hb3 : Below w2.heap.size w2 W3 := by rw [← hW3]; exact bl_alloc (bl_refl _) _
    have hk3 : Blk W3 w2.heap.size #[.string d.id, .int .i64 d.day, d.term.val] 133 := by rw [← hW3]; exact Blk.new _ _ _
    rw [hW3]
    have HL3 := Lib.hid (HLG.out.below (bl_step hb3 HB2.out)); have HK3 := Lib.hid (HK1.out.below (bl_step hb3 HB2.out)); have HB3 := Lib.hid (bl_step hb3 (bl_step HB2.out HB.out)); have HD3 := Lib.hid hk3
    have HCA := fun (W : World) (D : Wd) (hD : D.ok2) (hW : WdAt w0 W bw g1 g2 D) => cash_calls w0 bw g1 g2 D d.id (by omega) hD d.term hd1 (by have := hd2.meas; omega) d.day W hW
    unfold CashPost at HCA
    have HCASH := Lib.hid HCA
    clear hW3 hb3 hk3 c12 HCA
    refine wp_region_noPanic ?_
    refine wp_region_held_drew (S := fun w' => w'.cell? ⟨b, 2, none⟩ = some (.pointer (some ⟨bw, 0, none⟩)) ∧ w'.cell? ⟨w2.heap.size, 0, none⟩ = some (.string d.id) ∧ w'.cell? ⟨w2.heap.size, 1, none⟩ = some (.int .i64 d.day) ∧ w'.cell? ⟨w2.heap.size, 2, none⟩ = some d.term.val) (by kernel_rfl) ⟨(HL3.out.blk.below (bl_refl _)).cell 2, (HD3.out.below (bl_refl _)).cell 0, (HD3.out.below (bl_refl _)).cell 1, (HD3.out.below (bl_refl _)).cell 2⟩ (fun hHeld => ?_)
    refine wpAnyH_world (fun W => Below W3.heap.size W3 W) (bl_drew (bl_refl _)) (fun W5 hb5 => ?_)
    refine wpAnyH_lst #[false, false, false, false, false, false, false, false, false, false, false, false, false, false, false, false, false, false] (by rfl) ?_
    clear hHeld
    refine wpAnyH_named (fun A0 hA0 => ?_)
    have HA0 := Lib.hid hA0
    refine sp_in A0 [33, 34, 35, 36, 37, 38, 39, 40, 41, 42, 43, 32, 44, 45, 46, 9, 10, 11] 106 [(0, .pointer (some ⟨b, 0, none⟩)), (8, .pointer (some ⟨w2.heap.size, 0, none⟩))] (by rw [hA0]; rfl) ⟨(HL3.out.blk.below hb5).cell 2, (HD3.out.below hb5).cell 0, (HD3.out.below hb5).cell 1, (HD3.out.below hb5).cell 2⟩ (by rw [hA0]; exact ⟨rfl, rfl, trivial⟩) ?_
    clear hA0
    refine st 0 [8] rfl ?_
    refine st 2 [8] rfl ?_
    refine st 4 [8] rfl ?_
    refine st 6 [0] rfl ?_
    refine st 1 [33] rfl ?_
    refine st 3 [35] rfl ?_
    refine st 5 [37] rfl ?_
    refine st 7 [39] rfl ?_
    refine st 8 [40] rfl ?_
    refine st 9 [41] rfl ?_
    refine sr 10 (sc 10 [34, 36, 38, 42] rfl (HCASH.out W5 l.w HOK.out.w (HL3.out.wd.below hb5)) ?_)
    rintro en W6 ⟨vf6, vw6, rfl, hf6, hw6, hb6⟩
    refine ⟨_, rfl, ⟨(HL3.out.blk.below (bl_step hb6 hb5)).cell 2, (HD3.out.below (bl_step hb6 hb5)).cell 0, (HD3.out.below (bl_step hb6 hb5)).cell 1, (HD3.out.below (bl_step hb6 hb5)).cell 2⟩, ?_⟩
    refine st 11 [43] rfl ?_
    refine st 12 [32] rfl ?_
    refine st 13 [32] rfl ?_
    refine st 14 [32] rfl ?_
    refine st 15 [44] rfl ?_
    refine st 16 [45] rfl ?_
    refine st 17 [46] rfl ?_
    refine sp_done (fun A hO hN hS => NoPanic.normal ?_)
    obtain ⟨fo, hfo⟩ := hO.lit HA0.out
    have g9 := hN.get 9 rfl
    have g10 := hN.get 10 rfl
    have g11 := hN.get 11 rfl
    clear hO hN
    dsimp only [putL, List.set_cons_zero, List.set_cons_succ] at hfo
    subst hfo
    have g9 : fo 9 = vf6 := g9
    have g10 : fo 10 = vw6 := g10
    have g11 : fo 11 = .int .i64 (d.term.cash d.id d.day l.w).2 := g11
    have hyo := (cash_ok HOK.out.w d.id d.term d.day).wt
    generalize (d.term.cash d.id d.day l.w) = y at *
    obtain ⟨A7, c7, rfl, hr7, hA7⟩ := Own.addr hw6
    have hb36 := bl_step hb6 hb5
    have HL6 := Lib.hid (HL3.out.below hb36); have HK6 := Lib.hid (HK3.out.below hb36); have HD6 := Lib.hid (HD3.out.below hb36); have HB6 := Lib.hid (bl_step hb36 HB3.out)
    have hfw := wtfind _ hcall_wtc (.pointer (some ⟨w.heap.size, 0, none⟩)) A7 y.1.waits.length c7 y.1.waits rfl (isCh y.1.waits e.label) W6 hr7 (by omega) (fun j x hx W hb => by
      have h := wtch_calls x w.heap.size e.label W (cell_below hb (HK6.out.cell 3))
      unfold isCh
      rw [hx]
      exact h)
    have HFW := Lib.hid hfw; have HR7 := Lib.hid hr7
    clear hfw hr7 hw6 hf6 hb5 hb6 hS hb36
    simp only [g9, g10, g11]
    go_wp2_with fail
    refine (HFW.out).mono ?_
    intro en w8 hr; obtain ⟨r, rfl, hs0, hs1, hs2, hb8⟩ := hr
    have HR1 := Lib.hid hs1; have HR2 := Lib.hid hs2
    clear hs1 hs2 g9 g10 g11
    by_cases hr : r < 0
    · have HQ : Hid (q = (l, 3)) := by
        show _ = _
        rw [HQ1.out, find_no (fun i hi => by have := anyTo_no (HR1.out hr) i hi; rwa [isCh_at hi] at this)]
        rfl
      have HB8 := Lib.hid (bl_step hb8 HB6.out)
      clear hb8
      go_wp2_with fail
      go_ret
      rw [HQ.out]
      exact StepPost.bad (by decide) HB8.out
    · obtain ⟨k, hk, rfl, hpk, hnk⟩ := HR2.out (by omega)
      have hx : y.1.waits[k]? = some y.1.waits[k] := List.getElem?_eq_getElem hk
      have HQ2 : Hid (q = waitF l e by_ d (some y.1.waits[k])) := by
        show _ = _
        rw [HQ1.out, find_at hk (by rw [← isCh_at hk]; exact hpk) (fun i hi => by rw [← isCh_at (by omega)]; exact hnk i hi)]
      clear HQ1 HR1 HR2 hpk hnk
      generalize y.1.waits[k] = wt at *
      obtain ⟨ad7, rfl⟩ := rows_ad Wt.row_length (by omega) HR7.out hx
      obtain ⟨g7, rfl⟩ := hA7 ad7 rfl
      have hrow7 := (rows_rd Wt.row_length HR7.out hx).below hb8
      have x3 : w8.cell? ⟨g7, k * 5 + 3, none⟩ = some (.int .i64 wt.day) := by have := hrow7.ad0 3 (v := .int .i64 wt.day) rfl; rwa [addr_at, addr_at, Nat.zero_add] at this
      have x4 : w8.cell? ⟨g7, k * 5 + 4, none⟩ = some (.int .i64 wt.side) := by have := hrow7.ad0 4 (v := .int .i64 wt.side) rfl; rwa [addr_at, addr_at, Nat.zero_add] at this
      have HL8 := Lib.hid (HL6.out.below hb8); have HK8 := Lib.hid (HK6.out.below hb8); have HD8 := Lib.hid (HD6.out.below hb8); have HB8 := Lib.hid (bl_step hb8 HB6.out)
      have c08 := HL8.out.blk.cell 0
      have hkl : (k : Int) < (y.1.waits.length : Int) := by omega
      have hr0k : decide ((k : Int) < 0) = false := by simp
      clear hb8 hrow7 hx hr hs0
      by_cases h7 : l.day < wt.day
      · have HQ : Hid (q = (l, 7)) := HQ2.out.trans (if_pos h7)
        clear HQ2
        go_wp2_with fail
        go_quiet (fail)
        go_wp2_with fail
        go_ret
        rw [HQ.out]
        exact StepPost.bad (by decide) (bl_drewN HB8.out _)
      · have h7b : wt.day ≤ l.day := by omega
        have HQ3 : Hid (q = if wt.side ≠ by_ then (l, 8) else chooseF l e d (l.w.choose e.id e.label e.value l.day)) := HQ2.out.trans (if_neg h7)
        clear HQ2
        by_cases h8 : wt.side = by_
        · have HQ4 : Hid (q = chooseF l e d (l.w.choose e.id e.label e.value l.day)) := HQ3.out.trans (if_neg (by simp [h8]))
          have h8b : (wt.side != by_) = false := by simp [h8]
          clear HQ3
          go_wp2_with fail
          go_quiet (fail)
          go_wp2_with fail
          obtain ⟨W9, hW9⟩ : ∃ W9, w8.drewN nq = W9 := ⟨_, rfl⟩
          have hb9 : Below w8.heap.size w8 W9 := by rw [← hW9]; exact bl_drewN (bl_refl _) _
          rw [hW9]
          have HL9 := Lib.hid (HL8.out.below hb9); have HK9 := Lib.hid (HK8.out.below hb9); have HD9 := Lib.hid (HD8.out.below hb9); have HB9 := Lib.hid (bl_step hb9 HB8.out)
          have HCH := fun (W : World) (hW : WdAt w0 W bw g1 g2 l.w) => wchoose_calls w0 bw g1 g2 l.w e.id e.label e.value l.day (by unfold maxLen; omega) (by unfold maxLen; omega) (by have := HOK.out.pk; unfold maxLen; omega) W hW
          have HOK2 := Lib.hid (Wd.choose_ok2 HOK.out.w e.id e.label e.value l.day)
          generalize l.w.choose e.id e.label e.value l.day = z at *
          unfold WdPost at HCH
          have HCHO := Lib.hid HCH
          clear hW9 hb9 HCH c08 x3 x4
          clear nq
          refine wp_region_noPanic ?_
          refine wp_region_held_drew (S := fun w' => w'.cell? ⟨b, 2, none⟩ = some (.pointer (some ⟨bw, 0, none⟩)) ∧ w'.cell? ⟨b, 0, none⟩ = some (.int .i64 l.day) ∧ w'.cell? ⟨w.heap.size, 1, none⟩ = some (.string e.id) ∧ w'.cell? ⟨w.heap.size, 3, none⟩ = some (.string e.label) ∧ w'.cell? ⟨w.heap.size, 6, none⟩ = some (.int .i64 e.value)) (by kernel_rfl) ⟨(HL9.out.blk.below (bl_refl _)).cell 2, (HL9.out.blk.below (bl_refl _)).cell 0, (HK9.out.below (bl_refl _)).cell 1, (HK9.out.below (bl_refl _)).cell 3, (HK9.out.below (bl_refl _)).cell 6⟩ (fun hHeld => ?_)
          refine wpAnyH_world (fun W => Below W9.heap.size W9 W) (bl_drew (bl_refl _)) (fun W10 hb10 => ?_)
          refine wpAnyH_lst #[false, false, false, false, false, false, false, false, false, false, false, false, false, false, false, false] (by rfl) ?_
          clear hHeld
          refine wpAnyH_named (fun A0 hA0 => ?_)
          have HA0 := Lib.hid hA0
          refine sp_in A0 [72, 73, 74, 75, 76, 77, 78, 79, 80, 81, 82, 83, 84, 85, 86, 13] 106 [(0, .pointer (some ⟨b, 0, none⟩)), (4, .pointer (some ⟨w.heap.size, 0, none⟩))] (by rw [hA0]; rfl) ⟨(HL9.out.blk.below hb10).cell 2, (HL9.out.blk.below hb10).cell 0, (HK9.out.below hb10).cell 1, (HK9.out.below hb10).cell 3, (HK9.out.below hb10).cell 6⟩ (by rw [hA0]; exact ⟨rfl, rfl, trivial⟩) ?_
          clear hA0
          refine st 0 [0] rfl ?_
          refine st 4 [4] rfl ?_
          refine st 6 [4] rfl ?_
          refine st 8 [4] rfl ?_
          refine st 10 [0] rfl ?_
          refine st 1 [72] rfl ?_
          refine st 5 [76] rfl ?_
          refine st 7 [78] rfl ?_
          refine st 9 [80] rfl ?_
          refine st 11 [82] rfl ?_
          refine st 2 [73] rfl ?_
          refine st 12 [83] rfl ?_
          refine st 3 [74] rfl ?_
          refine st 13 [84] rfl ?_
          refine sr 14 (sc 14 [75, 77, 79, 81, 85] rfl (HCHO.out W10 (HL9.out.wd.below hb10)) ?_)
          rintro en W11 ⟨rfl, hw11, hg11⟩
          have hL10 := HL9.out.below hb10
          have hne : ∀ (g : Nat) (cs : Array Value) (t : TypeId), Blk W10 g cs t → some g2 ≠ some g := fun g cs t hb e => by injection e with e; exact MapAt.no_blk hL10.wd.pk hb e.symm
          have hK11 := (HK9.out.below hb10).grown hg11 (hne _ _ _ (HK9.out.below hb10))
          have hD11 := (HD9.out.below hb10).grown hg11 (hne _ _ _ (HD9.out.below hb10))
          have hL11 := hL10.setPick hg11 hw11
          refine ⟨_, rfl, ⟨hL11.blk.cell 2, hL11.blk.cell 0, hK11.cell 1, hK11.cell 3, hK11.cell 6⟩, ?_⟩
          refine st 15 [86] rfl ?_
          refine sp_done (fun A hO hN hS => NoPanic.normal ?_)
          obtain ⟨fo, hfo⟩ := hO.lit HA0.out
          have g13 := hN.get 13 rfl
          clear hO hN
          dsimp only [putL, List.set_cons_zero, List.set_cons_succ] at hfo
          subst hfo
          have g13 : fo 13 = .int .i64 z.2 := g13
          have hB11 := bl_grown (bl_step hb10 HB9.out) hg11 hL10.wd.n2
          have HB11 := Lib.hid hB11; have HL11 := Lib.hid hL11; have HD11 := Lib.hid hD11
          clear hb10 hS hw11 hg11 hL10 hK11 hD11 hL11 hB11 hne
          simp only [g13]
          clear g13
          by_cases hz : z.2 = 0
          · have HQ : Hid (q = (⟨l.day, l.deals, z.1, l.paid⟩, (d.term.cash d.id d.day z.1).2)) := HQ4.out.trans (if_neg (by simp [hz]))
            have hzb : (z.2 != 0) = false := by simp [hz]
            clear HQ4 hz
            go_upto_region 16 with fail
            refine wp_region_noPanic ?_
            refine wp_region_held_drew (S := fun w' => w'.cell? ⟨b, 2, none⟩ = some (.pointer (some ⟨bw, 0, none⟩)) ∧ w'.cell? ⟨w2.heap.size, 0, none⟩ = some (.string d.id) ∧ w'.cell? ⟨w2.heap.size, 1, none⟩ = some (.int .i64 d.day) ∧ w'.cell? ⟨w2.heap.size, 2, none⟩ = some d.term.val) (by kernel_rfl) ⟨(HL11.out.blk.below (bl_refl _)).cell 2, (HD11.out.below (bl_refl _)).cell 0, (HD11.out.below (bl_refl _)).cell 1, (HD11.out.below (bl_refl _)).cell 2⟩ (fun hHeld => ?_)
            refine wpAnyH_world (fun W => Below W11.heap.size W11 W) (bl_drew (bl_refl _)) (fun W12 hb12 => ?_)
            refine wpAnyH_lst #[false, false, false, false, false, false, false, false, false, false, false, false, false, false, false, false, false, false] (by rfl) ?_
            clear hHeld
            refine wpAnyH_named (fun A0 hA0 => ?_)
            have HA0 := Lib.hid hA0
            refine sp_in A0 [91, 92, 93, 94, 95, 96, 97, 98, 99, 100, 101, 90, 102, 103, 104, 14, 15, 16] 106 [(0, .pointer (some ⟨b, 0, none⟩)), (8, .pointer (some ⟨w2.heap.size, 0, none⟩))] (by rw [hA0]; rfl) ⟨(HL11.out.blk.below hb12).cell 2, (HD11.out.below hb12).cell 0, (HD11.out.below hb12).cell 1, (HD11.out.below hb12).cell 2⟩ (by rw [hA0]; exact ⟨rfl, rfl, trivial⟩) ?_
            clear hA0
            refine st 0 [8] rfl ?_
            refine st 2 [8] rfl ?_
            refine st 4 [8] rfl ?_
            refine st 6 [0] rfl ?_
            refine st 1 [91] rfl ?_
            refine st 3 [93] rfl ?_
            refine st 5 [95] rfl ?_
            refine st 7 [97] rfl ?_
            refine st 8 [98] rfl ?_
            refine st 9 [99] rfl ?_
            refine sr 10 (sc 10 [92, 94, 96, 100] rfl (HCASH.out W12 z.1 HOK2.out (HL11.out.wd.below hb12)) ?_)
            rintro en W13 ⟨vf13, vw13, rfl, hf13, hw13, hb13⟩
            refine ⟨_, rfl, ⟨(HL11.out.blk.below (bl_step hb13 hb12)).cell 2, (HD11.out.below (bl_step hb13 hb12)).cell 0, (HD11.out.below (bl_step hb13 hb12)).cell 1, (HD11.out.below (bl_step hb13 hb12)).cell 2⟩, ?_⟩
            refine st 11 [101] rfl ?_
            refine st 12 [90] rfl ?_
            refine st 13 [90] rfl ?_
            refine st 14 [90] rfl ?_
            refine st 15 [102] rfl ?_
            refine st 16 [103] rfl ?_
            refine st 17 [104] rfl ?_
            refine sp_done (fun A hO hN hS => NoPanic.normal ?_)
            obtain ⟨fo, hfo⟩ := hO.lit HA0.out
            have g16 := hN.get 16 rfl
            clear hO hN
            dsimp only [putL, List.set_cons_zero, List.set_cons_succ] at hfo
            subst hfo
            have g16 : fo 16 = .int .i64 (d.term.cash d.id d.day z.1).2 := g16
            have HB13 := Lib.hid (bl_step hb13 hb12)
            clear hb13 hb12 hS hf13 hw13
            simp only [g16]
            go_wp2_with fail
            go_ret
            rw [HQ.out]
            exact ⟨rfl, fun _ => ⟨_, _, _, _, _, HL11.out.below HB13.out⟩, bl_step HB13.out HB11.out⟩
          · have HQ : Hid (q = (l, z.2)) := HQ4.out.trans (if_pos hz)
            have hzb : (z.2 != 0) = true := by simp [hz]
            have HZ := Lib.hid hz
            clear HQ4 hz
            go_wp2_with fail
            go_ret
            rw [HQ.out]
            exact StepPost.bad HZ.out HB11.out
        · have HQ : Hid (q = (l, 8)) := HQ3.out.trans (if_pos h8)
          have h8b : (wt.side != by_) = true := by simp [h8]
          clear HQ3
          go_wp2_with fail
          go_quiet (fail)
          go_wp2_with fail
          go_ret
          rw [HQ.out]
          exact StepPost.bad (by decide) (bl_drewN HB8.out _)
end Go.Proofs.YtnekcijganhknaaGreatDoor
