/- ChainSums: the walk. -/
import Derived.Test.YtapbkomicihkkaaGreatDoorLawAG
import Derived.Test.YtapbkomicihkkaaGreatDoorSomeG
import Derived.Test.YtapbkomicihkkaaGreatDoorBoolsArg
import Derived.Test.YtapbkomicihkkaaGreatDoorSpar2
namespace Go.Proofs.YtapbkomicihkkaaGreatDoor
open Go.RowKit
set_option linter.unusedVariables false
set_option linter.unusedSimpArgs false

theorem run_bd_En2 (k d v : Int) (x1 x2 x3 x4 : ByteArray) (x7 : Value) (b : Bool) (h7 : IsI x7) (W : World) : (bdN 59 #[(0, .agg #[.int .i64 k, .string x1, .string x2, .string x3, .string x4, .int .i64 d, .int .i64 v, x7]), (1, .bool b)]).run Tryz.prog W = .ok (.agg #[.int .i64 k, .string x1, .string x2, .string x3, .string x4, .int .i64 d, .int .i64 v, x7, .bool b]) W := by
  rcases h7 with rfl | ⟨_, _, rfl⟩ <;> kernel_rfl
theorem Ch.add_good {c : Ch} (h : c.es.length < 64) {x : En} (hz : x.ev.check = 0) : c.add x = (⟨c.key, c.es ++ [x], c.hs ++ [x.next c.key c.head]⟩, 0) := by
  unfold Ch.add
  rw [if_neg (by omega), if_pos hz]
theorem Ch.add_bad {c : Ch} (h : c.es.length < 64) {x : En} (hz : x.ev.check ≠ 0) : c.add x = (c, x.ev.check) := by
  unfold Ch.add
  rw [if_neg (by omega), if_neg hz]
theorem Ch.snoc_head {c : Ch} (ho : c.ok) (x : En) (z : Int) : (Ch.mk c.key (c.es ++ [x]) (c.hs ++ [z])).head = z := by
  unfold Ch.head
  have := ho.len
  simp only [List.length_append, List.length_singleton]
  rw [List.getD_eq_getElem?_getD, List.getElem?_append_right (by omega), this, Nat.sub_self]
  rfl
theorem size_ev8 : (Tryz.prog.info? 30).map (·.size) = some 8 := by kernel_rfl
theorem Ch.snoc_old {c : Ch} (ho : c.ok) (z : Int) (p : Nat) (hp : p ≤ c.es.length) : (c.hs ++ [z]).getD p 0 = c.hs.getD p 0 := by
  have := ho.len
  rw [List.getD_eq_getElem?_getD, List.getElem?_append_left (by omega), ← List.getD_eq_getElem?_getD]
theorem Ch.add_facts {c : Ch} (ho : c.ok) (h : c.es.length < 64) (y : En) (hy : y.ev.small) (hz : y.ev.check = 0) : ∃ d : Ch, c.add y = (d, 0) ∧ d.ok ∧ d.key = c.key ∧ d.es.length = c.es.length + 1 ∧ d.hs.getD 0 0 = c.hs.getD 0 0 ∧ d.head = sipSum c.key (bytesI c.head ++ y.pack) ∧ d.at_ c.es.length = (c.head, true) := by
  have he := Ch.add_good h hz
  have hok := Ch.add_ok ho y hy
  rw [he] at hok
  refine ⟨_, he, hok, rfl, by simp, Ch.snoc_old ho _ 0 (Nat.zero_le _), ?_, ?_⟩
  · rw [Ch.snoc_head ho]
    unfold En.next
    rw [if_pos hz]
  · unfold Ch.at_
    rw [if_pos ⟨by omega, by simp; omega⟩, Int.toNat_natCast, Ch.snoc_old ho _ _ (Nat.le_refl _)]
    rfl
set_option maxRecDepth 100000 in
set_option maxHeartbeats 8000000 in
theorem chainSums_calls (A : Option Addr) (c l : Nat) (k : List UInt8) (B : Option Addr) (lc cc : Nat) (ms : List Cv) (E : Option Addr) (le ce : Nat) (bs : List Bool) (w : World) (hl : k.length = l) (hr : Rd w A (byts k)) (hml : ms.length = lc) (hmn : lc ≤ 140737488355328) (hms : ∀ m ∈ ms, m.c.ok ∧ PlanAt w m.vN m.vW) (hmr : Rd w B (rowsC ms)) (hbl : bs.length = le) (hbn : le ≤ 140737488355328) (hbr : Rd w E (bs.map .bool)) (ht : TabOk w) :
    Calls Tryz.prog 5 #[.slice A l c, .slice B lc cc, .slice E le ce] w fun e w' => e = .returned (.bool true) ∧ Below w.heap.size w w' := by
  have HR := Lib.hid hr
  have HL := Lib.hid hl
  have HT := Lib.hid ht
  have HML := Lib.hid hml; have HMS := Lib.hid hms; have HMR := Lib.hid hmr; have HBL := Lib.hid hbl; have HBR := Lib.hid hbr
  clear hr hl ht hml hms hmr hbl hbr
  go_enter Tryz.func5, Tryz.ntmps5
  obtain ⟨X, hX⟩ : ∃ X, byts (k.take 16) = X := ⟨_, rfl⟩
  have HX := Lib.hid hX
  clear hX
  go_wp2_with (refine wpList_copy_splice (o := ⟨some 28, _, _, _, _, _⟩) rfl (.tmp 26) (.tmp 27) 51 51 rfl 5 Tryz.underlying51 (by kernel_rfl) _ A _ _ l c rfl rfl w.heap.size 0 zeros16 55 (Blk.new w zeros16.toArray 55) X ?c1 ?c2 ?c3 ?c4 w.heap.size w (bl_alloc (bl_refl w) _) (Nat.le_refl _) ?c5)
  case c1 => rw [← HX.out, byts_length, List.length_take, HL.out]; exact Nat.min_comm _ _
  case c2 =>
    intro hp
    have hrd : Rd (w.alloc (.cells zeros16.toArray 55)) A X := by
      rw [← HX.out, byts_take]
      exact (HR.out.below (bl_alloc (bl_refl w) _)).take 16
    obtain ⟨y, hy⟩ : ∃ y, X[0]? = some y := ⟨X[0], by simp [hp]⟩
    obtain ⟨ad, e, _⟩ := hrd 0 y hy
    refine ⟨ad, e, ?_⟩
    intro j v hv
    obtain ⟨ad', e', hc⟩ := hrd j v hv
    rw [e] at e'; cases e'
    exact hc
  case c3 => rw [← HX.out, byts_length, List.length_take]; simp only [zeros16, Nat.zero_add, List.length_cons, List.length_nil]; exact Nat.min_le_left _ _
  case c4 => rw [← HX.out]; exact byts_one _
  intro w2 HG hB
  have hK : Blk w2 w.heap.size (byts (keyOf k)).toArray 55 := by
    have := HG.out
    rw [← HX.out, key_splice] at this
    exact this
  clear HG HX HR HL
  have hkl := keyOf_length k
  generalize keyOf k = key at hkl hK
  have hi : (Tryz.prog.info? 55).map (·.size) = some (byts key).toArray.size := by rw [List.size_toArray, byts_length, hkl]; kernel_rfl
  have hnw := cnew_calls w key hkl w2 hB.size
  unfold RetCh at hnw
  have HI := Lib.hid hi; have HK := Lib.hid hK; have HKL := Lib.hid hkl; have HNW := Lib.hid hnw; have HB := Lib.hid hB
  clear hi hK hkl hnw hB
  go_upto_region 3 with fail
  go_wp2_with (first | (refine wpList_load_row rfl 55 _ rfl w.heap.size rfl 55 _ (0, 0) _ HK.out Tryz.underlying55 rfl HI.out ?_) | (go_at_call 19; refine HNW.out.mono ?_; rintro en w3 ⟨g, rfl, hC, hg, hb⟩))
  have hkg : w.heap.size ≠ g := by have := HK.out.lt; omega
  have hk3 := HK.out.below hb
  have HC := Lib.hid hC; have HBB := Lib.hid (bl_step hb HB.out); have HG := Lib.hid (Nat.le_trans HB.out.size hg); have HKG := Lib.hid hkg; have HK3 := Lib.hid hk3
  clear hC hb hg HNW HK HI HB hk3 hkg
  go_loopw [9] (fun i wr => ∃ (j : Nat) (c : Ch), c.ok ∧ c.es.length ≤ j ∧ c.key = key ∧ c.hs.getD 0 0 = 0 ∧ j ≤ 12 ∧ j ≤ lc ∧ i = .int .i64 j ∧ ChAt w wr g c ∧ Blk wr w.heap.size (byts key).toArray 55 ∧ Below w.heap.size w wr) (fun i _ => 12 - (intOf i).toNat)
  case atStart => exact ⟨0, ⟨key, [], [0]⟩, Ch.new_ok key HKL.out, Nat.le_refl _, rfl, rfl, by omega, by omega, rfl, HC.out, HK3.out, HBB.out⟩
  case round =>
    clear HC HK3 HBB
    obtain ⟨j, c, hco, hcl, hck, hc0, hj, hjl, rfl, hC, hK, hB⟩ := hrel
    go_upto_region 7 with fail
    go_cut [40] (fun v wx => v = .bool (decide (j < lc ∧ j < 12)) ∧ wx = wr)
    case first =>
      by_cases g1 : j < lc
      · by_cases g2 : j < 12
        · go_wp2_with fail
          go_meet
          exact ⟨by (simp [g1, g2] <;> omega), rfl⟩
        · go_wp2_with fail
          go_meet
          exact ⟨by (simp [g1, g2] <;> omega), rfl⟩
      · go_wp2_with fail
        go_meet
        exact ⟨by simp [g1], rfl⟩
    obtain ⟨rfl, rfl⟩ := hcut
    rename World => wr
    by_cases hlt : j < lc ∧ j < 12
    · rw [show decide (j < lc ∧ j < 12) = true from decide_eq_true hlt]
      obtain ⟨hl1, hl2⟩ := hlt
      obtain ⟨⟨cm, vN, vW⟩, hcv⟩ : ∃ y, ms[j]? = some y := ⟨_, List.getElem?_eq_getElem (by rw [HML.out]; exact hl1)⟩
      obtain ⟨hc, hp⟩ := HMS.out _ (List.mem_of_getElem? hcv)
      have hpw := hp.below hB
      have hmr := HMR.out.below hB
      obtain ⟨ad, rfl, -⟩ := hmr (j * 8 + 0) _ ((rowsC_get ms j 0 _ hcv (by omega)).trans rfl)
      have hrow := hmr.row hcv
      have hsm := some_calls wr cm vN vW hc hpw 99 0 0 ⟨#[]⟩ (by unfold IsInt64; omega) (by unfold IsInt64; omega) (by decide) (by decide)
      unfold RetSome at hsm
      unfold Ev.val at hsm
      unfold Cm.val at hsm
      unfold Cv.row at hrow
      have HSM := Lib.hid hsm; have HROW := Lib.hid hrow; have HC := Lib.hid hC; have HK := Lib.hid hK; have HB := Lib.hid hB; have HCO := Lib.hid hco; have HCK := Lib.hid hck; have HC0 := Lib.hid hc0
      clear hsm hrow hC hK hB hco hck hc0 hcv hc hp hpw hmr
      go_wp2_with (refine wpList_load_rd rfl 27 _ rfl _ rfl _ _ HROW.out Tryz.underlying27 rfl info_cmd ?_)
      refine HSM.out.mono ?_
      rintro en w5 ⟨x, vx, rfl, hE, hF, hb⟩
      obtain ⟨c0, c1, c2, c3, rfl, hTr⟩ := hE
      obtain ⟨A9, c9, cs9, hag, -, -⟩ := hTr.open_
      have hcc : c0 = .int .i64 x.term.tr.kind ∧ c1 = .string x.term.tr.s ∧ c2 = .int .i64 x.term.tr.n ∧ c3 = .slice A9 x.term.tr.ks.length c9 := by injection hag with hag; simp at hag; exact hag
      obtain ⟨h0, h1, h2, h3⟩ := hcc
      subst h0 h1 h2 h3
      clear hag hTr HSM HROW
      have hok := hF.term.ok
      have hti := x.term.isI hok
      have hte := x.term.one_ hok
      have hcs := x.term.cells_ hok
      have HF := Lib.hid hF; have HB5 := Lib.hid hb
      clear hF hb
      go_upto_region 10 with fail
      have hkx := (Blk.new w5 #[.int .i64 x.kind, .string x.id, .string x.name, .string x.label, .string x.cur, .int .i64 x.day, .int .i64 x.value, x.term.val] 30).below (bl_alloc (bl_refl _) (.cells #[.int .i64 x.kind, .string x.id, .string x.name, .string x.label, .string x.cur, .int .i64 x.day, .int .i64 x.value, .int .i64 x.term.tr.kind, .string x.term.tr.s, .int .i64 x.term.tr.n, .slice A9 x.term.tr.ks.length c9] 35))
      have hb6 := bl_alloc (bl_alloc HB5.out (.cells #[.int .i64 x.kind, .string x.id, .string x.name, .string x.label, .string x.cur, .int .i64 x.day, .int .i64 x.value, x.term.val] 30)) (.cells #[.int .i64 x.kind, .string x.id, .string x.name, .string x.label, .string x.cur, .int .i64 x.day, .int .i64 x.value, .int .i64 x.term.tr.kind, .string x.term.tr.s, .int .i64 x.term.tr.n, .slice A9 x.term.tr.ks.length c9] 35)
      obtain ⟨W6, hW6⟩ : ∃ W6, (w5.alloc (.cells #[.int .i64 x.kind, .string x.id, .string x.name, .string x.label, .string x.cur, .int .i64 x.day, .int .i64 x.value, x.term.val] 30)).alloc (.cells #[.int .i64 x.kind, .string x.id, .string x.name, .string x.label, .string x.cur, .int .i64 x.day, .int .i64 x.value, .int .i64 x.term.tr.kind, .string x.term.tr.s, .int .i64 x.term.tr.n, .slice A9 x.term.tr.ks.length c9] 35) = W6 := ⟨_, rfl⟩
      rw [hW6] at hkx hb6 ⊢
      obtain ⟨q, hq⟩ : ∃ q, w5.heap.size = q := ⟨_, rfl⟩
      rw [hq] at hkx ⊢
      have hC6 := HC.out.below hb6
      have hK6 := HK.out.below hb6
      have hB6 := bl_step hb6 HB.out
      obtain ⟨b, hbd⟩ : ∃ b, bs.getD j false = b := ⟨_, rfl⟩
      have hbe := fun W => run_bd_En2 x.kind x.day x.value x.id x.name x.label x.cur x.term.val b hti W
      have HBE := Lib.hid hbe; have HC6 := Lib.hid hC6; have HK6 := Lib.hid hK6; have HB6 := Lib.hid hB6; have HKX := Lib.hid hkx; have HBD := Lib.hid hbd
      clear hbe hC6 hK6 hB6 hW6 hkx hb6 HC HK HB HB5 hq hbd
      go_cut [13] (fun v wx => ∃ r, v = .pointer (some ⟨r, 0, none⟩) ∧ Blk wx r (En.mk x b).cells 59 ∧ Below W6.heap.size W6 wx)
      case first =>
        have hj0 : (0 : Int) ≤ (j : Int) := by omega
        by_cases hg : j < le
        · have hbj : bs[j]? = some b := by rw [List.getElem?_eq_getElem (by rw [HBL.out]; exact hg), ← HBD.out, List.getD_eq_getElem?_getD, List.getElem?_eq_getElem (by rw [HBL.out]; exact hg)]; rfl
          obtain ⟨ae, rfl, hcell⟩ := (HBR.out.below HB6.out) j _ (bools_get bs j b hbj)
          have hj1 : (j : Int) < (le : Int) := by omega
          refine wp_region_noPanic ?_
          refine wp_region_held_drew (S := fun w' => w'.rangeAt q 0 [.int .i64 x.kind, .string x.id, .string x.name, .string x.label, .string x.cur, .int .i64 x.day, .int .i64 x.value, x.term.val] ∧ w'.cell? (ae.add j) = some (.bool b)) (by kernel_rfl) ⟨HKX.out.range, hcell⟩ (fun hHeld => ?_)
          refine wpAnyH_world (fun W => Below W6.heap.size W6 W) (bl_drew (bl_refl _)) (fun W2 hb2 => ?_)
          refine wpAnyH_lst #[false, false, false, false, false, false, false, false, false, false, false, false, false, false] (by rfl) ?_
          clear hHeld
          have hHeld : W2.rangeAt q 0 [.int .i64 x.kind, .string x.id, .string x.name, .string x.label, .string x.cur, .int .i64 x.day, .int .i64 x.value, x.term.val] ∧ W2.cell? (ae.add j) = some (.bool b) := ⟨range_below HKX.out.range (hb2), cell_below (hb2) hcell⟩
          refine wpAnyH_named (fun A0 hA0 => ?_)
          have hn0 : Hid (A0.tmps.size = 153) := by show A0.tmps.size = 153; rw [hA0]; rfl
          have hN : Kn A0 [(10, .pointer (some ⟨q, 0, none⟩)), (9, .int .i64 j), (2, .slice (some ae) le ce)] := by rw [hA0]; exact ⟨rfl, rfl, rfl, trivial⟩
          have hO := Off.refl A0 [52, 53, 54, 55, 56, 57, 58, 59, 60, 61, 62, 63, 13]
          have HA0 := Lib.hid hA0
          clear hA0
          refine wpAnyH_take (i := 0) (oi := ⟨some 52, .load 30 (.tmp 10), _, _, _, _⟩) (v := .agg (List.toArray [.int .i64 x.kind, .string x.id, .string x.name, .string x.label, .string x.cur, .int .i64 x.day, .int .i64 x.value, x.term.val])) rfl (by kernel_rfl) (by kernel_rfl) (by kernel_rfl) (fun _ _ _ h => h) (yieldsIf_load_mid (by rfl) _ _ rfl _ _ (hN.ev 10 rfl) [.int .i64 x.kind, .string x.id, .string x.name, .string x.label, .string x.cur, .int .i64 x.day, .int .i64 x.value, x.term.val] _ (fun w h => h.1) Tryz.underlying30 rfl size_ev8) (by assumption) ?_
          (try dsimp only [List.setIfInBounds_toArray, List.set_cons_zero, List.set_cons_succ])
          refine wpAnyH_put hO hn0.out hN (by rfl) (by rfl) (by rfl) (fun A9 hO9 hN9 => ?_)
          (try clear hO hN)
          have hO := hO9
          have hN := hN9
          clear hO9 hN9
          refine wpAnyH_take (i := 1) (oi := ⟨_, _, _, _, _, _⟩) (v := ?_) rfl (by kernel_rfl) (by kernel_rfl) (by kernel_rfl) (fun _ _ _ h => h) (Or.inl ⟨by rfl, ?_⟩) (by assumption) ?_
          rotate_left
          · intro w hSw; (try dsimp only at hSw); go_split_ands; have f1 := hN.get 9 rfl; dsimp only at f1; go_simp; try with_reducible rfl
          (try dsimp only [List.setIfInBounds_toArray, List.set_cons_zero, List.set_cons_succ])
          refine wpAnyH_put hO hn0.out hN (by rfl) (by rfl) (by rfl) (fun A9 hO9 hN9 => ?_)
          (try clear hO hN)
          have hO := hO9
          have hN := hN9
          clear hO9 hN9
          refine wpAnyH_take (i := 2) (oi := ⟨_, _, _, _, _, _⟩) (v := ?_) rfl (by kernel_rfl) (by kernel_rfl) (by kernel_rfl) (fun _ _ _ h => h) (Or.inl ⟨by rfl, ?_⟩) (by assumption) ?_
          rotate_left
          · intro w hSw; (try dsimp only at hSw); go_split_ands; have f1 := hN.get 2 rfl; dsimp only at f1; go_simp; try with_reducible rfl
          (try dsimp only [List.setIfInBounds_toArray, List.set_cons_zero, List.set_cons_succ])
          refine wpAnyH_put hO hn0.out hN (by rfl) (by rfl) (by rfl) (fun A9 hO9 hN9 => ?_)
          (try clear hO hN)
          have hO := hO9
          have hN := hN9
          clear hO9 hN9
          refine wpAnyH_take (i := 3) (oi := ⟨_, _, _, _, _, _⟩) (v := ?_) rfl (by kernel_rfl) (by kernel_rfl) (by kernel_rfl) (fun _ _ _ h => h) (Or.inl ⟨by rfl, ?_⟩) (by assumption) ?_
          rotate_left
          · intro w hSw; (try dsimp only at hSw); go_split_ands; have f1 := hN.get 54 rfl; dsimp only at f1; go_simp; try with_reducible rfl
          (try dsimp only [List.setIfInBounds_toArray, List.set_cons_zero, List.set_cons_succ])
          refine wpAnyH_put hO hn0.out hN (by rfl) (by rfl) (by rfl) (fun A9 hO9 hN9 => ?_)
          (try clear hO hN)
          have hO := hO9
          have hN := hN9
          clear hO9 hN9
          refine wpAnyH_take (i := 4) (oi := ⟨_, _, _, _, _, _⟩) (v := .bool true) rfl (by kernel_rfl) (by kernel_rfl) (by kernel_rfl) (fun _ _ _ h => h) (Or.inl ⟨by rfl, ?_⟩) (by assumption) ?_
          · intro w hSw; (try dsimp only at hSw); go_split_ands; have f1 := hN.get 53 rfl; have f2 := hN.get 55 rfl; dsimp only at f1 f2; go_simp; try with_reducible rfl
          (try dsimp only [List.setIfInBounds_toArray, List.set_cons_zero, List.set_cons_succ])
          refine wpAnyH_put hO hn0.out hN (by rfl) (by rfl) (by rfl) (fun A9 hO9 hN9 => ?_)
          (try clear hO hN)
          have hO := hO9
          have hN := hN9
          clear hO9 hN9
          refine wpAnyH_take (i := 5) (oi := ⟨_, _, _, _, _, _⟩) (v := ?_) rfl (by kernel_rfl) (by kernel_rfl) (by kernel_rfl) (fun _ _ _ h => h) (Or.inl ⟨by rfl, ?_⟩) (by assumption) ?_
          rotate_left
          · intro w hSw; (try dsimp only at hSw); go_split_ands; have f1 := hN.get 56 rfl; dsimp only at f1; go_simp; try with_reducible rfl
          (try dsimp only [List.setIfInBounds_toArray, List.set_cons_zero, List.set_cons_succ])
          refine wpAnyH_put hO hn0.out hN (by rfl) (by rfl) (by rfl) (fun A9 hO9 hN9 => ?_)
          (try clear hO hN)
          have hO := hO9
          have hN := hN9
          clear hO9 hN9
          refine wpAnyH_take (i := 6) (oi := ⟨_, _, _, _, _, _⟩) (v := ?_) rfl (by kernel_rfl) (by kernel_rfl) (by kernel_rfl) (fun _ _ _ h => h) (Or.inl ⟨wanted_yes (d := 57) hN rfl rfl rfl, ?_⟩) (by assumption) ?_
          rotate_left
          · intro w hSw; (try dsimp only at hSw); go_split_ands; have f1 := hN.get 2 rfl; dsimp only at f1; go_simp; try with_reducible rfl
          (try dsimp only [List.setIfInBounds_toArray, List.set_cons_zero, List.set_cons_succ])
          refine wpAnyH_put hO hn0.out hN (by rfl) (by rfl) (by rfl) (fun A9 hO9 hN9 => ?_)
          (try clear hO hN)
          have hO := hO9
          have hN := hN9
          clear hO9 hN9
          refine wpAnyH_take (i := 7) (oi := ⟨_, _, _, _, _, _⟩) (v := ?_) rfl (by kernel_rfl) (by kernel_rfl) (by kernel_rfl) (fun _ _ _ h => h) (Or.inl ⟨wanted_yes (d := 57) hN rfl rfl rfl, ?_⟩) (by assumption) ?_
          rotate_left
          · intro w hSw; (try dsimp only at hSw); go_split_ands; have f1 := hN.get 9 rfl; dsimp only at f1; go_simp; try with_reducible rfl
          (try dsimp only [List.setIfInBounds_toArray, List.set_cons_zero, List.set_cons_succ])
          refine wpAnyH_put hO hn0.out hN (by rfl) (by rfl) (by rfl) (fun A9 hO9 hN9 => ?_)
          (try clear hO hN)
          have hO := hO9
          have hN := hN9
          clear hO9 hN9
          refine wpAnyH_take (i := 8) (oi := ⟨_, _, _, _, _, _⟩) (v := ?_) rfl (by kernel_rfl) (by kernel_rfl) (by kernel_rfl) (fun _ _ _ h => h) (Or.inl ⟨wanted_yes (d := 57) hN rfl rfl rfl, ?_⟩) (by assumption) ?_
          rotate_left
          · intro w hSw; (try dsimp only at hSw); go_split_ands; have f1 := hN.get 58 rfl; have f2 := hN.get 59 rfl; dsimp only at f1 f2; go_simp; try with_reducible rfl
          (try dsimp only [List.setIfInBounds_toArray, List.set_cons_zero, List.set_cons_succ])
          refine wpAnyH_put hO hn0.out hN (by rfl) (by rfl) (by rfl) (fun A9 hO9 hN9 => ?_)
          (try clear hO hN)
          have hO := hO9
          have hN := hN9
          clear hO9 hN9
          refine wpAnyH_take (i := 9) (oi := ⟨_, _, _, _, _, _⟩) (v := ?_) rfl (by kernel_rfl) (by kernel_rfl) (by kernel_rfl) (fun _ _ _ h => h) (Or.inl ⟨wanted_yes (d := 57) hN rfl rfl rfl, ?_⟩) (by assumption) ?_
          rotate_left
          · intro w hSw; (try dsimp only at hSw); go_split_ands; have f1 := hN.get 60 rfl; dsimp only at f1; go_simp; try with_reducible rfl
          (try dsimp only [List.setIfInBounds_toArray, List.set_cons_zero, List.set_cons_succ])
          refine wpAnyH_put hO hn0.out hN (by rfl) (by rfl) (by rfl) (fun A9 hO9 hN9 => ?_)
          (try clear hO hN)
          have hO := hO9
          have hN := hN9
          clear hO9 hN9
          refine wpAnyH_take (i := 10) (oi := ⟨_, _, _, _, _, _⟩) (v := ?_) rfl (by kernel_rfl) (by kernel_rfl) (by kernel_rfl) (fun _ _ _ h => h) (Or.inl ⟨by rfl, ?_⟩) (by assumption) ?_
          rotate_left
          · intro w hSw; (try dsimp only at hSw); go_split_ands; have f1 := hN.get 57 rfl; have f2 := hN.get 61 rfl; dsimp only at f1 f2; go_simp; try with_reducible rfl
          (try dsimp only [List.setIfInBounds_toArray, List.set_cons_zero, List.set_cons_succ])
          refine wpAnyH_put hO hn0.out hN (by rfl) (by rfl) (by rfl) (fun A9 hO9 hN9 => ?_)
          (try clear hO hN)
          have hO := hO9
          have hN := hN9
          clear hO9 hN9
          have hbe := HBE.out
          refine wpAnyH_take (i := 11) (oi := ⟨_, _, _, _, _, _⟩) (v := .agg #[.int .i64 x.kind, .string x.id, .string x.name, .string x.label, .string x.cur, .int .i64 x.day, .int .i64 x.value, x.term.val, .bool b]) rfl (by kernel_rfl) (by kernel_rfl) (by kernel_rfl) (fun _ _ _ h => h) (Or.inl ⟨by rfl, ?_⟩) (by assumption) ?_
          · intro w hSw; (try dsimp only at hSw); go_split_ands; have f1 := hN.get 52 rfl; have f2 := hN.get 62 rfl; dsimp only at f1 f2; go_simp; try with_reducible rfl
          (try dsimp only [List.setIfInBounds_toArray, List.set_cons_zero, List.set_cons_succ])
          refine wpAnyH_put hO hn0.out hN (by rfl) (by rfl) (by rfl) (fun A9 hO9 hN9 => ?_)
          (try clear hO hN)
          have hO := hO9
          have hN := hN9
          clear hO9 hN9
          clear hbe
          refine wpAnyH_ready (rs := [12]) (by kernel_rfl) (by simp) ?_
          refine AllReadyH.cons rfl (fun K hK => ?_) AllReadyH.nil
          (try go_simp)
          refine hK.out _ _ ⟨range_below HKX.out.range (bl_alloc hb2 _), cell_below (bl_alloc hb2 _) hcell⟩ (fun hHeld2 => ?_)
          clear hK K hHeld
          have hHeld := hHeld2
          clear hHeld2
          (try dsimp only [List.setIfInBounds_toArray, List.set_cons_zero, List.set_cons_succ])
          refine wpAnyH_put hO hn0.out hN (by rfl) (by rfl) (by rfl) (fun A9 hO9 hN9 => ?_)
          (try clear hO hN)
          have hO := hO9
          have hN := hN9
          clear hO9 hN9
          have f1 := hN.get 13 rfl
          have f2 := hN.get 63 rfl
          dsimp only at f1 f2
          refine wpAnyH_ready (rs := [13]) (by kernel_rfl) (by simp) ?_
          refine AllReadyH.cons rfl (fun K hK => ?_) AllReadyH.nil
          (try go_simp)
          refine hK.out _ _ ⟨range_below HKX.out.range (bl_alloc hb2 _), cell_below (bl_alloc hb2 _) hcell⟩ (fun hHeld2 => ?_)
          clear hK K hHeld hHeld2 f2
          (try dsimp only [Act.put_no, List.setIfInBounds_toArray, List.set_cons_zero, List.set_cons_succ])
          refine wpAnyH_done (by kernel_rfl) ?_ _
          refine NoPanic.normal ?_
          obtain ⟨fo, hfo⟩ := hO.lit HA0.out
          have h13 := hN.get 13 rfl
          clear hO
          dsimp only [putL, List.set_cons_zero, List.set_cons_succ] at hfo
          subst hfo
          have h13 : fo 13 = .pointer (some ⟨W2.heap.size, 0, none⟩) := h13
          clear hN
          go_wp2_with fail
          go_meet
          exact ⟨_, rfl, Blk.new _ _ _, bl_alloc hb2 _⟩
        · obtain rfl : b = false := by rw [← HBD.out, List.getD_eq_getElem?_getD, List.getElem?_eq_none (by rw [HBL.out]; omega)]; rfl
          have hj1 : ¬ ((j : Int) < (le : Int)) := by omega
          refine wp_region_noPanic ?_
          refine wp_region_held_drew (S := fun w' => w'.rangeAt q 0 [.int .i64 x.kind, .string x.id, .string x.name, .string x.label, .string x.cur, .int .i64 x.day, .int .i64 x.value, x.term.val]) (by kernel_rfl) HKX.out.range (fun hHeld => ?_)
          refine wpAnyH_world (fun W => Below W6.heap.size W6 W) (bl_drew (bl_refl _)) (fun W2 hb2 => ?_)
          refine wpAnyH_lst #[false, false, false, false, false, false, false, false, false, false, false, false, false, false] (by rfl) ?_
          clear hHeld
          have hHeld : W2.rangeAt q 0 [.int .i64 x.kind, .string x.id, .string x.name, .string x.label, .string x.cur, .int .i64 x.day, .int .i64 x.value, x.term.val] := (range_below HKX.out.range (hb2))
          refine wpAnyH_named (fun A0 hA0 => ?_)
          have hn0 : Hid (A0.tmps.size = 153) := by show A0.tmps.size = 153; rw [hA0]; rfl
          have hN : Kn A0 [(10, .pointer (some ⟨q, 0, none⟩)), (9, .int .i64 j), (2, .slice E le ce)] := by rw [hA0]; exact ⟨rfl, rfl, rfl, trivial⟩
          have hO := Off.refl A0 [52, 53, 54, 55, 56, 57, 58, 59, 60, 61, 62, 63, 13]
          have HA0 := Lib.hid hA0
          clear hA0
          refine wpAnyH_take (i := 0) (oi := ⟨some 52, .load 30 (.tmp 10), _, _, _, _⟩) (v := .agg (List.toArray [.int .i64 x.kind, .string x.id, .string x.name, .string x.label, .string x.cur, .int .i64 x.day, .int .i64 x.value, x.term.val])) rfl (by kernel_rfl) (by kernel_rfl) (by kernel_rfl) (fun _ _ _ h => h) (yieldsIf_load_mid (by rfl) _ _ rfl _ _ (hN.ev 10 rfl) [.int .i64 x.kind, .string x.id, .string x.name, .string x.label, .string x.cur, .int .i64 x.day, .int .i64 x.value, x.term.val] _ (fun w h => h) Tryz.underlying30 rfl size_ev8) (by assumption) ?_
          (try dsimp only [List.setIfInBounds_toArray, List.set_cons_zero, List.set_cons_succ])
          refine wpAnyH_put hO hn0.out hN (by rfl) (by rfl) (by rfl) (fun A9 hO9 hN9 => ?_)
          (try clear hO hN)
          have hO := hO9
          have hN := hN9
          clear hO9 hN9
          refine wpAnyH_take (i := 1) (oi := ⟨_, _, _, _, _, _⟩) (v := ?_) rfl (by kernel_rfl) (by kernel_rfl) (by kernel_rfl) (fun _ _ _ h => h) (Or.inl ⟨by rfl, ?_⟩) (by assumption) ?_
          rotate_left
          · intro w hSw; (try dsimp only at hSw); go_split_ands; have f1 := hN.get 9 rfl; dsimp only at f1; go_simp; try with_reducible rfl
          (try dsimp only [List.setIfInBounds_toArray, List.set_cons_zero, List.set_cons_succ])
          refine wpAnyH_put hO hn0.out hN (by rfl) (by rfl) (by rfl) (fun A9 hO9 hN9 => ?_)
          (try clear hO hN)
          have hO := hO9
          have hN := hN9
          clear hO9 hN9
          refine wpAnyH_take (i := 2) (oi := ⟨_, _, _, _, _, _⟩) (v := ?_) rfl (by kernel_rfl) (by kernel_rfl) (by kernel_rfl) (fun _ _ _ h => h) (Or.inl ⟨by rfl, ?_⟩) (by assumption) ?_
          rotate_left
          · intro w hSw; (try dsimp only at hSw); go_split_ands; have f1 := hN.get 2 rfl; dsimp only at f1; go_simp; try with_reducible rfl
          (try dsimp only [List.setIfInBounds_toArray, List.set_cons_zero, List.set_cons_succ])
          refine wpAnyH_put hO hn0.out hN (by rfl) (by rfl) (by rfl) (fun A9 hO9 hN9 => ?_)
          (try clear hO hN)
          have hO := hO9
          have hN := hN9
          clear hO9 hN9
          refine wpAnyH_take (i := 3) (oi := ⟨_, _, _, _, _, _⟩) (v := ?_) rfl (by kernel_rfl) (by kernel_rfl) (by kernel_rfl) (fun _ _ _ h => h) (Or.inl ⟨by rfl, ?_⟩) (by assumption) ?_
          rotate_left
          · intro w hSw; (try dsimp only at hSw); go_split_ands; have f1 := hN.get 54 rfl; dsimp only at f1; go_simp; try with_reducible rfl
          (try dsimp only [List.setIfInBounds_toArray, List.set_cons_zero, List.set_cons_succ])
          refine wpAnyH_put hO hn0.out hN (by rfl) (by rfl) (by rfl) (fun A9 hO9 hN9 => ?_)
          (try clear hO hN)
          have hO := hO9
          have hN := hN9
          clear hO9 hN9
          refine wpAnyH_take (i := 4) (oi := ⟨_, _, _, _, _, _⟩) (v := .bool false) rfl (by kernel_rfl) (by kernel_rfl) (by kernel_rfl) (fun _ _ _ h => h) (Or.inl ⟨by rfl, ?_⟩) (by assumption) ?_
          · intro w hSw; (try dsimp only at hSw); go_split_ands; have f1 := hN.get 53 rfl; have f2 := hN.get 55 rfl; dsimp only at f1 f2; go_simp; try with_reducible rfl
          (try dsimp only [List.setIfInBounds_toArray, List.set_cons_zero, List.set_cons_succ])
          refine wpAnyH_put hO hn0.out hN (by rfl) (by rfl) (by rfl) (fun A9 hO9 hN9 => ?_)
          (try clear hO hN)
          have hO := hO9
          have hN := hN9
          clear hO9 hN9
          refine wpAnyH_take (i := 5) (oi := ⟨_, _, _, _, _, _⟩) (v := ?_) rfl (by kernel_rfl) (by kernel_rfl) (by kernel_rfl) (fun _ _ _ h => h) (Or.inl ⟨by rfl, ?_⟩) (by assumption) ?_
          rotate_left
          · intro w hSw; (try dsimp only at hSw); go_split_ands; have f1 := hN.get 56 rfl; dsimp only at f1; go_simp; try with_reducible rfl
          (try dsimp only [List.setIfInBounds_toArray, List.set_cons_zero, List.set_cons_succ])
          refine wpAnyH_put hO hn0.out hN (by rfl) (by rfl) (by rfl) (fun A9 hO9 hN9 => ?_)
          (try clear hO hN)
          have hO := hO9
          have hN := hN9
          clear hO9 hN9
          refine wpAnyH_take (i := 6) (oi := ⟨_, _, _, _, _, _⟩) (v := undef) rfl (by kernel_rfl) (by kernel_rfl) (by kernel_rfl) (fun _ _ _ h => h) (Or.inr ⟨wanted_no (d := 57) hN rfl rfl rfl, rfl⟩) (by assumption) ?_
          (try dsimp only [List.setIfInBounds_toArray, List.set_cons_zero, List.set_cons_succ])
          refine wpAnyH_put hO hn0.out hN (by rfl) (by rfl) (by rfl) (fun A9 hO9 hN9 => ?_)
          (try clear hO hN)
          have hO := hO9
          have hN := hN9
          clear hO9 hN9
          refine wpAnyH_take (i := 7) (oi := ⟨_, _, _, _, _, _⟩) (v := undef) rfl (by kernel_rfl) (by kernel_rfl) (by kernel_rfl) (fun _ _ _ h => h) (Or.inr ⟨wanted_no (d := 57) hN rfl rfl rfl, rfl⟩) (by assumption) ?_
          (try dsimp only [List.setIfInBounds_toArray, List.set_cons_zero, List.set_cons_succ])
          refine wpAnyH_put hO hn0.out hN (by rfl) (by rfl) (by rfl) (fun A9 hO9 hN9 => ?_)
          (try clear hO hN)
          have hO := hO9
          have hN := hN9
          clear hO9 hN9
          refine wpAnyH_take (i := 8) (oi := ⟨_, _, _, _, _, _⟩) (v := undef) rfl (by kernel_rfl) (by kernel_rfl) (by kernel_rfl) (fun _ _ _ h => h) (Or.inr ⟨wanted_no (d := 57) hN rfl rfl rfl, rfl⟩) (by assumption) ?_
          (try dsimp only [List.setIfInBounds_toArray, List.set_cons_zero, List.set_cons_succ])
          refine wpAnyH_put hO hn0.out hN (by rfl) (by rfl) (by rfl) (fun A9 hO9 hN9 => ?_)
          (try clear hO hN)
          have hO := hO9
          have hN := hN9
          clear hO9 hN9
          refine wpAnyH_take (i := 9) (oi := ⟨_, _, _, _, _, _⟩) (v := undef) rfl (by kernel_rfl) (by kernel_rfl) (by kernel_rfl) (fun _ _ _ h => h) (Or.inr ⟨wanted_no (d := 57) hN rfl rfl rfl, rfl⟩) (by assumption) ?_
          (try dsimp only [List.setIfInBounds_toArray, List.set_cons_zero, List.set_cons_succ])
          refine wpAnyH_put hO hn0.out hN (by rfl) (by rfl) (by rfl) (fun A9 hO9 hN9 => ?_)
          (try clear hO hN)
          have hO := hO9
          have hN := hN9
          clear hO9 hN9
          refine wpAnyH_take (i := 10) (oi := ⟨_, _, _, _, _, _⟩) (v := ?_) rfl (by kernel_rfl) (by kernel_rfl) (by kernel_rfl) (fun _ _ _ h => h) (Or.inl ⟨by rfl, ?_⟩) (by assumption) ?_
          rotate_left
          · intro w hSw; (try dsimp only at hSw); go_split_ands; have f1 := hN.get 57 rfl; dsimp only at f1; go_simp; try with_reducible rfl
          (try dsimp only [List.setIfInBounds_toArray, List.set_cons_zero, List.set_cons_succ])
          refine wpAnyH_put hO hn0.out hN (by rfl) (by rfl) (by rfl) (fun A9 hO9 hN9 => ?_)
          (try clear hO hN)
          have hO := hO9
          have hN := hN9
          clear hO9 hN9
          have hbe := HBE.out
          refine wpAnyH_take (i := 11) (oi := ⟨_, _, _, _, _, _⟩) (v := .agg #[.int .i64 x.kind, .string x.id, .string x.name, .string x.label, .string x.cur, .int .i64 x.day, .int .i64 x.value, x.term.val, .bool false]) rfl (by kernel_rfl) (by kernel_rfl) (by kernel_rfl) (fun _ _ _ h => h) (Or.inl ⟨by rfl, ?_⟩) (by assumption) ?_
          · intro w hSw; (try dsimp only at hSw); go_split_ands; have f1 := hN.get 52 rfl; have f2 := hN.get 62 rfl; dsimp only at f1 f2; go_simp; try with_reducible rfl
          (try dsimp only [List.setIfInBounds_toArray, List.set_cons_zero, List.set_cons_succ])
          refine wpAnyH_put hO hn0.out hN (by rfl) (by rfl) (by rfl) (fun A9 hO9 hN9 => ?_)
          (try clear hO hN)
          have hO := hO9
          have hN := hN9
          clear hO9 hN9
          clear hbe
          refine wpAnyH_ready (rs := [12]) (by kernel_rfl) (by simp) ?_
          refine AllReadyH.cons rfl (fun K hK => ?_) AllReadyH.nil
          (try go_simp)
          refine hK.out _ _ (range_below HKX.out.range (bl_alloc hb2 _)) (fun hHeld2 => ?_)
          clear hK K hHeld
          have hHeld := hHeld2
          clear hHeld2
          (try dsimp only [List.setIfInBounds_toArray, List.set_cons_zero, List.set_cons_succ])
          refine wpAnyH_put hO hn0.out hN (by rfl) (by rfl) (by rfl) (fun A9 hO9 hN9 => ?_)
          (try clear hO hN)
          have hO := hO9
          have hN := hN9
          clear hO9 hN9
          have f1 := hN.get 13 rfl
          have f2 := hN.get 63 rfl
          dsimp only at f1 f2
          refine wpAnyH_ready (rs := [13]) (by kernel_rfl) (by simp) ?_
          refine AllReadyH.cons rfl (fun K hK => ?_) AllReadyH.nil
          (try go_simp)
          refine hK.out _ _ (range_below HKX.out.range (bl_alloc hb2 _)) (fun hHeld2 => ?_)
          clear hK K hHeld hHeld2 f2
          (try dsimp only [Act.put_no, List.setIfInBounds_toArray, List.set_cons_zero, List.set_cons_succ])
          refine wpAnyH_done (by kernel_rfl) ?_ _
          refine NoPanic.normal ?_
          obtain ⟨fo, hfo⟩ := hO.lit HA0.out
          have h13 := hN.get 13 rfl
          clear hO
          dsimp only [putL, List.set_cons_zero, List.set_cons_succ] at hfo
          subst hfo
          have h13 : fo 13 = .pointer (some ⟨W2.heap.size, 0, none⟩) := h13
          clear hN
          go_wp2_with fail
          go_meet
          exact ⟨_, rfl, Blk.new _ _ _, bl_alloc hb2 _⟩
      obtain ⟨r, rfl, hkr, hb7⟩ := hcut
      rename World => w7
      obtain ⟨y, hy⟩ : ∃ y, En.mk x b = y := ⟨_, rfl⟩
      have hys : y.ev.small := by rw [← hy]; exact fit_small HF.out
      rw [hy] at hkr
      have HC7 := Lib.hid (HC6.out.below hb7); have HK7 := Lib.hid (HK6.out.below hb7); have HB7 := Lib.hid (bl_step hb7 HB6.out); have HKR := Lib.hid hkr
      clear hti hte hcs hok HF HBE HKX HBD hy HC6 HK6 HB6 hb7 hkr
      have hpe := fun W hW => pentry_calls y hys W hW
      have hpl := y.pack_length hys
      have hisu := isU_head HCO.out
      have hhd := fun W hW => chead_calls w g c HCO.out W hW
      have hln := fun W hW => clen_calls w g c HCO.out W hW
      have had := fun W hW ht => cadd_calls w g c HCO.out y hys W hW ht
      unfold RetPk at hpe
      unfold RetAdd at had
      unfold En.val at hpe had
      have hcc := y.ev.term.cells_ hys.ok.term
      have ho7 := y.ev.term.one_ hys.ok.term
      have hti := y.ev.term.isI hys.ok.term
      by_cases hz : y.ev.check = 0
      · obtain ⟨d, hd, hdo, hdk, hdl, hd0, hdh, hda⟩ := Ch.add_facts HCO.out (by omega) y hys hz
        rw [hd] at had
        rw [hz] at hpe
        have hhd2 := fun W hW => chead_calls w g d hdo W hW
        have hln2 := fun W hW => clen_calls w g d hdo W hW
        have hat2 := fun W hW => cheadat_calls w g d hdo c.es.length W hW
        rw [hda] at hat2
        rw [hdh, HCK.out] at hhd2
        rw [hdl, show ((c.es.length + 1 : Nat) : Int) = (c.es.length : Int) + 1 from by omega] at hln2
        generalize hhh : c.head = h at *
        generalize hnn : c.es.length = n at *
        generalize y.pack = l at *
        obtain ⟨s, hs⟩ : ∃ s, sipSum key (bytesI h ++ l) = s := ⟨_, rfl⟩
        rw [hs] at hhd2
        have HPE := Lib.hid hpe; have HPL := Lib.hid hpl; have HISU := Lib.hid hisu; have HHD := Lib.hid hhd; have HLN := Lib.hid hln; have HAD := Lib.hid had; have HHD2 := Lib.hid hhd2; have HLN2 := Lib.hid hln2; have HAT2 := Lib.hid hat2; have HS := Lib.hid hs; have HD := Lib.hid (And.intro hdo (And.intro hdk (And.intro hdl hd0)))
        clear hpe hpl hisu hhd hln had hhd2 hln2 hat2 hs hdo hdk hdl hd0 hdh hda hd hhh hnn hz
        obtain ⟨f0, f1, f2, f3, f4, f5, f6, f7, f8⟩ := Blk.ens (x := y) HKR.out
        go_wp2_with fail
        refine (HPE.out _ (HT.out.below HB7.out)).mono ?_
        rintro en w8 ⟨vb, rfl, hOb, hb8⟩
        obtain ⟨Ab, cb, rfl, -, -, -⟩ := hOb.read
        have HC8 := Lib.hid (HC7.out.below hb8); have HK8 := Lib.hid (HK7.out.below hb8); have HB8 := Lib.hid (bl_step hb8 HB7.out); have HKR8 := Lib.hid (HKR.out.below hb8); have HO8 := Lib.hid hOb
        clear hb8 hOb f0 f1 f2 f3 f4 f5 f6 f7 f8 HC7 HK7 HKR
        go_wp2_with fail
        refine (HHD.out _ HC8.out).mono ?_
        rintro en w9 ⟨rfl, hb⟩
        have HC9 := Lib.hid (HC8.out.below hb); have HK9 := Lib.hid (HK8.out.below hb); have HB9 := Lib.hid (bl_step hb HB8.out); have HKR9 := Lib.hid (HKR8.out.below hb); have HO9 := Lib.hid (HO8.out.below hb)
        clear hb HC8 HK8 HB8 HKR8 HO8
        obtain ⟨f0, f1, f2, f3, f4, f5, f6, f7, f8⟩ := Blk.ens (x := y) HKR9.out
        go_wp2_with fail
        refine (HLN.out _ HC9.out).mono ?_
        rintro en w10 ⟨rfl, hb⟩
        have HC10 := Lib.hid (HC9.out.below hb); have HK10 := Lib.hid (HK9.out.below hb); have HB10 := Lib.hid (bl_step hb HB9.out); have HKR10 := Lib.hid (HKR9.out.below hb); have HO10 := Lib.hid (HO9.out.below hb)
        clear hb HC9 HK9 HB9 HKR9 HO9 f0 f1 f2 f3 f4 f5 f6 f7 f8
        obtain ⟨f0, f1, f2, f3, f4, f5, f6, f7, f8⟩ := Blk.ens (x := y) HKR10.out
        go_wp2_with fail
        refine (HAD.out _ HC10.out (HT.out.below HB10.out)).mono ?_
        rintro en w11 ⟨rfl, hC11, hg11, -⟩
        obtain ⟨csb, hcsb⟩ := HC10.out.blk
        have HC11 := Lib.hid hC11; have HK11 := Lib.hid (HK10.out.grown hg11 (fun e => HKG.out (by injection e with e; exact e.symm))); have HB11 := Lib.hid (bl_gb HB10.out HG.out hg11); have HO11 := Lib.hid (HO10.out.kept hg11 (.inr (HO10.out.ne_blk hcsb (by decide))))
        clear hC11 hg11 hcsb HC10 HK10 HB10 HKR10 HO10 f0 f1 f2 f3 f4 f5 f6 f7 f8 HHD HLN HAD HPE HB7 hcc ho7 hti
        go_upto_region 18 with fail
        go_cut [105] (fun v wx => v = .bool false ∧ Below w11.heap.size w11 wx)
        case first =>
          have hi : (Tryz.prog.info? 55).map (·.size) = some (byts key).length := by rw [byts_length, HKL.out]; kernel_rfl
          have hwn : IntKind.i64.wrap ((n : Int) + 1) = (n : Int) + 1 := IntWalk.i64_in _ (by omega)
          have hpl := HPL.out
          refine wp_region_noPanic ?_
          refine wp_region_held_drew (S := fun w' => w'.rangeAt w.heap.size 0 (byts key)) (by kernel_rfl) HK11.out.range (fun hHeld => ?_)
          refine wpAnyH_world (fun W => Below w11.heap.size w11 W) (bl_drew (bl_refl _)) (fun W2 hb2 => ?_)
          refine wpAnyH_lst #[false, false, false, false, false, false, false, false, false, false, false, false, false, false, false, false] (by rfl) ?_
          clear hHeld
          have hHeld : W2.rangeAt w.heap.size 0 (byts key) := range_below HK11.out.range hb2
          refine wpAnyH_named (fun A0 hA0 => ?_)
          have hn0 : Hid (A0.tmps.size = 153) := by show A0.tmps.size = 153; rw [hA0]; rfl
          have hN : Kn A0 [(8, .pointer (some ⟨g, 0, none⟩)), (7, .pointer (some ⟨w.heap.size, 0, none⟩)), (16, .int .u64 h), (14, .slice Ab l.length cb), (17, .int .i64 n)] := by rw [hA0]; exact ⟨rfl, rfl, rfl, rfl, rfl, trivial⟩
          have hO := Off.refl A0 [90, 91, 92, 93, 94, 95, 96, 97, 98, 99, 100, 101, 102, 103, 104, 105]
          have HA0 := Lib.hid hA0
          clear hA0
          refine wpAnyH_take (i := 0) (oi := ⟨_, _, _, _, _, _⟩) (v := ?_) rfl (by kernel_rfl) (by kernel_rfl) (by kernel_rfl) (fun _ _ _ h => h) (Or.inl ⟨by rfl, ?_⟩) (by assumption) ?_
          rotate_left
          · intro w hSw; (try dsimp only at hSw); go_split_ands; have f1 := hN.get 8 rfl; dsimp only at f1; go_simp; try with_reducible rfl
          (try dsimp only [List.setIfInBounds_toArray, List.set_cons_zero, List.set_cons_succ])
          refine wpAnyH_put hO hn0.out hN (by rfl) (by rfl) (by rfl) (fun A9 hO9 hN9 => ?_)
          (try clear hO hN)
          have hO := hO9
          have hN := hN9
          clear hO9 hN9
          refine wpAnyH_take (i := 2) (oi := ⟨some 92, .load 55 (.tmp 7), _, _, _, _⟩) (v := .agg (List.toArray (byts key))) rfl (by kernel_rfl) (by kernel_rfl) (by kernel_rfl) (fun _ _ _ h => h) (yieldsIf_load_mid (by rfl) _ _ rfl _ _ (hN.ev 7 rfl) (byts key) _ (fun w h => h) Tryz.underlying55 rfl hi) (by assumption) ?_
          (try dsimp only [List.setIfInBounds_toArray, List.set_cons_zero, List.set_cons_succ])
          refine wpAnyH_put hO hn0.out hN (by rfl) (by rfl) (by rfl) (fun A9 hO9 hN9 => ?_)
          (try clear hO hN)
          have hO := hO9
          have hN := hN9
          clear hO9 hN9
          refine wpAnyH_take (i := 3) (oi := ⟨_, _, _, _, _, _⟩) (v := ?_) rfl (by kernel_rfl) (by kernel_rfl) (by kernel_rfl) (fun _ _ _ h => h) (Or.inl ⟨by rfl, ?_⟩) (by assumption) ?_
          rotate_left
          · intro w hSw; (try dsimp only at hSw); go_split_ands; have f1 := hN.get 16 rfl; dsimp only at f1; go_simp; try with_reducible rfl
          (try dsimp only [List.setIfInBounds_toArray, List.set_cons_zero, List.set_cons_succ])
          refine wpAnyH_put hO hn0.out hN (by rfl) (by rfl) (by rfl) (fun A9 hO9 hN9 => ?_)
          (try clear hO hN)
          have hO := hO9
          have hN := hN9
          clear hO9 hN9
          refine wpAnyH_take (i := 5) (oi := ⟨_, _, _, _, _, _⟩) (v := ?_) rfl (by kernel_rfl) (by kernel_rfl) (by kernel_rfl) (fun _ _ _ h => h) (Or.inl ⟨by rfl, ?_⟩) (by assumption) ?_
          rotate_left
          · intro w hSw; (try dsimp only at hSw); go_split_ands; have f1 := hN.get 14 rfl; dsimp only at f1; go_simp; try with_reducible rfl
          (try dsimp only [List.setIfInBounds_toArray, List.set_cons_zero, List.set_cons_succ])
          refine wpAnyH_put hO hn0.out hN (by rfl) (by rfl) (by rfl) (fun A9 hO9 hN9 => ?_)
          (try clear hO hN)
          have hO := hO9
          have hN := hN9
          clear hO9 hN9
          refine wpAnyH_ready (rs := [1]) (by kernel_rfl) (by simp) ?_
          refine AllReadyH.cons rfl (fun K hK => ?_) AllReadyH.nil
          have f1 := hN.get 90 rfl
          (try dsimp only at f1)
          (try dsimp only at f2)
          (try go_simp)
          refine (HHD2.out _ (HC11.out.below hb2)).mono ?_
          rintro en w12 ⟨rfl, hb⟩
          (try go_simp)
          replace hb2 := bl_step hb hb2
          refine hK.out _ _ (range_below HK11.out.range hb2) (fun hH9 => ?_)
          clear hK K hHeld hb
          (try clear f1)
          (try clear f2)
          have hHeld := hH9
          clear hH9
          (try dsimp only [List.setIfInBounds_toArray, List.set_cons_zero, List.set_cons_succ])
          refine wpAnyH_put hO hn0.out hN (by rfl) (by rfl) (by rfl) (fun A9 hO9 hN9 => ?_)
          (try clear hO hN)
          have hO := hO9
          have hN := hN9
          clear hO9 hN9
          refine wpAnyH_ready (rs := [4]) (by kernel_rfl) (by simp) ?_
          refine AllReadyH.cons rfl (fun K hK => ?_) AllReadyH.nil
          have f1 := hN.get 93 rfl
          dsimp only at f1
          go_simp
          refine (bytes_calls h HISU.out _).mono ?_
          rintro en w13 ⟨v, rfl, HO, hb⟩
          have hOw := HO.mono hb2.size
          replace hb2 := bl_step hb hb2
          (try go_simp)
          refine hK.out _ _ (range_below HK11.out.range hb2) (fun hH9 => ?_)
          clear hK K hHeld hb HO f1
          have hHeld := hH9
          clear hH9
          obtain ⟨Av, cv, rfl, -, -, -⟩ := hOw.read
          (try dsimp only [List.setIfInBounds_toArray, List.set_cons_zero, List.set_cons_succ])
          refine wpAnyH_put hO hn0.out hN (by rfl) (by rfl) (by rfl) (fun A9 hO9 hN9 => ?_)
          (try clear hO hN)
          have hO := hO9
          have hN := hN9
          clear hO9 hN9
          obtain ⟨Ab', cb', hvb, hRb, -, -⟩ := HO11.out.read
          cases hvb
          have hRb2 := hRb.below hb2
          refine wpAnyH_ready (rs := [6]) (by kernel_rfl) (by simp) ?_
          refine AllReadyH.cons (o := ⟨some 96, .call _, _, _, _, _⟩) rfl (fun K hK => ?_) AllReadyH.nil
          refine Eq.mpr (if_pos (by rfl)) ?_
          refine append_anyW (w0 := w11) _ _ 51 5 _ 1 1 rfl Tryz.underlying51 info_u8 rfl (by decide) _ 8 _ Ab _ cb _ hOw hb2 hRb2 (hN.ev 94 rfl) (hN.ev 95 rfl) (by rw [byts_length, Nat.mul_one]) (byts_one _) (by omega) (by omega) ?_
          intro v1 w14 HO4 HB4 HG4
          refine hK.out _ _ (range_below HK11.out.range HB4) (fun hHeld2 => ?_)
          clear hK K hHeld hOw hb2 hRb hRb2 HG4
          have hHeld := hHeld2
          have hb2 := HB4
          clear hHeld2 HB4
          obtain ⟨A4, c4, rfl, hR4, hc4, -⟩ := HO4.read
          have hby : byts (bytesI h) ++ byts l = byts (bytesI h ++ l) := by unfold byts; rw [List.map_append]
          rw [hby] at hR4
          have hln : (bytesI h ++ l).length = 8 + l.length := by rw [List.length_append, bytesI_length]
          have hsm := sum_at key HKL.out A4 c4 (8 + l.length) (bytesI h ++ l) w14 hln hR4 (by omega) hc4
          rw [HS.out] at hsm
          clear hby hR4 hln HO4 hc4
          (try dsimp only [List.setIfInBounds_toArray, List.set_cons_zero, List.set_cons_succ])
          refine wpAnyH_put hO hn0.out hN (by rfl) (by rfl) (by rfl) (fun A9 hO9 hN9 => ?_)
          (try clear hO hN)
          have hO := hO9
          have hN := hN9
          clear hO9 hN9
          refine wpAnyH_ready (rs := [7]) (by kernel_rfl) (by simp) ?_
          refine AllReadyH.cons rfl (fun K hK => ?_) AllReadyH.nil
          have f1 := hN.get 92 rfl
          have f2 := hN.get 96 rfl
          (try dsimp only at f1)
          (try dsimp only at f2)
          (try go_simp)
          refine (hsm).mono ?_
          rintro en w15 ⟨rfl, hb⟩
          (try go_simp)
          replace hb2 := bl_step hb hb2
          refine hK.out _ _ (range_below HK11.out.range hb2) (fun hH9 => ?_)
          clear hK K hHeld hb
          (try clear f1)
          (try clear f2)
          have hHeld := hH9
          clear hH9
          (try dsimp only [List.setIfInBounds_toArray, List.set_cons_zero, List.set_cons_succ])
          refine wpAnyH_put hO hn0.out hN (by rfl) (by rfl) (by rfl) (fun A9 hO9 hN9 => ?_)
          (try clear hO hN)
          have hO := hO9
          have hN := hN9
          clear hO9 hN9
          clear hsm
          refine wpAnyH_take (i := 8) (oi := ⟨_, _, _, _, _, _⟩) (v := .bool false) rfl (by kernel_rfl) (by kernel_rfl) (by kernel_rfl) (fun _ _ _ h => h) (Or.inl ⟨by rfl, ?_⟩) (by assumption) ?_
          · intro w hSw; (try dsimp only at hSw); go_split_ands; have f1 := hN.get 91 rfl; have f2 := hN.get 97 rfl; dsimp only at f1 f2; go_simp; try with_reducible rfl
          (try dsimp only [List.setIfInBounds_toArray, List.set_cons_zero, List.set_cons_succ])
          refine wpAnyH_put hO hn0.out hN (by rfl) (by rfl) (by rfl) (fun A9 hO9 hN9 => ?_)
          (try clear hO hN)
          have hO := hO9
          have hN := hN9
          clear hO9 hN9
          refine wpAnyH_take (i := 9) (oi := ⟨_, _, _, _, _, _⟩) (v := ?_) rfl (by kernel_rfl) (by kernel_rfl) (by kernel_rfl) (fun _ _ _ h => h) (Or.inl ⟨by rfl, ?_⟩) (by assumption) ?_
          rotate_left
          · intro w hSw; (try dsimp only at hSw); go_split_ands; have f1 := hN.get 98 rfl; dsimp only at f1; go_simp; try with_reducible rfl
          (try dsimp only [List.setIfInBounds_toArray, List.set_cons_zero, List.set_cons_succ])
          refine wpAnyH_put hO hn0.out hN (by rfl) (by rfl) (by rfl) (fun A9 hO9 hN9 => ?_)
          (try clear hO hN)
          have hO := hO9
          have hN := hN9
          clear hO9 hN9
          refine wpAnyH_take (i := 10) (oi := ⟨_, _, _, _, _, _⟩) (v := ?_) rfl (by kernel_rfl) (by kernel_rfl) (by kernel_rfl) (fun _ _ _ h => h) (Or.inl ⟨wanted_yes (d := 99) hN rfl rfl rfl, ?_⟩) (by assumption) ?_
          rotate_left
          · intro w hSw; (try dsimp only at hSw); go_split_ands; have f1 := hN.get 8 rfl; dsimp only at f1; go_simp; try with_reducible rfl
          (try dsimp only [List.setIfInBounds_toArray, List.set_cons_zero, List.set_cons_succ])
          refine wpAnyH_put hO hn0.out hN (by rfl) (by rfl) (by rfl) (fun A9 hO9 hN9 => ?_)
          (try clear hO hN)
          have hO := hO9
          have hN := hN9
          clear hO9 hN9
          refine wpAnyH_take (i := 12) (oi := ⟨_, _, _, _, _, _⟩) (v := ?_) rfl (by kernel_rfl) (by kernel_rfl) (by kernel_rfl) (fun _ _ _ h => h) (Or.inl ⟨wanted_yes (d := 99) hN rfl rfl rfl, ?_⟩) (by assumption) ?_
          rotate_left
          · intro w hSw; (try dsimp only at hSw); go_split_ands; have f1 := hN.get 17 rfl; dsimp only at f1; go_simp; try with_reducible rfl
          (try dsimp only [List.setIfInBounds_toArray, List.set_cons_zero, List.set_cons_succ])
          refine wpAnyH_put hO hn0.out hN (by rfl) (by rfl) (by rfl) (fun A9 hO9 hN9 => ?_)
          (try clear hO hN)
          have hO := hO9
          have hN := hN9
          clear hO9 hN9
          refine wpAnyH_take (i := 13) (oi := ⟨_, _, _, _, _, _⟩) (v := .int .i64 ((n : Int) + 1)) rfl (by kernel_rfl) (by kernel_rfl) (by kernel_rfl) (fun _ _ _ h => h) (Or.inl ⟨wanted_yes (d := 99) hN rfl rfl rfl, ?_⟩) (by assumption) ?_
          · intro w hSw; (try dsimp only at hSw); go_split_ands; have f1 := hN.get 102 rfl; dsimp only at f1; go_simp; try with_reducible rfl
          (try dsimp only [List.setIfInBounds_toArray, List.set_cons_zero, List.set_cons_succ])
          refine wpAnyH_put hO hn0.out hN (by rfl) (by rfl) (by rfl) (fun A9 hO9 hN9 => ?_)
          (try clear hO hN)
          have hO := hO9
          have hN := hN9
          clear hO9 hN9
          refine wpAnyH_ready (rs := [11]) (by kernel_rfl) (by simp) ?_
          refine AllReadyH.cons rfl (fun K hK => ?_) AllReadyH.nil
          refine Eq.mpr (if_pos (wanted_yes (d := 99) hN rfl rfl rfl)) ?_
          have f1 := hN.get 100 rfl
          (try dsimp only at f1)
          (try dsimp only at f2)
          (try go_simp)
          refine (HLN2.out _ (HC11.out.below hb2)).mono ?_
          rintro en w16 ⟨rfl, hb⟩
          (try go_simp)
          replace hb2 := bl_step hb hb2
          refine hK.out _ _ (range_below HK11.out.range hb2) (fun hH9 => ?_)
          clear hK K hHeld hb
          (try clear f1)
          (try clear f2)
          have hHeld := hH9
          clear hH9
          (try dsimp only [List.setIfInBounds_toArray, List.set_cons_zero, List.set_cons_succ])
          refine wpAnyH_put hO hn0.out hN (by rfl) (by rfl) (by rfl) (fun A9 hO9 hN9 => ?_)
          (try clear hO hN)
          have hO := hO9
          have hN := hN9
          clear hO9 hN9
          refine wpAnyH_take (i := 14) (oi := ⟨_, _, _, _, _, _⟩) (v := .bool false) rfl (by kernel_rfl) (by kernel_rfl) (by kernel_rfl) (fun _ _ _ h => h) (Or.inl ⟨wanted_yes (d := 99) hN rfl rfl rfl, ?_⟩) (by assumption) ?_
          · intro w hSw; (try dsimp only at hSw); go_split_ands; have f1 := hN.get 101 rfl; have f2 := hN.get 103 rfl; dsimp only at f1 f2; go_simp; try with_reducible rfl
          (try dsimp only [List.setIfInBounds_toArray, List.set_cons_zero, List.set_cons_succ])
          refine wpAnyH_put hO hn0.out hN (by rfl) (by rfl) (by rfl) (fun A9 hO9 hN9 => ?_)
          (try clear hO hN)
          have hO := hO9
          have hN := hN9
          clear hO9 hN9
          refine wpAnyH_take (i := 15) (oi := ⟨_, _, _, _, _, _⟩) (v := .bool false) rfl (by kernel_rfl) (by kernel_rfl) (by kernel_rfl) (fun _ _ _ h => h) (Or.inl ⟨by rfl, ?_⟩) (by assumption) ?_
          · intro w hSw; (try dsimp only at hSw); go_split_ands; have f1 := hN.get 99 rfl; have f2 := hN.get 104 rfl; dsimp only at f1 f2; go_simp; try with_reducible rfl
          (try dsimp only [List.setIfInBounds_toArray, List.set_cons_zero, List.set_cons_succ])
          refine wpAnyH_put hO hn0.out hN (by rfl) (by rfl) (by rfl) (fun A9 hO9 hN9 => ?_)
          (try clear hO hN)
          have hO := hO9
          have hN := hN9
          clear hO9 hN9
          refine wpAnyH_done (by kernel_rfl) ?_ _
          refine NoPanic.normal ?_
          obtain ⟨fo, hfo⟩ := hO.lit HA0.out
          have h105 := hN.get 105 rfl
          clear hO
          dsimp only [putL, List.set_cons_zero, List.set_cons_succ] at hfo
          subst hfo
          have h105 : fo 105 = .bool false := h105
          clear hN
          go_wp2_with fail
          go_meet
          exact ⟨rfl, hb2⟩
        obtain ⟨rfl, hb⟩ := hcut
        rename World => w12
        have HC12 := Lib.hid (HC11.out.below hb); have HK12 := Lib.hid (HK11.out.below hb); have HB12 := Lib.hid (bl_step hb HB11.out)
        clear hb HC11 HK11 HB11 HO11
        go_wp2_with fail
        refine (HAT2.out _ HC12.out).mono ?_
        rintro en w13 ⟨rfl, hb⟩
        have HC13 := Lib.hid (HC12.out.below hb); have HK13 := Lib.hid (HK12.out.below hb); have HB13 := Lib.hid (bl_step hb HB12.out)
        clear hb HC12 HK12 HB12
        go_wp2_with fail
        go_roundw
        case rel => exact ⟨j + 1, d, HD.out.1, by have := HD.out.2.2.1; omega, HD.out.2.1.trans HCK.out, HD.out.2.2.2.trans HC0.out, by omega, by omega, by go_num, HC13.out, HK13.out, HB13.out⟩
        case measure => simp [intOf]; omega
      · rw [Ch.add_bad (c := c) (by omega) hz] at had
        have hzb : (y.ev.check != 0) = true := by simp [hz]
        generalize c.head = h at *
        generalize hnn : c.es.length = n at *
        generalize y.pack = l at *
        generalize y.ev.check = er at *
        have HPE := Lib.hid hpe; have HHD := Lib.hid hhd; have HLN := Lib.hid hln; have HAD := Lib.hid had; have HNN := Lib.hid hnn
        clear hpe hpl hisu hhd hln had hz hnn
        obtain ⟨f0, f1, f2, f3, f4, f5, f6, f7, f8⟩ := Blk.ens (x := y) HKR.out
        go_wp2_with fail
        refine (HPE.out _ (HT.out.below HB7.out)).mono ?_
        rintro en w8 ⟨vb, rfl, hOb, hb8⟩
        have HC8 := Lib.hid (HC7.out.below hb8); have HK8 := Lib.hid (HK7.out.below hb8); have HB8 := Lib.hid (bl_step hb8 HB7.out); have HKR8 := Lib.hid (HKR.out.below hb8)
        clear hb8 hOb f0 f1 f2 f3 f4 f5 f6 f7 f8 HC7 HK7 HKR
        go_wp2_with fail
        refine (HHD.out _ HC8.out).mono ?_
        rintro en w9 ⟨rfl, hb⟩
        have HC9 := Lib.hid (HC8.out.below hb); have HK9 := Lib.hid (HK8.out.below hb); have HB9 := Lib.hid (bl_step hb HB8.out); have HKR9 := Lib.hid (HKR8.out.below hb)
        clear hb HC8 HK8 HB8 HKR8
        go_wp2_with fail
        refine (HLN.out _ HC9.out).mono ?_
        rintro en w10 ⟨rfl, hb⟩
        have HC10 := Lib.hid (HC9.out.below hb); have HK10 := Lib.hid (HK9.out.below hb); have HB10 := Lib.hid (bl_step hb HB9.out); have HKR10 := Lib.hid (HKR9.out.below hb)
        clear hb HC9 HK9 HB9 HKR9
        obtain ⟨f0, f1, f2, f3, f4, f5, f6, f7, f8⟩ := Blk.ens (x := y) HKR10.out
        go_wp2_with fail
        refine (HAD.out _ HC10.out (HT.out.below HB10.out)).mono ?_
        rintro en w11 ⟨rfl, hC11, hg11, -⟩
        have HC11 := Lib.hid hC11; have HK11 := Lib.hid (HK10.out.grown hg11 (fun e => HKG.out (by injection e with e; exact e.symm))); have HB11 := Lib.hid (bl_gb HB10.out HG.out hg11)
        clear hC11 hg11 HC10 HK10 HB10 HKR10 f0 f1 f2 f3 f4 f5 f6 f7 f8 HAD HPE HB7 hcc ho7 hti
        go_wp2_with fail
        refine (HHD.out _ HC11.out).mono ?_
        rintro en w12 ⟨rfl, hb⟩
        have HC12 := Lib.hid (HC11.out.below hb); have HK12 := Lib.hid (HK11.out.below hb); have HB12 := Lib.hid (bl_step hb HB11.out)
        clear hb HC11 HK11 HB11
        go_wp2_with fail
        refine (HLN.out _ HC12.out).mono ?_
        rintro en w13 ⟨rfl, hb⟩
        have HC13 := Lib.hid (HC12.out.below hb); have HK13 := Lib.hid (HK12.out.below hb); have HB13 := Lib.hid (bl_step hb HB12.out)
        clear hb HC12 HK12 HB12
        go_wp2_with fail
        go_roundw
        case rel => exact ⟨j + 1, c, HCO.out, by have := HNN.out; omega, HCK.out, HC0.out, by omega, by omega, by go_num, HC13.out, HK13.out, HB13.out⟩
        case measure => simp [intOf]; omega
    · rw [show decide (j < lc ∧ j < 12) = false from decide_eq_false hlt]
      have hm1 := fun W hW => cheadat_calls w g c hco (-1) W hW
      have hln := fun W hW => clen_calls w g c hco W hW
      have hp1 := fun W hW => cheadat_calls w g c hco ((c.es.length : Int) + 1) W hW
      have hz0 := fun W hW => cheadat_calls w g c hco 0 W hW
      have e1 : c.at_ (-1) = (0, false) := by unfold Ch.at_; rw [if_neg (by omega)]
      have e2 : c.at_ ((c.es.length : Int) + 1) = (0, false) := by unfold Ch.at_; rw [if_neg (by omega)]
      have e3 : c.at_ 0 = (0, true) := by unfold Ch.at_; rw [if_pos ⟨by omega, by omega⟩]; exact congrArg (·, true) hc0
      rw [e1] at hm1
      rw [e2] at hp1
      rw [e3] at hz0
      clear e1 e2 e3
      generalize c.es.length = n at *
      have hwn : IntKind.i64.wrap ((n : Int) + 1) = (n : Int) + 1 := IntWalk.i64_in _ (by omega)
      have HM1 := Lib.hid hm1; have HLN := Lib.hid hln; have HP1 := Lib.hid hp1; have HZ0 := Lib.hid hz0; have HC := Lib.hid hC; have HB := Lib.hid hB
      clear hm1 hln hp1 hz0 hC hB hK hco hc0
      go_wp2_with fail
      refine (HM1.out _ HC.out).mono ?_
      rintro en w4 ⟨rfl, hb⟩
      have HC4 := Lib.hid (HC.out.below hb); have HB4 := Lib.hid (bl_step hb HB.out)
      clear hb HC HB
      go_wp2_with fail
      refine (HLN.out _ HC4.out).mono ?_
      rintro en w5 ⟨rfl, hb⟩
      have HC5 := Lib.hid (HC4.out.below hb); have HB5 := Lib.hid (bl_step hb HB4.out)
      clear hb HC4 HB4
      go_wp2_with fail
      refine (HP1.out _ HC5.out).mono ?_
      rintro en w6 ⟨rfl, hb⟩
      have HC6 := Lib.hid (HC5.out.below hb); have HB6 := Lib.hid (bl_step hb HB5.out)
      clear hb HC5 HB5
      go_wp2_with fail
      refine (HZ0.out _ HC6.out).mono ?_
      rintro en w7 ⟨rfl, hb⟩
      have HB7 := Lib.hid (bl_step hb HB6.out)
      clear hb HC6 HB6
      go_wp2_with fail
      refine (wakes13_calls _ (HT.out.below HB7.out)).mono ?_
      rintro en w8 ⟨rfl, hb⟩
      go_wp2_with fail
      go_ret
      exact ⟨rfl, bl_step hb HB7.out⟩
end Go.Proofs.YtapbkomicihkkaaGreatDoor
