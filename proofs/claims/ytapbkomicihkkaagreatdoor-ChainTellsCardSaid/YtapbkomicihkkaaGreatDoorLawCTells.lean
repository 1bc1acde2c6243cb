/- ChainTells: the walk. -/
import Derived.Test.YtapbkomicihkkaaGreatDoorLawAG
import Derived.Test.YtapbkomicihkkaaGreatDoorSomeG
import Derived.Test.YtapbkomicihkkaaGreatDoorBoolsArg
import Derived.Test.YtapbkomicihkkaaGreatDoorSpar2
import Derived.Test.YtapbkomicihkkaaGreatDoorSpar2
import Derived.Test.YtapbkomicihkkaaGreatDoorSp
namespace Go.Proofs.YtapbkomicihkkaaGreatDoor
open Go.RowKit
set_option linter.unusedVariables false
set_option linter.unusedSimpArgs false

theorem run_bd_En3 (k d v : Int) (x1 x2 x3 x4 : ByteArray) (x7 : Value) (b : Bool) (h7 : IsI x7) (W : World) : (bdN 59 #[(0, .agg #[.int .i64 k, .string x1, .string x2, .string x3, .string x4, .int .i64 d, .int .i64 v, x7]), (1, .bool b)]).run Tryz.prog W = .ok (.agg #[.int .i64 k, .string x1, .string x2, .string x3, .string x4, .int .i64 d, .int .i64 v, x7, .bool b]) W := by
  rcases h7 with rfl | ⟨_, _, rfl⟩ <;> kernel_rfl
theorem size_ev8 : (Tryz.prog.info? 30).map (·.size) = some 8 := by kernel_rfl
theorem Own.blkC {w0 W : World} {e size n : Nat} {v : Value} {xs : List Value} (h : Own w0 W e size v n xs) (hn : 0 < n) :
    ∃ g cap cur, v = .slice (some ⟨g, 0, none⟩) n cap ∧ w0.heap.size ≤ g ∧ Blk W g cur e ∧ n * size ≤ cur.size ∧ ∀ (j : Nat) (u : Value), xs[j]? = some u → cur[j]? = some u := by
  have hl := h.1
  rcases h.2 with ⟨rfl, h0⟩ | ⟨g, cap, cur, rfl, hb, hh, hle, _, hsz, hxs⟩
  · omega
  · have hx : ∀ (j : Nat) (u : Value), xs[j]? = some u → cur[j]? = some u := fun j u hu => by
      rw [← hxs, List.getElem?_take] at hu
      split at hu
      · simpa using hu
      · cases hu
    refine ⟨g, cap, cur, rfl, hb, hh, ?_, hx⟩
    have := congrArg List.length hxs
    rw [List.length_take, hl] at this
    simp at this
    omega
theorem rat_below {w w1 : World} {g o : Nat} {xs : List Value} (h : w.rangeAt g o xs) (hb : Below w.heap.size w w1) : w1.rangeAt g o xs := fun j v hv => cell_below hb (h j v hv)
theorem range_init {w : World} {b o : Nat} {cs : List Value} {x : Value} (h : w.rangeAt b o (cs ++ [x])) : w.rangeAt b o cs := fun j v hv => h j v (by rw [List.getElem?_append_left (List.getElem?_eq_some_iff.1 hv).1]; exact hv)
theorem Blk.setCells {t : TypeId} {g : Nat} : ∀ (vs : List Value) (o : Nat) {w : World} {cs : Array Value}, Blk w g cs t → o + vs.length ≤ cs.size → ∃ cs', Blk (w.setCells g o vs) g cs' t ∧ cs'.size = cs.size ∧ ∀ k, o + vs.length ≤ k → cs'[k]? = cs[k]?
  | [], o, w, cs, h, _ => ⟨cs, h, rfl, fun _ _ => rfl⟩
  | v :: vs, o, w, cs, h, hl => by
    rw [List.length_cons] at hl
    obtain ⟨cs', h1, h2, h3⟩ := Blk.setCells vs (o + 1) (h.set o v) (by simp; omega)
    refine ⟨cs', by rw [World.setCells]; exact h1, by rw [h2]; simp, fun k hk => ?_⟩
    rw [List.length_cons] at hk
    rw [h3 k (by omega), Array.getElem?_setIfInBounds_ne (by omega)]
theorem gb_setCells {g : Nat} : ∀ (vs : List Value) (o : Nat) (w : World), w.grownBy (w.setCells g o vs) (some g)
  | [], o, w => gb_refl _ _
  | v :: vs, o, w => by rw [World.setCells]; exact gb_trans (gb_set o v) (gb_setCells vs (o + 1) _)
theorem Blk.there {t : TypeId} {g o n : Nat} {w : World} {cs : Array Value} (h : Blk w g cs t) (hl : o + n ≤ cs.size) : w.there g o n := fun j hj => by
  rw [h.cell, h.frozen, Array.getElem?_eq_getElem (by omega)]
  exact ⟨rfl, rfl⟩
/-- The rows from the i-th on. -/
def RowsFrom (es : List En) (cur : Array Value) (i : Nat) : Prop := ∀ p y, i ≤ p → es[p]? = some y → ∀ j, j < 9 → cur[p * 9 + j]? = y.row[j]?
theorem RowsFrom.of {es : List En} {cur : Array Value} (h : ∀ (j : Nat) (u : Value), (rowsE es)[j]? = some u → cur[j]? = some u) : RowsFrom es cur 0 := fun p y _ hp j hj => by
  have h1 := rowsE_get es p j y hp hj
  have h2 : y.row[j]? = some y.row[j] := List.getElem?_eq_getElem (by rw [y.row_length]; exact hj)
  rw [h2] at h1 ⊢
  exact h _ _ h1
theorem RowsFrom.range {es : List En} {cur : Array Value} {i g : Nat} {W : World} {y : En} {t : TypeId} (h : RowsFrom es cur i) (hb : Blk W g cur t) (hy : es[i]? = some y) : W.rangeAt g (i * 9) y.row := fun j v hv => by
  have hj : j < 9 := (List.getElem?_eq_some_iff.1 hv).1
  rw [hb.cell, h i y (Nat.le_refl _) hy j hj, hv]
theorem passV_one (b : Bool) : (#[Value.int .i64 1, .string ⟨#[]⟩, .string ⟨#[]⟩, .string ⟨#[]⟩, .string ⟨#[]⟩, .int .i64 0, .int .i64 0, .nilIface, .bool b] : Array Value).all (·.oneCell') = true := by simp [Value.oneCell']
theorem run_bd_Pass (W : World) : (bdN 30 #[(0, .int .i64 1)]).run Tryz.prog W = .ok (.agg #[.int .i64 1, .string ⟨#[]⟩, .string ⟨#[]⟩, .string ⟨#[]⟩, .string ⟨#[]⟩, .int .i64 0, .int .i64 0, .nilIface]) W := by kernel_rfl
def key3 : List UInt8 := [3, 0, 0, 0, 0, 0, 0, 0, 0, 0, 0, 0, 0, 0, 0, 0]
set_option maxRecDepth 100000 in
set_option maxHeartbeats 8000000 in
theorem chainTells_calls (B : Option Addr) (lc cc : Nat) (ms : List Cv) (E : Option Addr) (le ce : Nat) (bs : List Bool) (w : World) (hml : ms.length = lc) (hmn : lc ≤ 140737488355328) (hms : ∀ m ∈ ms, m.c.ok ∧ PlanAt w m.vN m.vW) (hmr : Rd w B (rowsC ms)) (hbl : bs.length = le) (hbn : le ≤ 140737488355328) (hbr : Rd w E (bools bs)) (ht : TabOk w) :
    Calls Tryz.prog 8 #[.slice B lc cc, .slice E le ce] w fun e w' => e = .returned (.bool true) ∧ Below w.heap.size w w' := by
  have hnw := cnew_calls w key3 rfl w (Nat.le_refl _)
  unfold RetCh at hnw
  have hka : (byts key3).toArray = #[.int .u8 3, .int .u8 0, .int .u8 0, .int .u8 0, .int .u8 0, .int .u8 0, .int .u8 0, .int .u8 0, .int .u8 0, .int .u8 0, .int .u8 0, .int .u8 0, .int .u8 0, .int .u8 0, .int .u8 0, .int .u8 0] := rfl
  rw [hka] at hnw
  have HT := Lib.hid ht; have HNW := Lib.hid hnw
  have HML := Lib.hid hml; have HMS := Lib.hid hms; have HMR := Lib.hid hmr; have HBL := Lib.hid hbl; have HBR := Lib.hid hbr
  clear ht hml hms hmr hbl hbr hnw hka
  go_enter Tryz.func8, Tryz.ntmps8
  go_wp2_with fail
  refine (HNW.out).mono ?_
  rintro en w3 ⟨g, rfl, hC, hg, hb⟩
  have HC := Lib.hid hC; have HBB := Lib.hid hb; have HG := Lib.hid hg
  clear hC hb hg HNW
  go_wp2_with fail
  go_loopw [6, 7] (fun v i wr => ∃ (j : Nat) (c : Ch), c.ok ∧ c.es.length ≤ j ∧ (∀ x ∈ c.es, x.ev.small ∧ x.ev.same x.ev = true) ∧ j ≤ 12 ∧ j ≤ lc ∧ i = .int .i64 j ∧ Own w wr 59 9 v c.es.length (rowsE c.es) ∧ ChAt w wr g c ∧ Below w.heap.size w wr) (fun _ i _ => 12 - (intOf i).toNat)
  case atStart => exact ⟨0, ⟨key3, [], [0]⟩, Ch.new_ok key3 rfl, Nat.le_refl _, fun x hx => (by cases hx), by omega, by omega, rfl, Own.nil _ _ _ _, HC.out, HBB.out⟩
  case round =>
    clear HC HBB
    obtain ⟨j, c, hco, hcl, hcs0, hj, hjl, rfl, hO, hC, hB⟩ := hrel
    go_upto_region 6 with fail
    go_cut [27] (fun v wx => v = .bool (decide (j < lc ∧ j < 12)) ∧ wx = wr)
    case first =>
      by_cases g1 : j < lc
      · by_cases g2 : j < 12
        · go_wp2_with fail
          go_meet
          exact ⟨by (simp [g1, g2] <;> omega), rfl⟩
        · go_wp2_with fail
          go_meet
          exact ⟨by (simp [g1, g2] <;> omega), rfl⟩
      · go_wp2_with fail
        go_meet
        exact ⟨by simp [g1], rfl⟩
    obtain ⟨rfl, rfl⟩ := hcut
    rename World => wr
    by_cases hlt : j < lc ∧ j < 12
    · rw [show decide (j < lc ∧ j < 12) = true from decide_eq_true hlt]
      obtain ⟨hl1, hl2⟩ := hlt
      obtain ⟨⟨cm, vN, vW⟩, hcv⟩ : ∃ y, ms[j]? = some y := ⟨_, List.getElem?_eq_getElem (by rw [HML.out]; exact hl1)⟩
      obtain ⟨hc, hp⟩ := HMS.out _ (List.mem_of_getElem? hcv)
      have hpw := hp.below hB
      have hmr := HMR.out.below hB
      obtain ⟨ad, rfl, -⟩ := hmr (j * 8 + 0) _ ((rowsC_get ms j 0 _ hcv (by omega)).trans rfl)
      have hrow := hmr.row hcv
      have hsm := some_calls wr cm vN vW hc hpw 99 0 0 ⟨#[]⟩ (by unfold IsInt64; omega) (by unfold IsInt64; omega) (by decide) (by decide)
      unfold RetSome at hsm
      unfold Ev.val at hsm
      unfold Cm.val at hsm
      unfold Cv.row at hrow
      have HSM := Lib.hid hsm; have HROW := Lib.hid hrow; have HC := Lib.hid hC; have HO := Lib.hid hO; have HB := Lib.hid hB; have HCO := Lib.hid hco; have HCS := Lib.hid hcs0
      clear hsm hrow hC hO hB hco hcs0 hcv hc hp hpw hmr
      go_wp2_with (refine wpList_load_rd rfl 27 _ rfl _ rfl _ _ HROW.out Tryz.underlying27 rfl info_cmd ?_)
      refine HSM.out.mono ?_
      rintro en w5 ⟨x, vx, rfl, hE, hF, hb⟩
      obtain ⟨c0, c1, c2, c3, rfl, hTr⟩ := hE
      obtain ⟨A9, c9, cs9, hag, -, -⟩ := hTr.open_
      have hcc : c0 = .int .i64 x.term.tr.kind ∧ c1 = .string x.term.tr.s ∧ c2 = .int .i64 x.term.tr.n ∧ c3 = .slice A9 x.term.tr.ks.length c9 := by injection hag with hag; simp at hag; exact hag
      obtain ⟨h0, h1, h2, h3⟩ := hcc
      subst h0 h1 h2 h3
      clear hag hTr HSM HROW
      have hok := hF.term.ok
      have hti := x.term.isI hok
      have hte := x.term.one_ hok
      have hcs := x.term.cells_ hok
      have HF := Lib.hid hF; have HB5 := Lib.hid hb
      clear hF hb
      go_upto_region 9 with fail
      have hkx := (Blk.new w5 #[.int .i64 x.kind, .string x.id, .string x.name, .string x.label, .string x.cur, .int .i64 x.day, .int .i64 x.value, x.term.val] 30).below (bl_alloc (bl_refl _) (.cells #[.int .i64 x.kind, .string x.id, .string x.name, .string x.label, .string x.cur, .int .i64 x.day, .int .i64 x.value, .int .i64 x.term.tr.kind, .string x.term.tr.s, .int .i64 x.term.tr.n, .slice A9 x.term.tr.ks.length c9] 35))
      have hb6 := bl_alloc (bl_alloc HB5.out (.cells #[.int .i64 x.kind, .string x.id, .string x.name, .string x.label, .string x.cur, .int .i64 x.day, .int .i64 x.value, x.term.val] 30)) (.cells #[.int .i64 x.kind, .string x.id, .string x.name, .string x.label, .string x.cur, .int .i64 x.day, .int .i64 x.value, .int .i64 x.term.tr.kind, .string x.term.tr.s, .int .i64 x.term.tr.n, .slice A9 x.term.tr.ks.length c9] 35)
      obtain ⟨W6, hW6⟩ : ∃ W6, (w5.alloc (.cells #[.int .i64 x.kind, .string x.id, .string x.name, .string x.label, .string x.cur, .int .i64 x.day, .int .i64 x.value, x.term.val] 30)).alloc (.cells #[.int .i64 x.kind, .string x.id, .string x.name, .string x.label, .string x.cur, .int .i64 x.day, .int .i64 x.value, .int .i64 x.term.tr.kind, .string x.term.tr.s, .int .i64 x.term.tr.n, .slice A9 x.term.tr.ks.length c9] 35) = W6 := ⟨_, rfl⟩
      rw [hW6] at hkx hb6 ⊢
      obtain ⟨q, hq⟩ : ∃ q, w5.heap.size = q := ⟨_, rfl⟩
      rw [hq] at hkx ⊢
      have hC6 := HC.out.below hb6
      have hO6 := HO.out.below hb6
      have hB6 := bl_step hb6 HB.out
      obtain ⟨b, hbd⟩ : ∃ b, bs.getD j false = b := ⟨_, rfl⟩
      have hbe := fun W => run_bd_En3 x.kind x.day x.value x.id x.name x.label x.cur x.term.val b hti W
      have HBE := Lib.hid hbe; have HC6 := Lib.hid hC6; have HO6 := Lib.hid hO6; have HB6 := Lib.hid hB6; have HKX := Lib.hid hkx; have HBD := Lib.hid hbd
      clear hbe hC6 hO6 hB6 hW6 hkx hb6 HC HO HB HB5 hq hbd
      go_cut [11] (fun v wx => ∃ r, v = .pointer (some ⟨r, 0, none⟩) ∧ Blk wx r (En.mk x b).cells 59 ∧ Below W6.heap.size W6 wx)
      case first =>
        have hj0 : (0 : Int) ≤ (j : Int) := by omega
        have hbe := HBE.out
        by_cases hg : j < le
        · have hbj : bs[j]? = some b := by rw [List.getElem?_eq_getElem (by rw [HBL.out]; exact hg), ← HBD.out, List.getD_eq_getElem?_getD, List.getElem?_eq_getElem (by rw [HBL.out]; exact hg)]; rfl
          obtain ⟨ae, rfl, hcell⟩ := (HBR.out.below HB6.out) j _ (bools_get bs j b hbj)
          have hj1 : (j : Int) < (le : Int) := by omega
          refine wp_region_noPanic ?_
          refine wp_region_held_drew (S := fun w' => w'.rangeAt q 0 [.int .i64 x.kind, .string x.id, .string x.name, .string x.label, .string x.cur, .int .i64 x.day, .int .i64 x.value, x.term.val] ∧ w'.cell? (ae.add j) = some (.bool b)) (by kernel_rfl) ⟨HKX.out.range, hcell⟩ (fun hHeld => ?_)
          refine wpAnyH_world (fun W => Below W6.heap.size W6 W) (bl_drew (bl_refl _)) (fun W2 hb2 => ?_)
          refine wpAnyH_lst #[false, false, false, false, false, false, false, false, false, false, false, false, false, false] (by rfl) ?_
          clear hHeld
          refine wpAnyH_named (fun A0 hA0 => ?_)
          have HA0 := Lib.hid hA0
          refine sp_in A0 [39, 40, 41, 42, 43, 44, 45, 46, 47, 48, 49, 50, 11] 162 [(8, .pointer (some ⟨q, 0, none⟩)), (7, .int .i64 j), (1, .slice (some ae) le ce)] (by rw [hA0]; rfl) ⟨range_below HKX.out.range (hb2), cell_below (hb2) hcell⟩ (by rw [hA0]; exact ⟨rfl, rfl, rfl, trivial⟩) ?_
          clear hA0
          refine sl 0 8 rfl q 0 [.int .i64 x.kind, .string x.id, .string x.name, .string x.label, .string x.cur, .int .i64 x.day, .int .i64 x.value, x.term.val] _ (fun w h => h.1) Tryz.underlying30 size_ev8 ?_
          refine st 1 [7] rfl ?_
          refine st 2 [1] rfl ?_
          refine st 3 [41] rfl ?_
          refine st (v := .bool true) 4 [40, 42] rfl ?_
          refine st 5 [43] rfl ?_
          refine st 6 [1] rfl ?_
          refine st 7 [7] rfl ?_
          refine st 8 [45, 46] rfl ?_
          refine st 9 [47] rfl ?_
          refine st 10 [44, 48] rfl ?_
          refine st (v := .agg #[.int .i64 x.kind, .string x.id, .string x.name, .string x.label, .string x.cur, .int .i64 x.day, .int .i64 x.value, x.term.val, .bool b]) 11 [39, 49] rfl ?_
          refine sr 12 (sx 12 [] rfl ⟨range_below HKX.out.range (bl_alloc hb2 _), cell_below (bl_alloc hb2 _) hcell⟩ ?_)
          refine sr 13 (sw (w' := W2.alloc (.cells #[.int .i64 x.kind, .string x.id, .string x.name, .string x.label, .string x.cur, .int .i64 x.day, .int .i64 x.value, x.term.val, .bool b] 59)) 13 [11, 50] rfl ⟨range_below HKX.out.range (bl_alloc hb2 _), cell_below (bl_alloc hb2 _) hcell⟩ ?_)
          refine sp_done (fun A hO hN hS => NoPanic.normal ?_)
          obtain ⟨fo, hfo⟩ := hO.lit HA0.out
          have g11 := hN.get 11 rfl
          clear hO hN
          dsimp only [putL, List.set_cons_zero, List.set_cons_succ] at hfo
          subst hfo
          have g11 : fo 11 = .pointer (some ⟨W2.heap.size, 0, none⟩) := g11
          go_wp2_with fail
          go_meet
          exact ⟨_, rfl, Blk.new _ _ _, bl_alloc hb2 _⟩
        · obtain rfl : b = false := by rw [← HBD.out, List.getD_eq_getElem?_getD, List.getElem?_eq_none (by rw [HBL.out]; omega)]; rfl
          have hj1 : ¬ ((j : Int) < (le : Int)) := by omega
          refine wp_region_noPanic ?_
          refine wp_region_held_drew (S := fun w' => w'.rangeAt q 0 [.int .i64 x.kind, .string x.id, .string x.name, .string x.label, .string x.cur, .int .i64 x.day, .int .i64 x.value, x.term.val]) (by kernel_rfl) HKX.out.range (fun hHeld => ?_)
          refine wpAnyH_world (fun W => Below W6.heap.size W6 W) (bl_drew (bl_refl _)) (fun W2 hb2 => ?_)
          refine wpAnyH_lst #[false, false, false, false, false, false, false, false, false, false, false, false, false, false] (by rfl) ?_
          clear hHeld
          refine wpAnyH_named (fun A0 hA0 => ?_)
          have HA0 := Lib.hid hA0
          refine sp_in A0 [39, 40, 41, 42, 43, 44, 45, 46, 47, 48, 49, 50, 11] 162 [(8, .pointer (some ⟨q, 0, none⟩)), (7, .int .i64 j), (1, .slice E le ce)] (by rw [hA0]; rfl) (range_below HKX.out.range (hb2)) (by rw [hA0]; exact ⟨rfl, rfl, rfl, trivial⟩) ?_
          clear hA0
          refine sl 0 8 rfl q 0 [.int .i64 x.kind, .string x.id, .string x.name, .string x.label, .string x.cur, .int .i64 x.day, .int .i64 x.value, x.term.val] _ (fun w h => h) Tryz.underlying30 size_ev8 ?_
          refine st 1 [7] rfl ?_
          refine st 2 [1] rfl ?_
          refine st 3 [41] rfl ?_
          refine st (v := .bool false) 4 [40, 42] rfl ?_
          refine st 5 [43] rfl ?_
          refine stn 6 rfl ?_
          refine stn 7 rfl ?_
          refine stn 8 rfl ?_
          refine stn 9 rfl ?_
          refine st 10 [44] rfl ?_
          refine st (v := .agg #[.int .i64 x.kind, .string x.id, .string x.name, .string x.label, .string x.cur, .int .i64 x.day, .int .i64 x.value, x.term.val, .bool false]) 11 [39, 49] rfl ?_
          refine sr 12 (sx 12 [] rfl (range_below HKX.out.range (bl_alloc hb2 _)) ?_)
          refine sr 13 (sw (w' := W2.alloc (.cells #[.int .i64 x.kind, .string x.id, .string x.name, .string x.label, .string x.cur, .int .i64 x.day, .int .i64 x.value, x.term.val, .bool false] 59)) 13 [11, 50] rfl (range_below HKX.out.range (bl_alloc hb2 _)) ?_)
          refine sp_done (fun A hO hN hS => NoPanic.normal ?_)
          obtain ⟨fo, hfo⟩ := hO.lit HA0.out
          have g11 := hN.get 11 rfl
          clear hO hN
          dsimp only [putL, List.set_cons_zero, List.set_cons_succ] at hfo
          subst hfo
          have g11 : fo 11 = .pointer (some ⟨W2.heap.size, 0, none⟩) := g11
          go_wp2_with fail
          go_meet
          exact ⟨_, rfl, Blk.new _ _ _, bl_alloc hb2 _⟩
      obtain ⟨r, rfl, hkr, hb7⟩ := hcut
      rename World => w7
      obtain ⟨y, hy⟩ : ∃ y, En.mk x b = y := ⟨_, rfl⟩
      have hys : y.ev.small := by rw [← hy]; exact fit_small HF.out
      have hyy : y.ev.same y.ev = true := by rw [← hy]; exact fit_same HF.out
      rw [hy] at hkr
      have HC7 := Lib.hid (HC6.out.below hb7); have HO7 := Lib.hid (HO6.out.below hb7); have HB7 := Lib.hid (bl_step hb7 HB6.out); have HKR := Lib.hid hkr
      clear hti hte hcs hok HF HBE HKX HBD hy HC6 HO6 HB6 hb7 hkr
      have had := fun W hW ht => cadd_calls w g c HCO.out y hys W hW ht
      have hok2 := Ch.add_ok HCO.out y hys
      unfold RetAdd at had
      unfold En.val at had
      have hcc := y.ev.term.cells_ hys.ok.term
      have ho7 := y.ev.term.one_ hys.ok.term
      have hti := y.ev.term.isI hys.ok.term
      have hone := y.row_one hys.ok
      have HSM := Lib.hid hys; have HYY := Lib.hid hyy; have HONE := Lib.hid hone
      clear hyy hone
      obtain ⟨f0, f1, f2, f3, f4, f5, f6, f7, f8⟩ := Blk.ens (x := y) HKR.out
      by_cases hz : y.ev.check = 0
      · have hadd : c.add y = (⟨c.key, c.es ++ [y], c.hs ++ [y.next c.key c.head]⟩, 0) := by
          unfold Ch.add
          rw [if_neg (by omega), if_pos hz]
        rw [hadd] at had hok2
        have HAD := Lib.hid had; have HK2 := Lib.hid hok2
        clear had hadd hz hok2
        go_wp2_with fail
        refine (HAD.out _ HC7.out (HT.out.below HB7.out)).mono ?_
        rintro en w8 ⟨rfl, -, hg8, hnew⟩
        obtain ⟨csb, hcsb⟩ := HC7.out.blk
        have hO8 := HO7.out.kept hg8 (.inr (HO7.out.ne_blk hcsb (by decide)))
        have hB8 := bl_gb HB7.out HG.out hg8
        have hkr8 := HKR.out.grown hg8 (fun e => by
          injection e with e
          subst e
          have h2 := HKR.out
          unfold Blk at h2 hcsb
          rw [h2] at hcsb
          injection hcsb with hcsb
          injection hcsb with _ hcsb
          revert hcsb
          decide)
        have hsep : ∀ b, _ → b < w7.heap.size := fun b e => (World.ownsRow.lt HO7.out b e).2
        have HN8 := Lib.hid (hnew trivial); have HO8 := Lib.hid hO8; have HB8 := Lib.hid hB8; have HSEP := Lib.hid hsep
        clear hnew hO8 hB8 hsep hg8 HC7 HO7 HKR f0 f1 f2 f3 f4 f5 f6 f7 f8 hcsb
        obtain ⟨f0, f1, f2, f3, f4, f5, f6, f7, f8⟩ := Blk.ens (x := y) hkr8
        have hbs := fun W => bs_en7 y.ev.kind y.ev.day y.ev.value y.ev.id y.ev.name y.ev.label y.ev.cur y.ev.term.val y.no hti W
        clear hkr8
        go_upto_region 11 with fail
        go_wp2_with (at_builtin; (refine append_any (w0 := w) rfl _ _ 71 59 _ 9 112 rfl Tryz.underlying71 info_en rfl (by decide) _ c.es.length (rowsE c.es) (some ⟨w8.heap.size, 0, none⟩) 1 1 y.row (HO8.out.below (bl_alloc (bl_refl _) _)) (bl_alloc HB8.out _) (Blk.new w8 y.cells 59).rd rfl rfl y.row_length HONE.out (by omega) (by omega) ?_); intro v1 w9 HO9 HB9 HG9)
        have hC8 := HN8.out.below (bl_alloc (bl_refl w8) (.cells y.cells 59))
        have hgne := HO8.out.ne_blk HN8.out.blk.choose_spec (by decide)
        have hC9 := (hC8.kept HG9 hgne HSEP.out).mono HB7.out.size
        have hO9 : Own w w9 59 9 v1 (c.es ++ [y]).length (rowsE (c.es ++ [y])) := by rw [rowsE_snoc, List.length_append]; exact HO9
        have hall : ∀ x ∈ c.es ++ [y], x.ev.small ∧ x.ev.same x.ev = true := fun x hx => by
          rcases List.mem_append.1 hx with h1 | h1
          · exact HCS.out x h1
          · obtain rfl := List.mem_singleton.1 h1
            exact ⟨HSM.out, HYY.out⟩
        have HALL := Lib.hid hall; have HO9' := Lib.hid hO9; have HC9 := Lib.hid hC9; have HB9' := Lib.hid HB9
        clear hall hO9 hC9 HB9 HO9 HG9 hgne hC8 HN8 HO8 HB8 HSEP f0 f1 f2 f3 f4 f5 f6 f7 f8 hbs
        go_roundw
        case rel => exact ⟨j + 1, ⟨c.key, c.es ++ [y], c.hs ++ [y.next c.key c.head]⟩, HK2.out, by simp; omega, HALL.out, by omega, by omega, by go_num, HO9'.out, HC9.out, HB9'.out⟩
        case measure => simp [intOf]; omega
      · have hadd : c.add y = (c, y.ev.check) := by
          unfold Ch.add
          rw [if_neg (by omega), if_neg hz]
        rw [hadd] at had
        have hzb : (y.ev.check == 0) = false := by simp [hz]
        generalize y.ev.check = er at *
        have HAD := Lib.hid had
        clear had hadd hz hok2
        go_wp2_with fail
        refine (HAD.out _ HC7.out (HT.out.below HB7.out)).mono ?_
        rintro en w8 ⟨rfl, hC8, hg8, -⟩
        obtain ⟨csb, hcsb⟩ := HC7.out.blk
        have HC8 := Lib.hid hC8; have HO8 := Lib.hid (HO7.out.kept hg8 (.inr (HO7.out.ne_blk hcsb (by decide)))); have HB8 := Lib.hid (bl_gb HB7.out HG.out hg8)
        clear hC8 hg8 hcsb HC7 HO7 HB7 HKR f0 f1 f2 f3 f4 f5 f6 f7 f8
        go_wp2_with fail
        go_roundw
        case rel => exact ⟨j + 1, c, HCO.out, by omega, HCS.out, by omega, by omega, by go_num, HO8.out, HC8.out, HB8.out⟩
        case measure => simp [intOf]; omega
    · rw [show decide (j < lc ∧ j < 12) = false from decide_eq_false hlt]
      have hen := fun W hW => centries_calls w g c hco W hW
      have hln := fun W hW => clen_calls w g c hco W hW
      unfold RetOwn at hen
      have hmx := hco.max
      obtain ⟨A1, c1, rfl, -, -, -⟩ := hO.read
      clear hlt hcl HML HMS HMR HBL HBR hco
      generalize hes : c.es = es at *
      have hcn : ∃ n, es.length = n := ⟨_, rfl⟩
      obtain ⟨n, hn⟩ := hcn
      rw [hn] at hen hln hmx hO ⊢
      have HEN := Lib.hid hen; have HLN := Lib.hid hln; have HO := Lib.hid hO; have HC := Lib.hid hC; have HB := Lib.hid hB; have HCS := Lib.hid hcs0; have HN := Lib.hid hn
      clear hen hln hO hC hB hcs0 hes hn
      go_wp2_with fail
      refine (HEN.out _ HC.out).mono ?_
      rintro en w4 ⟨v, rfl, hO4, hb4⟩
      obtain ⟨A4, c4, rfl, -, -, -⟩ := hO4.read
      have hg0 : 0 < n → ∃ gb cur, A4 = some ⟨gb, 0, none⟩ ∧ wr.heap.size ≤ gb ∧ Blk w4 gb cur 59 ∧ n * 9 ≤ cur.size ∧ RowsFrom es cur 0 := fun h => by
        obtain ⟨gb, cap, cur, e, h1, h2, h3, h4⟩ := hO4.blkC h
        injection e with e1 _ _
        exact ⟨gb, cur, e1, h1, h2, h3, RowsFrom.of h4⟩
      have HG0 := Lib.hid hg0; have HB4 := Lib.hid hb4
      clear hg0 hO4 hb4
      go_wp2_with fail
      go_loopw [13, 68] (fun _ s wx => ∃ i : Nat, i ≤ n ∧ s = .int .i64 i ∧ Below wr.heap.size wr wx ∧ (i < n → ∃ gb cur, A4 = some ⟨gb, 0, none⟩ ∧ wr.heap.size ≤ gb ∧ Blk wx gb cur 59 ∧ n * 9 ≤ cur.size ∧ RowsFrom es cur i)) (fun _ s _ => n - (intOf s).toNat)
      case atStart => exact ⟨0, by omega, rfl, HB4.out, HG0.out⟩
      case round =>
        clear HG0 HB4
        obtain ⟨i, hi, rfl, hB, hG⟩ := hrel
        rename World => wx
        by_cases hin : i < n
        · obtain ⟨gb, cur, rfl, hgb, hkb, hsz, hrf⟩ := hG hin
          clear hG
          obtain ⟨y, hy⟩ : ∃ y, es[i]? = some y := ⟨_, List.getElem?_eq_getElem (by rw [HN.out]; exact hin)⟩
          obtain ⟨hys, hyy⟩ := HCS.out y (List.mem_of_getElem? hy)
          obtain ⟨gw, capw, curw, ew, -, hkw0, hszw, hrw⟩ := HO.out.blkC (by omega)
          cases ew
          have hkw := hkw0.below hB
          have hra : wx.rangeAt gb (i * 9) [.int .i64 y.ev.kind, .string y.ev.id, .string y.ev.name, .string y.ev.label, .string y.ev.cur, .int .i64 y.ev.day, .int .i64 y.ev.value, y.ev.term.val, .bool y.no] := hrf.range hkb hy
          have hrb : wx.rangeAt gw (i * 9) [.int .i64 y.ev.kind, .string y.ev.id, .string y.ev.name, .string y.ev.label, .string y.ev.cur, .int .i64 y.ev.day, .int .i64 y.ev.value, y.ev.term.val, .bool y.no] := (show RowsFrom es curw i from fun p y hp => RowsFrom.of hrw p y (Nat.zero_le _)).range hkw hy
          have hra8 : wx.cell? ⟨gb, i * 9 + 8, none⟩ = some (.bool y.no) := hra 8 _ rfl
          have hrb8 : wx.cell? ⟨gw, i * 9 + 8, none⟩ = some (.bool y.no) := hrb 8 _ rfl
          have hra7 : wx.rangeAt gb (i * 9) [.int .i64 y.ev.kind, .string y.ev.id, .string y.ev.name, .string y.ev.label, .string y.ev.cur, .int .i64 y.ev.day, .int .i64 y.ev.value, y.ev.term.val] := range_init hra
          have hrb7 : wx.rangeAt gw (i * 9) [.int .i64 y.ev.kind, .string y.ev.id, .string y.ev.name, .string y.ev.label, .string y.ev.cur, .int .i64 y.ev.day, .int .i64 y.ev.value, y.ev.term.val] := range_init hrb
          have hsame := fun W => esame_calls y.ev y.ev hys.ok hys.ok W
          rw [hyy] at hsame
          unfold Ev.val at hsame
          have hi0 : (0 : Int) ≤ (i : Int) := by omega
          have hi1 : (i : Int) < (n : Int) := by omega
          have HSAME := Lib.hid hsame; have HRF := Lib.hid hrf; have HKB := Lib.hid hkb; have HBX := Lib.hid hB; have HR := Lib.hid (And.intro hra7 (And.intro hrb7 (And.intro hra8 hrb8))); have HSZ := Lib.hid hsz
          clear hsame hrf hkb hB hra hrb hra8 hrb8 hra7 hrb7 hkw hkw0 hszw hrw hyy hys hsz
          go_upto_region 18 with fail
          go_cut [95] (fun v wy => v = .bool false ∧ Below wx.heap.size wx wy)
          case first =>
            refine wp_region_noPanic ?_
            refine wp_region_held_drew (S := fun w' => w'.rangeAt gb (i * 9) [.int .i64 y.ev.kind, .string y.ev.id, .string y.ev.name, .string y.ev.label, .string y.ev.cur, .int .i64 y.ev.day, .int .i64 y.ev.value, y.ev.term.val] ∧ w'.rangeAt gw (i * 9) [.int .i64 y.ev.kind, .string y.ev.id, .string y.ev.name, .string y.ev.label, .string y.ev.cur, .int .i64 y.ev.day, .int .i64 y.ev.value, y.ev.term.val] ∧ w'.cell? ⟨gb, i * 9 + 8, none⟩ = some (.bool y.no) ∧ w'.cell? ⟨gw, i * 9 + 8, none⟩ = some (.bool y.no)) (by kernel_rfl) HR.out (fun hHeld => ?_)
            refine wpAnyH_world (fun W => Below wx.heap.size wx W) (bl_drew (bl_refl _)) (fun W2 hb2 => ?_)
            refine wpAnyH_lst #[false, false, false, false, false, false, false, false, false, false, false, false, false, false, false, false, false, false, false, false, false, false, false, false, false] (by rfl) ?_
            clear hHeld
            refine wpAnyH_named (fun A0 hA0 => ?_)
            have HA0 := Lib.hid hA0
            refine sp_in A0 [71, 72, 73, 74, 75, 76, 77, 78, 79, 80, 81, 82, 83, 84, 85, 86, 87, 88, 89, 90, 91, 92, 93, 94, 95] 162 [(12, .slice (some ⟨gb, 0, none⟩) n c4), (13, .int .i64 i), (6, .slice (some ⟨gw, 0, none⟩) n c1)] (by rw [hA0]; rfl) ⟨rat_below HR.out.1 (hb2), rat_below HR.out.2.1 (hb2), cell_below (hb2) HR.out.2.2.1, cell_below (hb2) HR.out.2.2.2⟩ (by rw [hA0]; exact ⟨rfl, rfl, rfl, trivial⟩) ?_
            clear hA0
            refine st 0 [12] rfl ?_
            refine st 1 [13] rfl ?_
            refine st (v := .pointer (some ⟨gb, i * 9, none⟩)) 2 [71, 72] rfl ?_
            refine st (v := .pointer (some ⟨gb, i * 9, none⟩)) 3 [73] rfl ?_
            refine sl 4 74 rfl gb (i * 9) [.int .i64 y.ev.kind, .string y.ev.id, .string y.ev.name, .string y.ev.label, .string y.ev.cur, .int .i64 y.ev.day, .int .i64 y.ev.value, y.ev.term.val] _ (fun w h => h.1) Tryz.underlying30 size_ev8 ?_
            refine st 5 [6] rfl ?_
            refine st 6 [13] rfl ?_
            refine st (v := .pointer (some ⟨gw, i * 9, none⟩)) 7 [76, 77] rfl ?_
            refine st (v := .pointer (some ⟨gw, i * 9, none⟩)) 8 [78] rfl ?_
            refine sl 9 79 rfl gw (i * 9) [.int .i64 y.ev.kind, .string y.ev.id, .string y.ev.name, .string y.ev.label, .string y.ev.cur, .int .i64 y.ev.day, .int .i64 y.ev.value, y.ev.term.val] _ (fun w h => h.2.1) Tryz.underlying30 size_ev8 ?_
            refine sr 10 (sc 10 [75, 80] rfl (HSAME.out _) ?_)
            rintro en W3 ⟨rfl, hb⟩
            replace hb2 := bl_step hb hb2
            refine ⟨_, rfl, ⟨rat_below HR.out.1 (hb2), rat_below HR.out.2.1 (hb2), cell_below (hb2) HR.out.2.2.1, cell_below (hb2) HR.out.2.2.2⟩, ?_⟩
            clear hb
            refine st 11 [81] rfl ?_
            refine st 12 [82] rfl ?_
            refine st 13 [12] rfl ?_
            refine st 14 [13] rfl ?_
            refine st (v := .pointer (some ⟨gb, i * 9, none⟩)) 15 [84, 85] rfl ?_
            refine st (v := .pointer (some ⟨gb, i * 9 + 8, none⟩)) 16 [86] rfl ?_
            refine st 17 [87] rfl ?_
            refine st 18 [6] rfl ?_
            refine st 19 [13] rfl ?_
            refine st (v := .pointer (some ⟨gw, i * 9, none⟩)) 20 [89, 90] rfl ?_
            refine st (v := .pointer (some ⟨gw, i * 9 + 8, none⟩)) 21 [91] rfl ?_
            refine st 22 [92] rfl ?_
            refine st (v := .bool false) 23 [88, 93] rfl ?_
            refine st (v := .bool false) 24 [83, 94] rfl ?_
            refine sp_done (fun A hO hN hS => NoPanic.normal ?_)
            obtain ⟨fo, hfo⟩ := hO.lit HA0.out
            have g95 := hN.get 95 rfl
            clear hO hN
            dsimp only [putL, List.set_cons_zero, List.set_cons_succ] at hfo
            subst hfo
            have g95 : fo 95 = .bool false := g95
            go_wp2_with fail
            go_meet
            exact ⟨rfl, hb2⟩
          obtain ⟨rfl, hby⟩ := hcut
          rename World => wy
          have hbool := cell_below hby HR.out.2.2.2
          have hthere := (HKB.out.below hby).there (o := i * 9) (n := 9) (by have := HSZ.out; omega)
          have hbp := run_bd_Pass
          have hbn := fun b W => run_bd_En3 1 0 0 ⟨#[]⟩ ⟨#[]⟩ ⟨#[]⟩ ⟨#[]⟩ .nilIface b (.inl rfl) W
          have hbo := passV_one (!y.no)
          have HBY := Lib.hid hby; have HTH := Lib.hid hthere
          clear hby hthere HSAME
          go_upto_region 20 with fail
          go_wp2_with (refine wpList_store_mid rfl 59 _ _ rfl gb (i * 9) ?cells ?hx ?hy ?ht ?hi ?h1 ?h)
          case hx => rfl
          case hy => rfl
          case ht => exact HTH.out
          case hi => exact size_en
          case h1 => exact hbo
          have hst := (HKB.out.below HBY.out).setCells [.int .i64 1, .string ⟨#[]⟩, .string ⟨#[]⟩, .string ⟨#[]⟩, .string ⟨#[]⟩, .int .i64 0, .int .i64 0, .nilIface, .bool (!y.no)] (i * 9) (by have := HSZ.out; simp; omega)
          obtain ⟨cur2, hk2, hs2, hr2⟩ := hst
          have hB2 := bl_grown (bl_step HBY.out HBX.out) (gb_setCells [.int .i64 1, .string ⟨#[]⟩, .string ⟨#[]⟩, .string ⟨#[]⟩, .string ⟨#[]⟩, .int .i64 0, .int .i64 0, .nilIface, .bool (!y.no)] (i * 9) wy) hgb
          have hrf2 : RowsFrom es cur2 (i + 1) := fun p z hp hz j hj => by
            rw [hr2 _ (by simp; omega)]
            exact HRF.out p z (by omega) hz j hj
          have HK2 := Lib.hid hk2; have HB2 := Lib.hid hB2; have HRF2 := Lib.hid hrf2; have HS2 := Lib.hid (show n * 9 ≤ cur2.size by rw [hs2]; exact HSZ.out)
          clear hk2 hB2 hrf2 hs2 hr2 hbool hbp hbn hbo
          refine ⟨⟨i + 1, by omega, by go_num, HB2.out, fun _ => ⟨gb, cur2, rfl, hgb, HK2.out, HS2.out, HRF2.out⟩⟩, ?_⟩
          simp [intOf]; omega
        · obtain rfl : i = n := by omega
          clear hG
          have HBX := Lib.hid hB
          clear hB
          have hC5 := HC.out.below HBX.out
          have hO5 := HO.out.below HBX.out
          go_wp2_with fail
          refine (HEN.out _ hC5).mono ?_
          rintro en w5 ⟨v5, rfl, hO6, hb5⟩
          obtain ⟨A5, c5, rfl, -, -, -⟩ := hO6.read
          have HC6 := Lib.hid (hC5.below hb5); have HOW := Lib.hid (hO5.below hb5); have HOA := Lib.hid hO6; have HB6 := Lib.hid (bl_step hb5 (bl_step HBX.out HB.out))
          clear hC5 hO5 hO6 hb5
          go_wp2_with fail
          go_loopw [15, 112] (fun _ s wx => ∃ p : Nat, p ≤ i ∧ s = .int .i64 p ∧ Below w5.heap.size w5 wx) (fun _ s _ => i - (intOf s).toNat)
          case atStart => exact ⟨0, by omega, rfl, bl_refl _⟩
          case round =>
            obtain ⟨p, hp, rfl, hB⟩ := hrel
            rename World => wz
            by_cases hpi : p < i
            · obtain ⟨y, hy⟩ : ∃ y, es[p]? = some y := ⟨_, List.getElem?_eq_getElem (by rw [HN.out]; exact hpi)⟩
              obtain ⟨hys, hyy⟩ := HCS.out y (List.mem_of_getElem? hy)
              obtain ⟨gw, capw, curw, ew, -, hkw0, -, hrw⟩ := HOW.out.blkC (by omega)
              cases ew
              obtain ⟨gb, capb, curb, eb, -, hkb0, -, hrb0⟩ := HOA.out.blkC (by omega)
              cases eb
              have hkw := hkw0.below hB
              have hkb := hkb0.below hB
              have hra : wz.rangeAt gb (p * 9) [.int .i64 y.ev.kind, .string y.ev.id, .string y.ev.name, .string y.ev.label, .string y.ev.cur, .int .i64 y.ev.day, .int .i64 y.ev.value, y.ev.term.val, .bool y.no] := (show RowsFrom es curb p from fun q y hq => RowsFrom.of hrb0 q y (Nat.zero_le _)).range hkb hy
              have hrb : wz.rangeAt gw (p * 9) [.int .i64 y.ev.kind, .string y.ev.id, .string y.ev.name, .string y.ev.label, .string y.ev.cur, .int .i64 y.ev.day, .int .i64 y.ev.value, y.ev.term.val, .bool y.no] := (show RowsFrom es curw p from fun q y hq => RowsFrom.of hrw q y (Nat.zero_le _)).range hkw hy
              have hra8 : wz.cell? ⟨gb, p * 9 + 8, none⟩ = some (.bool y.no) := hra 8 _ rfl
              have hrb8 : wz.cell? ⟨gw, p * 9 + 8, none⟩ = some (.bool y.no) := hrb 8 _ rfl
              have hra7 : wz.rangeAt gb (p * 9) [.int .i64 y.ev.kind, .string y.ev.id, .string y.ev.name, .string y.ev.label, .string y.ev.cur, .int .i64 y.ev.day, .int .i64 y.ev.value, y.ev.term.val] := range_init hra
              have hrb7 : wz.rangeAt gw (p * 9) [.int .i64 y.ev.kind, .string y.ev.id, .string y.ev.name, .string y.ev.label, .string y.ev.cur, .int .i64 y.ev.day, .int .i64 y.ev.value, y.ev.term.val] := range_init hrb
              have hsame := fun W => esame_calls y.ev y.ev hys.ok hys.ok W
              rw [hyy] at hsame
              unfold Ev.val at hsame
              have hi0 : (0 : Int) ≤ (p : Int) := by omega
              have hi1 : (p : Int) < (i : Int) := by omega
              have hi2 : ¬ ((i : Int) ≤ (p : Int)) := by omega
              have HSAME := Lib.hid hsame; have HBZ := Lib.hid hB; have HR := Lib.hid (And.intro hra7 (And.intro hrb7 (And.intro hra8 hrb8)))
              clear hsame hkb hB hra hrb hra8 hrb8 hra7 hrb7 hkw hkw0 hrw hyy hys hkb0 hrb0
              go_upto_region 26 with fail
              go_cut [145] (fun v wy => v = .bool false ∧ Below wz.heap.size wz wy)
              case first =>
                refine wp_region_noPanic ?_
                refine wp_region_held_drew (S := fun w' => w'.rangeAt gb (p * 9) [.int .i64 y.ev.kind, .string y.ev.id, .string y.ev.name, .string y.ev.label, .string y.ev.cur, .int .i64 y.ev.day, .int .i64 y.ev.value, y.ev.term.val] ∧ w'.rangeAt gw (p * 9) [.int .i64 y.ev.kind, .string y.ev.id, .string y.ev.name, .string y.ev.label, .string y.ev.cur, .int .i64 y.ev.day, .int .i64 y.ev.value, y.ev.term.val] ∧ w'.cell? ⟨gb, p * 9 + 8, none⟩ = some (.bool y.no) ∧ w'.cell? ⟨gw, p * 9 + 8, none⟩ = some (.bool y.no)) (by kernel_rfl) HR.out (fun hHeld => ?_)
                refine wpAnyH_world (fun W => Below wz.heap.size wz W) (bl_drew (bl_refl _)) (fun W2 hb2 => ?_)
                refine wpAnyH_lst #[false, false, false, false, false, false, false, false, false, false, false, false, false, false, false, false, false, false, false, false, false, false, false, false, false, false, false, false, false, false, false] (by rfl) ?_
                clear hHeld
                refine wpAnyH_named (fun A0 hA0 => ?_)
                have HA0 := Lib.hid hA0
                refine sp_in A0 [115, 116, 117, 118, 119, 120, 121, 122, 123, 124, 125, 126, 127, 128, 129, 130, 131, 132, 133, 134, 135, 136, 137, 138, 139, 140, 141, 142, 143, 144, 145] 162 [(14, .slice (some ⟨gb, 0, none⟩) i c5), (15, .int .i64 p), (6, .slice (some ⟨gw, 0, none⟩) i c1)] (by rw [hA0]; rfl) ⟨rat_below HR.out.1 (hb2), rat_below HR.out.2.1 (hb2), cell_below (hb2) HR.out.2.2.1, cell_below (hb2) HR.out.2.2.2⟩ (by rw [hA0]; exact ⟨rfl, rfl, rfl, trivial⟩) ?_
                clear hA0
                refine st 0 [15] rfl ?_
                refine st 1 [6] rfl ?_
                refine st 2 [116] rfl ?_
                refine st (v := .bool false) 3 [115, 117] rfl ?_
                refine st 4 [118] rfl ?_
                refine st 5 [14] rfl ?_
                refine st 6 [15] rfl ?_
                refine st (v := .pointer (some ⟨gb, p * 9, none⟩)) 7 [120, 121] rfl ?_
                refine st (v := .pointer (some ⟨gb, p * 9, none⟩)) 8 [122] rfl ?_
                refine sl 9 123 rfl gb (p * 9) [.int .i64 y.ev.kind, .string y.ev.id, .string y.ev.name, .string y.ev.label, .string y.ev.cur, .int .i64 y.ev.day, .int .i64 y.ev.value, y.ev.term.val] _ (fun w h => h.1) Tryz.underlying30 size_ev8 ?_
                refine st 10 [6] rfl ?_
                refine st 11 [15] rfl ?_
                refine st (v := .pointer (some ⟨gw, p * 9, none⟩)) 12 [125, 126] rfl ?_
                refine st (v := .pointer (some ⟨gw, p * 9, none⟩)) 13 [127] rfl ?_
                refine sl 14 128 rfl gw (p * 9) [.int .i64 y.ev.kind, .string y.ev.id, .string y.ev.name, .string y.ev.label, .string y.ev.cur, .int .i64 y.ev.day, .int .i64 y.ev.value, y.ev.term.val] _ (fun w h => h.2.1) Tryz.underlying30 size_ev8 ?_
                refine sr 15 (sc 15 [124, 129] rfl (HSAME.out _) ?_)
                rintro en W3 ⟨rfl, hb⟩
                replace hb2 := bl_step hb hb2
                refine ⟨_, rfl, ⟨rat_below HR.out.1 (hb2), rat_below HR.out.2.1 (hb2), cell_below (hb2) HR.out.2.2.1, cell_below (hb2) HR.out.2.2.2⟩, ?_⟩
                clear hb
                refine st 16 [130] rfl ?_
                refine st (v := .bool false) 17 [119, 131] rfl ?_
                refine st 18 [132] rfl ?_
                refine st 19 [14] rfl ?_
                refine st 20 [15] rfl ?_
                refine st (v := .pointer (some ⟨gb, p * 9, none⟩)) 21 [134, 135] rfl ?_
                refine st (v := .pointer (some ⟨gb, p * 9 + 8, none⟩)) 22 [136] rfl ?_
                refine st 23 [137] rfl ?_
                refine st 24 [6] rfl ?_
                refine st 25 [15] rfl ?_
                refine st (v := .pointer (some ⟨gw, p * 9, none⟩)) 26 [139, 140] rfl ?_
                refine st (v := .pointer (some ⟨gw, p * 9 + 8, none⟩)) 27 [141] rfl ?_
                refine st 28 [142] rfl ?_
                refine st (v := .bool false) 29 [138, 143] rfl ?_
                refine st (v := .bool false) 30 [133, 144] rfl ?_
                refine sp_done (fun A hO hN hS => NoPanic.normal ?_)
                obtain ⟨fo, hfo⟩ := hO.lit HA0.out
                have g145 := hN.get 145 rfl
                clear hO hN
                dsimp only [putL, List.set_cons_zero, List.set_cons_succ] at hfo
                subst hfo
                have g145 : fo 145 = .bool false := g145
                go_wp2_with fail
                go_meet
                exact ⟨rfl, hb2⟩
              obtain ⟨rfl, hby⟩ := hcut
              have HB7 := Lib.hid (bl_step hby HBZ.out)
              clear hby HSAME HR hi0 hi1 hi2
              go_wp2_with fail
              go_roundw
              case rel => exact ⟨p + 1, by omega, by go_num, HB7.out⟩
              case measure => simp [intOf]; omega
            · obtain rfl : p = i := by omega
              have HB7 := Lib.hid hB
              clear hB
              go_wp2_with fail
              refine (HLN.out _ (HC6.out.below HB7.out)).mono ?_
              rintro en w8 ⟨rfl, hb8⟩
              have HB8 := Lib.hid (bl_step hb8 (bl_step HB7.out HB6.out))
              clear hb8
              go_wp2_with fail
              refine (wakes13_calls _ (HT.out.below HB8.out)).mono ?_
              rintro en w9 ⟨rfl, hb⟩
              go_wp2_with fail
              go_ret
              exact ⟨rfl, bl_step hb HB8.out⟩
end Go.Proofs.YtapbkomicihkkaaGreatDoor
