/- A fixing; a settlement. -/
import Derived.Test.YtnekcijganhknaaGreatDoorLdgG
import Derived.Test.YtnekcijganhknaaGreatDoorEventG
namespace Go.Proofs.YtnekcijganhknaaGreatDoor
open Go.RowKit
set_option linter.unusedVariables false
set_option linter.unusedSimpArgs false

theorem anyTo_dl (l : List Dl) (id : ByteArray) : anyTo (isDl l id) l.length = l.any (·.id.toList == id.toList) := by
  rw [Bool.eq_iff_iff]
  unfold anyTo
  simp only [List.any_eq_true, List.mem_range]
  constructor
  · rintro ⟨j, hj, h⟩
    refine ⟨l[j], List.getElem_mem hj, ?_⟩
    unfold isDl at h
    rw [List.getElem?_eq_getElem hj] at h
    exact h
  · rintro ⟨x, hx, h⟩
    obtain ⟨j, hj, rfl⟩ := List.getElem_of_mem hx
    refine ⟨j, hj, ?_⟩
    unfold isDl
    rw [List.getElem?_eq_getElem hj] at *
    exact h
theorem dlf_t {A : Option Addr} {c : Nat} {l : List Dl} (hl : ∀ d ∈ l, d.term.ok) (hn : l.length ≤ 1000) (r : Nat) (id : ByteArray) (W : World) (hr : Rd W A (rowsD l)) (hc : W.cell? ⟨r, 1, none⟩ = some (.string id)) :
    Calls Tryz.prog 104 #[.slice A l.length c, .func (.func 103) #[] #[.pointer (some ⟨r, 0, none⟩)]] W (RetIdx W (isDl l id) l.length) := by
  refine dlfind _ hcall_dlt _ A l.length c l rfl _ W hr (by omega) (fun j x hx W2 hb => ?_)
  have h := dlid_t x (hl x (List.mem_of_getElem? hx)) r id W2 (cell_below hb hc)
  unfold isDl
  rw [hx]
  exact h
theorem dlf_c {A : Option Addr} {c : Nat} {l : List Dl} (hl : ∀ d ∈ l, d.term.ok) (hn : l.length ≤ 1000) (r : Nat) (id : ByteArray) (W : World) (hr : Rd W A (rowsD l)) (hc : W.cell? ⟨r, 1, none⟩ = some (.string id)) :
    Calls Tryz.prog 104 #[.slice A l.length c, .func (.func 105) #[] #[.pointer (some ⟨r, 0, none⟩)]] W (RetIdx W (isDl l id) l.length) := by
  refine dlfind _ hcall_dlc _ A l.length c l rfl _ W hr (by omega) (fun j x hx W2 hb => ?_)
  have h := dlid_c x (hl x (List.mem_of_getElem? hx)) r id W2 (cell_below hb hc)
  unfold isDl
  rw [hx]
  exact h
set_option maxRecDepth 100000 in
set_option maxHeartbeats 1000000 in
theorem dlhas_calls {A : Option Addr} {c : Nat} {l : List Dl} (hl : ∀ d ∈ l, d.term.ok) (hn : l.length ≤ 1000) (r : Nat) (id : ByteArray) (W : World) (hr : Rd W A (rowsD l)) (hc : W.cell? ⟨r, 1, none⟩ = some (.string id)) :
    Calls Tryz.prog 102 #[.slice A l.length c, .func (.func 103) #[] #[.pointer (some ⟨r, 0, none⟩)]] W fun e w' => e = .returned (.bool (l.any (·.id.toList == id.toList))) ∧ Below W.heap.size W w' := by
  have hi := dlf_t (A := A) (c := c) hl hn r id W hr hc
  have HI := Lib.hid hi
  have HE := Lib.hid (anyTo_dl l id)
  clear hr hc hi hl
  rw [← HE.out]
  go_enter Tryz.func102, Tryz.ntmps102
  go_wp2_with (refine HI.out.mono ?_; intro e w1 hq; obtain ⟨r, rfl, h0, h1, h2, hb⟩ := hq)
  have H1 := Lib.hid h1; have H2 := Lib.hid h2
  clear h1 h2 HI
  by_cases hr : 0 ≤ r
  · go_wp2
    go_ret
    obtain ⟨j, hj, _, hpj, _⟩ := H2.out hr
    refine ⟨ret_boolS ?_, hb⟩
    rw [anyTo_true hj hpj]
    simpa using hr
  · go_wp2
    go_ret
    refine ⟨ret_boolS ?_, hb⟩
    rw [H1.out (by omega)]
    simpa using hr
/-- What a step on a ledger of one's own leaves. -/
def StepPost (w0 : World) (b : Nat) (q : Lg × Int) (en : Ending) (w' : World) : Prop := en = .returned (.int .i64 q.2) ∧ (q.2 = 0 → LgAt w0 w' b q.1) ∧ Below w0.heap.size w0 w'
theorem StepPost.bad {w0 w' : World} {b : Nat} {l : Lg} {k : Int} (hk : k ≠ 0) (hb : Below w0.heap.size w0 w') : StepPost w0 b (l, k) (.returned (.int .i64 k)) w' := ⟨rfl, fun h => absurd h hk, hb⟩
section
variable {w0 W W1 : World} {b : Nat} {l : Lg} {vd : Value} {bw g1 g2 gp : Nat}
theorem LgIn.ne_bw (h : LgIn w0 W b l vd bw g1 g2 gp) : b ≠ bw := h.blk.no_ty h.wd.blk (by decide)
theorem LgIn.setDeals (h : LgIn w0 W b l vd bw g1 g2 gp) {ds : List Dl} {v : Value} (ho : Own w0 W 133 3 v ds.length (rowsD ds)) : LgIn w0 (W.setCell ⟨b, 1, none⟩ v) b ⟨l.day, ds, l.w, l.paid⟩ v bw g1 g2 gp := by
  have hg : W.grownBy (W.setCell ⟨b, 1, none⟩ v) (some b) := gb_set 1 v
  exact ⟨h.blk.set 1 v, ho.kept hg (.inr (ho.ne_blk h.blk (by decide))), h.wd.grown hg (fun e => by injection e with e; exact h.ne_bw e) (fun e => by injection e with e; exact MapAt.no_blk h.wd.fx h.blk e) (fun e => by injection e with e; exact MapAt.no_blk h.wd.pk h.blk e), MapAt.kept h.pd hg (fun e => by injection e with e; exact MapAt.no_blk h.pd h.blk e.symm), h.n1, h.n2, h.ng, h.nb⟩
theorem LgIn.setDay (h : LgIn w0 W b l vd bw g1 g2 gp) (d : Int) : LgIn w0 (W.setCell ⟨b, 0, none⟩ (.int .i64 d)) b ⟨d, l.deals, l.w, l.paid⟩ vd bw g1 g2 gp := by
  have hg : W.grownBy (W.setCell ⟨b, 0, none⟩ (.int .i64 d)) (some b) := gb_set 0 _
  exact ⟨h.blk.set 0 _, h.dl.kept hg (.inr (h.dl.ne_blk h.blk (by decide))), h.wd.grown hg (fun e => by injection e with e; exact h.ne_bw e) (fun e => by injection e with e; exact MapAt.no_blk h.wd.fx h.blk e) (fun e => by injection e with e; exact MapAt.no_blk h.wd.pk h.blk e), MapAt.kept h.pd hg (fun e => by injection e with e; exact MapAt.no_blk h.pd h.blk e.symm), h.n1, h.n2, h.ng, h.nb⟩
end
theorem info_ev1 : (Tryz.prog.info? 40).map (·.size) = some 8 := by kernel_rfl
theorem bs_dl (d : Dl) (hd : IsI d.term.val) (W : World) : (Instr.buildSlice 87 1 #[(0, .agg #[.string d.id, .int .i64 d.day, d.term.val])]).run Tryz.prog W = .ok (.slice (some ⟨W.heap.size, 0, none⟩) 1 1) (W.alloc (.cells #[.string d.id, .int .i64 d.day, d.term.val] 133)) := by
  rcases hd with h | ⟨_, _, h⟩ <;> rw [h] <;> kernel_rfl
@[go_sem ↓] theorem bd_Deal (parts : Array (Nat × Value)) : Instr.build 133 parts = bdN 133 parts := rfl
theorem bd_dl (d : Dl) (hd : IsI d.term.val) (W : World) : (bdN 133 #[(0, .string d.id), (1, .int .i64 d.day), (2, d.term.val)]).run Tryz.prog W = .ok (.agg #[.string d.id, .int .i64 d.day, d.term.val]) W := by
  rcases hd with h | ⟨_, _, h⟩ <;> rw [h] <;> kernel_rfl
set_option maxRecDepth 100000 in
set_option maxHeartbeats 4000000 in
theorem trade_calls {w0 w : World} {b : Nat} {l : Lg} {m : Nat} (ho : l.ok m) (h : LgAt w0 w b l) (hb : Below w0.heap.size w0 w) (e : Ev) (he : e.ok) (hm : e.term.meas ≤ 1099511627776) (hid : e.id.size ≤ 1000000) :
    Calls Tryz.prog 65 #[.pointer (some ⟨b, 0, none⟩), e.val] w (StepPost w0 b (l.trade e)) := by
  obtain ⟨vd, bw, g1, g2, gp, h⟩ := h
  obtain ⟨A, c, rfl, hA, -, -⟩ := h.dl.read
  have hc7 := e.term.cells_ he.term; have ho7 := e.term.one_ he.term
  obtain ⟨W1, hW1⟩ : ∃ W1, w.alloc (.cells e.cells 40) = W1 := ⟨_, rfl⟩
  have hb1 : Below w.heap.size w W1 := by rw [← hW1]; exact bl_alloc (bl_refl w) _
  have hk1 : Blk W1 w.heap.size e.cells 40 := by rw [← hW1]; exact Blk.new w _ _
  have hmx := ho.max
  have HT : Hid (l.trade e = if l.deals.any (·.id.toList == e.id.toList) then (l, 4) else if 8 ≤ l.deals.length then (l, 5) else if (e.term.cash e.id l.day l.w).2 ≠ 0 then (l, (e.term.cash e.id l.day l.w).2) else (⟨l.day, l.deals ++ [⟨e.id, l.day, e.term⟩], l.w, l.paid⟩, 0)) := rfl
  have HA := Lib.hid hA; have HLG := Lib.hid h; have HG := Lib.hid h.blk; have HOK := Lib.hid ho; have HW1 := Lib.hid hW1; have HB1 := Lib.hid hb1; have HK1 := Lib.hid hk1; have HB := Lib.hid hb
  have HDO : Hid (∀ d ∈ l.deals, d.term.ok) := fun d hd => (ho.deals d hd).1
  have HTO := Lib.hid he.term
  generalize l.trade e = q at *
  clear hA h ho hW1 hb1 hk1 hb he
  unfold StepPost Ev.val
  unfold Ev.cells at *
  cases hany : l.deals.any (·.id.toList == e.id.toList) with
  | true =>
    have HANY := Lib.hid hany
    have HQ : Hid (q = (l, 4)) := HT.out.trans (by rw [hany]; rfl)
    rw [HQ.out]
    clear HT HQ hany
    go_enter Tryz.func65, Tryz.ntmps65
    go_upto_region 1 with fail
    rw [HW1.out]
    have c11 := (HG.out.below HB1.out).cell 1
    go_wp2_with fail
    refine (dlhas_calls HDO.out (by omega) w.heap.size e.id W1 (HA.out.below HB1.out) (HK1.out.cell 1)).mono ?_
    rintro en w2 ⟨rfl, hb2⟩
    rw [HANY.out]
    have c12 := (HG.out.below (bl_step hb2 HB1.out)).cell 1
    go_wp2_with fail
    go_ret
    exact StepPost.bad (by decide) (bl_step hb2 (bl_step HB1.out HB.out))
  | false =>
    have HANY := Lib.hid hany
    have HT2 : Hid (q = if 8 ≤ l.deals.length then (l, 5) else if (e.term.cash e.id l.day l.w).2 ≠ 0 then (l, (e.term.cash e.id l.day l.w).2) else (⟨l.day, l.deals ++ [⟨e.id, l.day, e.term⟩], l.w, l.paid⟩, 0)) := HT.out.trans (by rw [hany]; rfl)
    clear hany HT
    by_cases h8 : 8 ≤ l.deals.length
    · have HQ : Hid (q = (l, 5)) := HT2.out.trans (if_pos h8)
      rw [HQ.out]
      clear HT2 HQ
      go_enter Tryz.func65, Tryz.ntmps65
      go_upto_region 1 with fail
      rw [HW1.out]
      have c11 := (HG.out.below HB1.out).cell 1
      go_wp2_with fail
      refine (dlhas_calls HDO.out (by omega) w.heap.size e.id W1 (HA.out.below HB1.out) (HK1.out.cell 1)).mono ?_
      rintro en w2 ⟨rfl, hb2⟩
      rw [HANY.out]
      have c12 := (HG.out.below (bl_step hb2 HB1.out)).cell 1
      go_wp2_with fail
      go_ret
      exact StepPost.bad (by decide) (bl_step hb2 (bl_step HB1.out HB.out))
    · have HT3 : Hid (q = if (e.term.cash e.id l.day l.w).2 ≠ 0 then (l, (e.term.cash e.id l.day l.w).2) else (⟨l.day, l.deals ++ [⟨e.id, l.day, e.term⟩], l.w, l.paid⟩, 0)) := HT2.out.trans (if_neg h8)
      have HCASH := fun W (hW : Below w.heap.size w W) => cash_calls w0 bw g1 g2 l.w e.id hid HOK.out.w e.term HTO.out hm l.day W (HLG.out.wd.below hW)
      clear HT2
      generalize e.term.cash e.id l.day l.w = z at *
      have HCA := Lib.hid HCASH
      clear HCASH
      unfold CashPost at HCA
      go_enter Tryz.func65, Tryz.ntmps65
      go_upto_region 1 with fail
      rw [HW1.out]
      have c11 := (HG.out.below HB1.out).cell 1
      go_wp2_with fail
      refine (dlhas_calls HDO.out (by omega) w.heap.size e.id W1 (HA.out.below HB1.out) (HK1.out.cell 1)).mono ?_
      rintro en w2 ⟨rfl, hb2⟩
      rw [HANY.out]
      have c12 := (HG.out.below (bl_step hb2 HB1.out)).cell 1
      have HB2 := Lib.hid (bl_step hb2 HB1.out)
      have HK2 := Lib.hid (HK1.out.below hb2)
      have HG2 := Lib.hid (HG.out.below HB2.out)
      clear hb2
      go_upto_region 5 with fail
      refine wp_region_noPanic ?_
      refine wp_region_held_drew (S := fun w' => w'.cell? ⟨b, 0, none⟩ = some (.int .i64 l.day) ∧ w'.cell? ⟨b, 2, none⟩ = some (.pointer (some ⟨bw, 0, none⟩)) ∧ w'.cell? ⟨w.heap.size, 1, none⟩ = some (.string e.id) ∧ w'.cell? ⟨w.heap.size, 7, none⟩ = some e.term.val) (by kernel_rfl) ⟨(HG2.out.below (bl_refl _)).cell 0, (HG2.out.below (bl_refl _)).cell 2, (HK2.out.below (bl_refl _)).cell 1, (HK2.out.below (bl_refl _)).cell 7⟩ (fun hHeld => ?_)
      refine wpAnyH_world (fun W => Below w2.heap.size w2 W) (bl_drew (bl_refl _)) (fun W5 hb5 => ?_)
      refine wpAnyH_lst #[false, false, false, false, false, false, false, false, false, false, false, false, false, false, false, false, false, false, false, false] (by rfl) ?_
      clear hHeld
      refine wpAnyH_named (fun A0 hA0 => ?_)
      have HA0 := Lib.hid hA0
      refine sp_in A0 [23, 24, 25, 26, 27, 28, 29, 30, 31, 32, 33, 34, 35, 22, 36, 37, 38, 5, 6, 7] 61 [(0, .pointer (some ⟨b, 0, none⟩)), (3, .pointer (some ⟨w.heap.size, 0, none⟩))] (by rw [hA0]; rfl) ⟨(HG2.out.below hb5).cell 0, (HG2.out.below hb5).cell 2, (HK2.out.below hb5).cell 1, (HK2.out.below hb5).cell 7⟩ (by rw [hA0]; exact ⟨rfl, rfl, trivial⟩) ?_
      clear hA0
      refine st 0 [3] rfl ?_
      refine st 2 [3] rfl ?_
      refine st 4 [0] rfl ?_
      refine st 8 [0] rfl ?_
      refine st 1 [23] rfl ?_
      refine st 3 [25] rfl ?_
      refine st 5 [27] rfl ?_
      refine st 9 [31] rfl ?_
      refine st 6 [28] rfl ?_
      refine st 10 [32] rfl ?_
      refine st 7 [29] rfl ?_
      refine st 11 [33] rfl ?_
      refine sr 12 (sc 12 [24, 26, 30, 34] rfl (HCA.out W5 (bl_step hb5 HB2.out)) ?_)
      rintro en W6 ⟨vf6, vw6, rfl, hf6, hw6, hb6⟩
      refine ⟨_, rfl, ⟨(HG2.out.below (bl_step hb6 hb5)).cell 0, (HG2.out.below (bl_step hb6 hb5)).cell 2, (HK2.out.below (bl_step hb6 hb5)).cell 1, (HK2.out.below (bl_step hb6 hb5)).cell 7⟩, ?_⟩
      refine st 13 [35] rfl ?_
      refine st 14 [22] rfl ?_
      refine st 15 [22] rfl ?_
      refine st 16 [22] rfl ?_
      refine st 17 [36] rfl ?_
      refine st 18 [37] rfl ?_
      refine st 19 [38] rfl ?_
      refine sp_done (fun A hO hN hS => NoPanic.normal ?_)
      obtain ⟨fo, hfo⟩ := hO.lit HA0.out
      have g5 := hN.get 5 rfl
      have g6 := hN.get 6 rfl
      have g7 := hN.get 7 rfl
      clear hO hN
      dsimp only [putL, List.set_cons_zero, List.set_cons_succ] at hfo
      subst hfo
      have g5 : fo 5 = vf6 := g5
      have g6 : fo 6 = vw6 := g6
      have g7 : fo 7 = .int .i64 z.2 := g7
      have HB26 := Lib.hid (bl_step hb6 hb5)
      have HB6 := Lib.hid (bl_step HB26.out HB2.out)
      clear hb6 hb5 hS hf6 hw6
      by_cases hz : z.2 = 0
      · have HQ : Hid (q = (⟨l.day, l.deals ++ [⟨e.id, l.day, e.term⟩], l.w, l.paid⟩, 0)) := HT3.out.trans (if_neg (by simp [hz]))
        rw [hz] at g7
        clear HT3 hz
        have hg6 := HG2.out.below HB26.out
        have hk6 := HK2.out.below HB26.out
        have c1 := hg6.cell 1
        have hii : IsI e.term.val := e.term.shape HTO.out
        have hbs := bs_dl ⟨e.id, l.day, e.term⟩ hii
        have hbd := bd_dl ⟨e.id, l.day, e.term⟩ hii
        have ho8 : e.term.ok := HTO.out
        have hcl := fun W hW => sclone_d A l.deals.length c (rowsD l.deals) (rowsD_length _) (rowsD_one HDO.out) (by omega) W hW
        have HCL := Lib.hid hcl
        clear hcl hii
        go_upto_region 8 with fail
        refine wp_region_noPanic ?_
        refine gt_in 19 (fun w' => w'.cell? ⟨b, 1, none⟩ = some (.slice A l.deals.length c) ∧ w'.cell? ⟨b, 0, none⟩ = some (.int .i64 l.day) ∧ w'.cell? ⟨b, 2, none⟩ = some (.pointer (some ⟨bw, 0, none⟩)) ∧ w'.cell? ⟨w.heap.size, 1, none⟩ = some (.string e.id) ∧ w'.cell? ⟨w.heap.size, 7, none⟩ = some e.term.val) [42, 43, 44, 45, 46, 47, 48, 49, 50, 51, 52, 53, 54, 55, 56, 57, 58, 59, 60] 61 [(0, .pointer (some ⟨b, 0, none⟩)), (3, .pointer (some ⟨w.heap.size, 0, none⟩))] (by kernel_rfl) ⟨(hg6.below (bl_drew (bl_refl _))).cell 1, (hg6.below (bl_drew (bl_refl _))).cell 0, (hg6.below (bl_drew (bl_refl _))).cell 2, (hk6.below (bl_drew (bl_refl _))).cell 1, (hk6.below (bl_drew (bl_refl _))).cell 7⟩ (fun A0 hA0 => ⟨by rw [hA0]; rfl, by rw [hA0]; exact ⟨rfl, rfl, trivial⟩, fun W7 hbW hCW => ?_⟩)
        refine gt_lst (lst := #[false, false, false, false, false, false, false, false, false, false, false, false, false, false, false, false, false, false, false, false]) (by rfl) ?_
        have HA0 := Lib.hid hA0
        clear hA0
        refine gt 0 [0] rfl ?_
        refine gt 1 [0] rfl ?_
        refine gt 6 [3] rfl ?_
        refine gt 8 [0] rfl ?_
        refine gt 12 [3] rfl ?_
        refine gt 2 [43] rfl ?_
        refine gt 7 [48] rfl ?_
        refine gt 9 [50] rfl ?_
        refine gt 13 [54] rfl ?_
        refine gt 3 [44] rfl ?_
        refine gt 10 [51] rfl ?_
        refine gt 4 [45] rfl ?_
        refine gt 11 [52] rfl ?_
        refine gt (v := .agg #[.string e.id, .int .i64 l.day, e.term.val]) 14 [49, 53, 55] rfl ?_
        refine gr2 5 15 ?_ ?_
        · refine gc 5 [46] rfl (HCL.out W7 ((HA.out.below HB6.out).below hbW)) ?_
          rintro en W8 ⟨v8, rfl, hO8, hb8⟩
          obtain ⟨A8, c8, rfl, -, -, -⟩ := hO8.read
          refine ⟨_, rfl, ⟨(hg6.below (bl_step hb8 hbW)).cell 1, (hg6.below (bl_step hb8 hbW)).cell 0, (hg6.below (bl_step hb8 hbW)).cell 2, (hk6.below (bl_step hb8 hbW)).cell 1, (hk6.below (bl_step hb8 hbW)).cell 7⟩, ?_⟩
          refine gr 15 (gx 15 [56] rfl (w' := W8.alloc (.cells #[.string e.id, .int .i64 l.day, e.term.val] 133)) (v := .slice (some ⟨W8.heap.size, 0, none⟩) 1 1) ⟨(hg6.below (bl_alloc (bl_step hb8 hbW) _)).cell 1, (hg6.below (bl_alloc (bl_step hb8 hbW) _)).cell 0, (hg6.below (bl_alloc (bl_step hb8 hbW) _)).cell 2, (hk6.below (bl_alloc (bl_step hb8 hbW) _)).cell 1, (hk6.below (bl_alloc (bl_step hb8 hbW) _)).cell 7⟩ ?_)
          refine gr 16 (gop 16 rfl rfl (fun A hN hC K hK => ?_))
          refine append_anyW (w0 := W7) _ _ 87 133 _ 3 40 rfl Tryz.underlying87 info_dl rfl (by decide) _ l.deals.length (rowsD l.deals) (some ⟨W8.heap.size, 0, none⟩) 1 1 [.string e.id, .int .i64 l.day, e.term.val] (hO8.below (bl_alloc (bl_refl _) _)) (bl_alloc hb8 _) (Blk.new W8 #[.string e.id, .int .i64 l.day, e.term.val] 133).rd0 (eval_get hN rfl) (eval_get hN rfl) rfl (Dl.row_one ⟨e.id, l.day, e.term⟩ ho8) (by omega) (by omega) ?_
          intro v1 W9 HO9 HB9 HG9
          obtain ⟨A9, c9, rfl, -, -, -⟩ := HO9.read
          have hB69 := HB9
          refine hK _ _ ⟨(hg6.below (bl_step hB69 hbW)).cell 1, (hg6.below (bl_step hB69 hbW)).cell 0, (hg6.below (bl_step hB69 hbW)).cell 2, (hk6.below (bl_step hB69 hbW)).cell 1, (hk6.below (bl_step hB69 hbW)).cell 7⟩ ?_
          refine gt_sub [(58, .slice A9 (l.deals.length + 1) c9), (42, .pointer (some ⟨b, 0, none⟩))] ?_ ⟨rfl, rfl, trivial⟩
          replace HO9 := HO9.rebase (w := w0) (Nat.le_trans HB.out.size (Nat.le_trans HB6.out.size hbW.size))
          have HB9s := Lib.hid HB9
          clear HB9
          have HB9 := hB69
          clear hB69
          have hB69 := bl_step HB9 hbW
          have hg9 := hg6.below hB69
          have g9c := hg9.cell 1; have g9f := hg9.frozen 1
          refine gtp 17 [42] rfl ?_
          refine gtp 18 [59] rfl ?_
          refine gr 19 (glast [60, 58] rfl (w' := W9.setCell ⟨b, 1, none⟩ (.slice A9 (l.deals.length + 1) c9)) (fun A hO hN => NoPanic.normal ?_))
          obtain ⟨fo, hfo⟩ := hO.lit HA0.out
          clear hO hN
          dsimp only [putL, List.set_cons_zero, List.set_cons_succ] at hfo
          subst hfo
          have hO9 : Own w0 W9 133 3 (.slice A9 (l.deals.length + 1) c9) (l.deals ++ [(⟨e.id, l.day, e.term⟩ : Dl)]).length (rowsD (l.deals ++ [⟨e.id, l.day, e.term⟩])) := by
            have h := HO9
            unfold rowsD at *
            rw [List.length_append, rows_snoc]
            exact h
          have h9 := (HLG.out.below (bl_step HB9 (bl_step hbW HB6.out))).setDeals hO9
          have hB9 : Below w0.heap.size w0 (W9.setCell ⟨b, 1, none⟩ (.slice A9 (l.deals.length + 1) c9)) := bl_grown (bl_step HB9 (bl_step hbW (bl_step HB6.out HB.out))) (gb_set 1 _) h9.nb
          have H9 := Lib.hid h9; have HB9' := Lib.hid hB9
          clear h9 hB9 hO9 HO9 HB9 hbW hCW hbs hbd g9c g9f hg9 hB69
          go_wp2_with fail
          go_ret
          rw [HQ.out]
          exact ⟨rfl, fun _ => ⟨_, _, _, _, _, H9.out⟩, HB9'.out⟩
        · refine gx 15 [56] rfl (w' := W7.alloc (.cells #[.string e.id, .int .i64 l.day, e.term.val] 133)) (v := .slice (some ⟨W7.heap.size, 0, none⟩) 1 1) ⟨(hg6.below (bl_alloc hbW _)).cell 1, (hg6.below (bl_alloc hbW _)).cell 0, (hg6.below (bl_alloc hbW _)).cell 2, (hk6.below (bl_alloc hbW _)).cell 1, (hk6.below (bl_alloc hbW _)).cell 7⟩ ?_
          refine gr 5 (gc 5 [46] rfl (HCL.out (W7.alloc (.cells #[.string e.id, .int .i64 l.day, e.term.val] 133)) (((HA.out.below HB6.out).below hbW).below (bl_alloc (bl_refl _) _))) ?_)
          rintro en W8 ⟨v8, rfl, hO8, hb8⟩
          obtain ⟨A8, c8, rfl, -, -, -⟩ := hO8.read
          have hb78 : Below W7.heap.size W7 W8 := bl_step hb8 (bl_alloc (bl_refl _) _)
          refine ⟨_, rfl, ⟨(hg6.below (bl_step hb78 hbW)).cell 1, (hg6.below (bl_step hb78 hbW)).cell 0, (hg6.below (bl_step hb78 hbW)).cell 2, (hk6.below (bl_step hb78 hbW)).cell 1, (hk6.below (bl_step hb78 hbW)).cell 7⟩, ?_⟩
          refine gr 16 (gop 16 rfl rfl (fun A hN hC K hK => ?_))
          refine append_anyW (w0 := W7.alloc (.cells #[.string e.id, .int .i64 l.day, e.term.val] 133)) _ _ 87 133 _ 3 40 rfl Tryz.underlying87 info_dl rfl (by decide) _ l.deals.length (rowsD l.deals) (some ⟨W7.heap.size, 0, none⟩) 1 1 [.string e.id, .int .i64 l.day, e.term.val] hO8 hb8 ((Blk.new W7 #[.string e.id, .int .i64 l.day, e.term.val] 133).below hb8).rd0 (eval_get hN rfl) (eval_get hN rfl) rfl (Dl.row_one ⟨e.id, l.day, e.term⟩ ho8) (by omega) (by omega) ?_
          intro v1 W9 HO9 HB9 HG9
          obtain ⟨A9, c9, rfl, -, -, -⟩ := HO9.read
          have hB69 := bl_step HB9 (bl_alloc (bl_refl W7) _)
          refine hK _ _ ⟨(hg6.below (bl_step hB69 hbW)).cell 1, (hg6.below (bl_step hB69 hbW)).cell 0, (hg6.below (bl_step hB69 hbW)).cell 2, (hk6.below (bl_step hB69 hbW)).cell 1, (hk6.below (bl_step hB69 hbW)).cell 7⟩ ?_
          refine gt_sub [(58, .slice A9 (l.deals.length + 1) c9), (42, .pointer (some ⟨b, 0, none⟩))] ?_ ⟨rfl, rfl, trivial⟩
          replace HO9 := HO9.rebase (w := w0) (by simp; have := (Nat.le_trans HB.out.size (Nat.le_trans HB6.out.size hbW.size)); omega)
          have HB9s := Lib.hid HB9
          clear HB9
          have HB9 := hB69
          clear hB69
          have hB69 := bl_step HB9 hbW
          have hg9 := hg6.below hB69
          have g9c := hg9.cell 1; have g9f := hg9.frozen 1
          refine gtp 17 [42] rfl ?_
          refine gtp 18 [59] rfl ?_
          refine gr 19 (glast [60, 58] rfl (w' := W9.setCell ⟨b, 1, none⟩ (.slice A9 (l.deals.length + 1) c9)) (fun A hO hN => NoPanic.normal ?_))
          obtain ⟨fo, hfo⟩ := hO.lit HA0.out
          clear hO hN
          dsimp only [putL, List.set_cons_zero, List.set_cons_succ] at hfo
          subst hfo
          have hO9 : Own w0 W9 133 3 (.slice A9 (l.deals.length + 1) c9) (l.deals ++ [(⟨e.id, l.day, e.term⟩ : Dl)]).length (rowsD (l.deals ++ [⟨e.id, l.day, e.term⟩])) := by
            have h := HO9
            unfold rowsD at *
            rw [List.length_append, rows_snoc]
            exact h
          have h9 := (HLG.out.below (bl_step HB9 (bl_step hbW HB6.out))).setDeals hO9
          have hB9 : Below w0.heap.size w0 (W9.setCell ⟨b, 1, none⟩ (.slice A9 (l.deals.length + 1) c9)) := bl_grown (bl_step HB9 (bl_step hbW (bl_step HB6.out HB.out))) (gb_set 1 _) h9.nb
          have H9 := Lib.hid h9; have HB9' := Lib.hid hB9
          clear h9 hB9 hO9 HO9 HB9 hbW hCW hbs hbd g9c g9f hg9 hB69
          go_wp2_with fail
          go_ret
          rw [HQ.out]
          exact ⟨rfl, fun _ => ⟨_, _, _, _, _, H9.out⟩, HB9'.out⟩
      · have HQ : Hid (q = (l, z.2)) := HT3.out.trans (if_pos hz)
        have hzb : (z.2 != 0) = true := by simp [hz]
        have HZ := Lib.hid hz
        clear HT3 hz
        simp only [g7]
        go_wp2_with fail
        go_ret
        rw [HQ.out]
        exact StepPost.bad HZ.out (bl_step HB6.out HB.out)
end Go.Proofs.YtnekcijganhknaaGreatDoor
namespace Go.Proofs.YtnekcijganhknaaGreatDoor
open Go.RowKit
set_option linter.unusedVariables false
set_option linter.unusedSimpArgs false

theorem Wd.fix_len (W : Wd) (s : ByteArray) (d v : Int) (h : W.fixes.length ≤ 32) : (W.fix s d v).1.fixes.length ≤ 32 ∧ (W.fix s d v).1.picks = W.picks := by
  unfold Wd.fix
  split
  · exact ⟨h, rfl⟩
  · split
    · exact ⟨h, rfl⟩
    · split
      · exact ⟨h, rfl⟩
      · exact ⟨by simp; omega, rfl⟩
theorem Lg.ok.fix {l : Lg} {m : Nat} (h : l.ok m) (s : ByteArray) (d v : Int) : (Lg.mk l.day l.deals (l.w.fix s d v).1 l.paid).ok m := by
  obtain ⟨h1, h2⟩ := Wd.fix_len l.w s d v h.fx
  refine ⟨h.day, h.deals, h.max, ⟨Wd.fix_ok h.w.1 s d v, fun p hp => ?_⟩, h1, ?_, h.pd, h.amt⟩
  · rw [h2] at hp; exact h.w.2 p hp
  · show (l.w.fix s d v).1.picks.length ≤ m
    rw [h2]; exact h.pk
section
variable {w0 W W1 : World} {b : Nat} {l : Lg} {vd : Value} {bw g1 g2 gp : Nat}
theorem LgIn.setFix (h : LgIn w0 W b l vd bw g1 g2 gp) {D : Wd} (hg : W.grownBy W1 (some g1)) (hw : WdAt w0 W1 bw g1 g2 D) : LgIn w0 W1 b ⟨l.day, l.deals, D, l.paid⟩ vd bw g1 g2 gp :=
  ⟨h.blk.grown hg (fun e => by injection e with e; exact MapAt.no_blk h.wd.fx h.blk e.symm), h.dl.kept hg (by
    rcases h.dl.2 with ⟨rfl, _⟩ | ⟨g, cap, cur, rfl, _, hh, _⟩
    · exact .inl rfl
    · exact .inr (fun e => by injection e with e; exact MapAt.no_blk h.wd.fx (show Blk W g cur _ from hh) e)), hw, MapAt.kept h.pd hg (fun e => by injection e with e; exact h.n1 e), h.n1, h.n2, h.ng, h.nb⟩
theorem LgIn.setPick (h : LgIn w0 W b l vd bw g1 g2 gp) {D : Wd} (hg : W.grownBy W1 (some g2)) (hw : WdAt w0 W1 bw g1 g2 D) : LgIn w0 W1 b ⟨l.day, l.deals, D, l.paid⟩ vd bw g1 g2 gp :=
  ⟨h.blk.grown hg (fun e => by injection e with e; exact MapAt.no_blk h.wd.pk h.blk e.symm), h.dl.kept hg (by
    rcases h.dl.2 with ⟨rfl, _⟩ | ⟨g, cap, cur, rfl, _, hh, _⟩
    · exact .inl rfl
    · exact .inr (fun e => by injection e with e; exact MapAt.no_blk h.wd.pk (show Blk W g cur _ from hh) e)), hw, MapAt.kept h.pd hg (fun e => by injection e with e; exact h.n2 e), h.n1, h.n2, h.ng, h.nb⟩
theorem LgIn.setPaid (h : LgIn w0 W b l vd bw g1 g2 gp) {p : List ((Int × List UInt8) × Int)} (hg : W.grownBy W1 (some gp)) (hp : PaidAt W1 gp p) : LgIn w0 W1 b ⟨l.day, l.deals, l.w, p⟩ vd bw g1 g2 gp :=
  ⟨h.blk.grown hg (fun e => by injection e with e; exact MapAt.no_blk h.pd h.blk e.symm), h.dl.kept hg (by
    rcases h.dl.2 with ⟨rfl, _⟩ | ⟨g, cap, cur, rfl, _, hh, _⟩
    · exact .inl rfl
    · exact .inr (fun e => by injection e with e; exact MapAt.no_blk h.pd (show Blk W g cur _ from hh) e)), h.wd.grown hg (fun e => by injection e with e; exact MapAt.no_blk h.pd h.wd.blk e.symm) (fun e => by injection e with e; exact h.n1 e) (fun e => by injection e with e; exact h.n2 e), hp, h.n1, h.n2, h.ng, h.nb⟩
end
section
variable {w0 w : World} {b : Nat} {l : Lg} {m : Nat}
set_option maxRecDepth 100000 in
set_option maxHeartbeats 4000000 in
theorem fixing_calls (ho : l.ok m) (h : LgAt w0 w b l) (hb : Below w0.heap.size w0 w) (e : Ev) (he : e.ok) (hid : e.name.size ≤ 1000000) :
    Calls Tryz.prog 66 #[.pointer (some ⟨b, 0, none⟩), e.val] w (StepPost w0 b (l.fixing e)) := by
  have HT : Hid (l.fixing e = if l.day < e.day then (l, 7) else if (l.w.fix e.name e.day e.value).2 ≠ 0 then (l, (l.w.fix e.name e.day e.value).2) else (⟨l.day, l.deals, (l.w.fix e.name e.day e.value).1, l.paid⟩, (Lg.mk l.day l.deals (l.w.fix e.name e.day e.value).1 l.paid).all.2)) := rfl
  have HED := Lib.hid he.day
  obtain ⟨vd, bw, g1, g2, gp, h⟩ := h
  have hc7 := e.term.cells_ he.term; have ho7 := e.term.one_ he.term
  obtain ⟨W1, hW1⟩ : ∃ W1, w.alloc (.cells e.cells 40) = W1 := ⟨_, rfl⟩
  have hb1 : Below w.heap.size w W1 := by rw [← hW1]; exact bl_alloc (bl_refl w) _
  have hk1 : Blk W1 w.heap.size e.cells 40 := by rw [← hW1]; exact Blk.new w _ _
  have HLG := Lib.hid (h.below hb1); have HOK := Lib.hid ho; have HW1 := Lib.hid hW1; have HB1 := Lib.hid hb1; have HK1 := Lib.hid hk1; have HB := Lib.hid (bl_step hb1 hb)
  have c0 := (h.blk.below hb1).cell 0
  unfold Ev.val
  unfold Ev.cells at *
  have k5 := hk1.cell 5; have k4 := hk1.cell 4; have k6 := hk1.cell 6
  clear h ho hW1 hb1 hk1 hb
  generalize l.fixing e = q at *
  unfold StepPost
  by_cases h7 : l.day < e.day
  · have HQ : Hid (q = (l, 7)) := HT.out.trans (if_pos h7)
    clear HT
    go_enter Tryz.func66, Tryz.ntmps66
    go_upto_region 1 with fail
    rw [HW1.out]
    go_quiet (fail)
    go_wp2_with fail
    go_ret
    rw [HQ.out]
    exact StepPost.bad (by decide) (bl_drewN HB.out _)
  · have HT2 : Hid (q = if (l.w.fix e.name e.day e.value).2 ≠ 0 then (l, (l.w.fix e.name e.day e.value).2) else (⟨l.day, l.deals, (l.w.fix e.name e.day e.value).1, l.paid⟩, (Lg.mk l.day l.deals (l.w.fix e.name e.day e.value).1 l.paid).all.2)) := HT.out.trans (if_neg h7)
    have h7b : e.day ≤ l.day := by omega
    have hfx := fun W (hW : Below W1.heap.size W1 W) => wfix_calls w0 bw g1 g2 l.w e.name e.day e.value (by unfold maxLen; omega) HED.out W (HLG.out.wd.below hW)
    have HOK2 := Lib.hid (HOK.out.fix e.name e.day e.value)
    clear HT
    generalize l.w.fix e.name e.day e.value = z at *
    unfold WdPost at hfx
    have HFX := Lib.hid hfx
    clear hfx
    go_enter Tryz.func66, Tryz.ntmps66
    go_upto_region 1 with fail
    rw [HW1.out]
    go_quiet (fail)
    go_wp2_with fail
    obtain ⟨W2, hW2⟩ : ∃ W2, W1.drewN nq = W2 := ⟨_, rfl⟩
    have hb2 : Below W1.heap.size W1 W2 := by rw [← hW2]; exact bl_drewN (bl_refl _) _
    rw [hW2]
    have HB2 := Lib.hid hb2; have HK2 := Lib.hid (HK1.out.below hb2); have HG2 := Lib.hid (HLG.out.blk.below hb2)
    clear hW2 hb2 c0 k5 k4 k6
    clear nq
    refine wp_region_noPanic ?_
    refine wp_region_held_drew (S := fun w' => w'.cell? ⟨b, 2, none⟩ = some (.pointer (some ⟨bw, 0, none⟩)) ∧ w'.cell? ⟨w.heap.size, 2, none⟩ = some (.string e.name) ∧ w'.cell? ⟨w.heap.size, 5, none⟩ = some (.int .i64 e.day) ∧ w'.cell? ⟨w.heap.size, 6, none⟩ = some (.int .i64 e.value)) (by kernel_rfl) ⟨(HG2.out.below (bl_refl _)).cell 2, (HK2.out.below (bl_refl _)).cell 2, (HK2.out.below (bl_refl _)).cell 5, (HK2.out.below (bl_refl _)).cell 6⟩ (fun hHeld => ?_)
    refine wpAnyH_world (fun W => Below W2.heap.size W2 W) (bl_drew (bl_refl _)) (fun W5 hb5 => ?_)
    refine wpAnyH_lst #[false, false, false, false, false, false, false, false, false, false, false, false] (by rfl) ?_
    clear hHeld
    refine wpAnyH_named (fun A0 hA0 => ?_)
    have HA0 := Lib.hid hA0
    refine sp_in A0 [16, 17, 18, 19, 20, 21, 22, 23, 24, 25, 26, 5] 37 [(0, .pointer (some ⟨b, 0, none⟩)), (3, .pointer (some ⟨w.heap.size, 0, none⟩))] (by rw [hA0]; rfl) ⟨(HG2.out.below hb5).cell 2, (HK2.out.below hb5).cell 2, (HK2.out.below hb5).cell 5, (HK2.out.below hb5).cell 6⟩ (by rw [hA0]; exact ⟨rfl, rfl, trivial⟩) ?_
    clear hA0
    refine st 0 [0] rfl ?_
    refine st 4 [3] rfl ?_
    refine st 6 [3] rfl ?_
    refine st 8 [3] rfl ?_
    refine st 1 [16] rfl ?_
    refine st 5 [20] rfl ?_
    refine st 7 [22] rfl ?_
    refine st 9 [24] rfl ?_
    refine st 2 [17] rfl ?_
    refine st 3 [18] rfl ?_
    refine sr 10 (sc 10 [19, 21, 23, 25] rfl (HFX.out W5 (bl_step hb5 HB2.out)) ?_)
    rintro en W6 ⟨rfl, hw6, hg6⟩
    have hL5 := HLG.out.below (bl_step hb5 HB2.out)
    have hK6 := (HK2.out.below hb5).grown hg6 (fun e => by injection e with e; exact MapAt.no_blk hL5.wd.fx (HK2.out.below hb5) e.symm)
    have hL6 := hL5.setFix hg6 hw6
    refine ⟨_, rfl, ⟨hL6.blk.cell 2, hK6.cell 2, hK6.cell 5, hK6.cell 6⟩, ?_⟩
    refine st 11 [26] rfl ?_
    refine sp_done (fun A hO hN hS => NoPanic.normal ?_)
    obtain ⟨fo, hfo⟩ := hO.lit HA0.out
    have g5 := hN.get 5 rfl
    clear hO hN
    dsimp only [putL, List.set_cons_zero, List.set_cons_succ] at hfo
    subst hfo
    have g5 : fo 5 = .int .i64 z.2 := g5
    have hB6 := bl_grown (bl_step hb5 (bl_step HB2.out HB.out)) hg6 hL5.wd.n1
    have HB6 := Lib.hid hB6; have HL6 := Lib.hid hL6
    clear hb5 hS hw6 hg6 hL5 hK6 hB6 hL6
    by_cases hz : z.2 = 0
    · have HQ : Hid (q = (⟨l.day, l.deals, z.1, l.paid⟩, (Lg.mk l.day l.deals z.1 l.paid).all.2)) := HT2.out.trans (if_neg (by simp [hz]))
      rw [hz] at g5
      have HAL := Lib.hid (lall_calls HOK2.out ⟨_, _, _, _, _, HL6.out⟩)
      unfold CashPost at HAL
      generalize (Lg.mk l.day l.deals z.1 l.paid).all = y at *
      clear HT2 hz
      go_upto_region 6 with fail
      go_wp2_with fail
      refine (HAL.out).mono ?_
      rintro en w7 ⟨vf, vw, rfl, hf, hw, hb7⟩
      have HB7 := Lib.hid hb7
      clear hb7 hf hw
      go_wp2_with fail
      go_ret
      rw [HQ.out]
      exact ⟨rfl, fun _ => ⟨_, _, _, _, _, HL6.out.below HB7.out⟩, bl_step HB7.out HB6.out⟩
    · have HQ : Hid (q = (l, z.2)) := HT2.out.trans (if_pos hz)
      have hzb : (z.2 != 0) = true := by simp [hz]
      have HZ := Lib.hid hz
      clear HT2 hz
      simp only [g5]
      go_wp2_with fail
      go_ret
      rw [HQ.out]
      exact StepPost.bad HZ.out HB6.out
set_option maxRecDepth 100000 in
set_option maxHeartbeats 4000000 in
theorem settle_calls (hm : m ≤ 1000000) (ho : l.ok m) (h : LgAt w0 w b l) (hb : Below w0.heap.size w0 w) (e : Ev) (he : e.ok) (hid : e.cur.size ≤ 1000000) :
    Calls Tryz.prog 68 #[.pointer (some ⟨b, 0, none⟩), e.val] w (StepPost w0 b (l.settle e)) := by
  have HT : Hid (l.settle e = if l.day < e.day then (l, 7) else if l.owed e.day e.cur = 0 then (l, 3) else if l.owed e.day e.cur ≠ e.value then (l, 1) else (⟨l.day, l.deals, l.w, payMore (e.day, e.cur.toList) (l.owed e.day e.cur) l.paid⟩, 0)) := rfl
  have HED := Lib.hid he.day
  have hpb := Lg.paid_owed ho e.day e.cur
  have hov := he.value
  obtain ⟨vd, bw, g1, g2, gp, h⟩ := h
  have hc7 := e.term.cells_ he.term; have ho7 := e.term.one_ he.term
  obtain ⟨W1, hW1⟩ : ∃ W1, w.alloc (.cells e.cells 40) = W1 := ⟨_, rfl⟩
  have hb1 : Below w.heap.size w W1 := by rw [← hW1]; exact bl_alloc (bl_refl w) _
  have hk1 : Blk W1 w.heap.size e.cells 40 := by rw [← hW1]; exact Blk.new w _ _
  have HLG := Lib.hid (h.below hb1); have HOK := Lib.hid ho; have HW1 := Lib.hid hW1; have HB1 := Lib.hid hb1; have HK1 := Lib.hid hk1; have HB := Lib.hid (bl_step hb1 hb)
  have c0 := (h.blk.below hb1).cell 0
  unfold Ev.val
  unfold Ev.cells at *
  have k5 := hk1.cell 5; have k4 := hk1.cell 4; have k6 := hk1.cell 6
  clear h ho hW1 hb1 hk1 hb
  have hcs : e.cur.size ≤ maxLen := by unfold maxLen; omega
  have HOW := Lib.hid (lowed_calls e.day e.cur HED.out hcs HOK.out ⟨_, _, _, _, _, HLG.out⟩)
  have hln : l.paid.length < maxLen := by have := HOK.out.pd; unfold maxLen; omega
  generalize l.settle e = q at *
  unfold Lg.paidOn at hpb
  generalize l.owed e.day e.cur = ow at *
  unfold StepPost
  by_cases h7 : l.day < e.day
  · have HQ : Hid (q = (l, 7)) := HT.out.trans (if_pos h7)
    clear HT
    go_enter Tryz.func68, Tryz.ntmps68
    go_upto_region 1 with fail
    rw [HW1.out]
    go_wp2_with fail
    refine (HOW.out).mono ?_
    rintro en w2 ⟨rfl, hb2⟩
    have hL2 := HLG.out.below hb2
    have hk2 := HK1.out.below hb2
    have c02 := hL2.blk.cell 0; have k52 := hk2.cell 5; have k42 := hk2.cell 4; have k62 := hk2.cell 6
    have HL2 := Lib.hid hL2; have HK2 := Lib.hid hk2; have HB2 := Lib.hid (bl_step hb2 HB.out)
    clear hL2 hk2 hb2 c0 k5 k4 k6
    go_wp2_with fail
    go_quiet (fail)
    go_wp2_with fail
    go_ret
    rw [HQ.out]
    exact StepPost.bad (by decide) (bl_drewN HB2.out _)
  · have HT2 : Hid (q = if ow = 0 then (l, 3) else if ow ≠ e.value then (l, 1) else (⟨l.day, l.deals, l.w, payMore (e.day, e.cur.toList) ow l.paid⟩, 0)) := HT.out.trans (if_neg h7)
    have h7b : e.day ≤ l.day := by omega
    clear HT
    by_cases h0 : ow = 0
    · have HQ : Hid (q = (l, 3)) := HT2.out.trans (if_pos h0)
      clear HT2
      subst h0
      go_enter Tryz.func68, Tryz.ntmps68
      go_upto_region 1 with fail
      rw [HW1.out]
      go_wp2_with fail
      refine (HOW.out).mono ?_
      rintro en w2 ⟨rfl, hb2⟩
      have hL2 := HLG.out.below hb2
      have hk2 := HK1.out.below hb2
      have c02 := hL2.blk.cell 0; have k52 := hk2.cell 5; have k42 := hk2.cell 4; have k62 := hk2.cell 6
      have HL2 := Lib.hid hL2; have HK2 := Lib.hid hk2; have HB2 := Lib.hid (bl_step hb2 HB.out)
      clear hL2 hk2 hb2 c0 k5 k4 k6
      go_wp2_with fail
      go_quiet (fail)
      go_wp2_with fail
      go_ret
      rw [HQ.out]
      exact StepPost.bad (by decide) (bl_drewN HB2.out _)
    · have HT3 : Hid (q = if ow ≠ e.value then (l, 1) else (⟨l.day, l.deals, l.w, payMore (e.day, e.cur.toList) ow l.paid⟩, 0)) := HT2.out.trans (if_neg h0)
      have h0b : (ow == 0) = false := by simp [h0]
      clear HT2 h0
      by_cases hv : ow = e.value
      · have HQ : Hid (q = (⟨l.day, l.deals, l.w, payMore (e.day, e.cur.toList) ow l.paid⟩, 0)) := HT3.out.trans (if_neg (by simp [hv]))
        have hvb : (ow != e.value) = false := by simp [hv]
        have hsum : IntKind.i64.wrap ((l.paid.lookup (e.day, e.cur.toList)).getD 0 + ow) = (l.paid.lookup (e.day, e.cur.toList)).getD 0 + ow := wrap_in (by omega)
        clear HT3 hv
        go_enter Tryz.func68, Tryz.ntmps68
        go_upto_region 1 with fail
        rw [HW1.out]
        go_wp2_with fail
        refine (HOW.out).mono ?_
        rintro en w2 ⟨rfl, hb2⟩
        have hL2 := HLG.out.below hb2
        have hk2 := HK1.out.below hb2
        have c02 := hL2.blk.cell 0; have k52 := hk2.cell 5; have k42 := hk2.cell 4; have k62 := hk2.cell 6
        have HL2 := Lib.hid hL2; have HK2 := Lib.hid hk2; have HB2 := Lib.hid (bl_step hb2 HB.out)
        clear hL2 hk2 hb2 c0 k5 k4 k6
        go_wp2_with fail
        go_quiet (fail)
        go_wp2_with fail
        obtain ⟨W3, hW3⟩ : ∃ W3, w2.drewN nq = W3 := ⟨_, rfl⟩
        have hb3 : Below w2.heap.size w2 W3 := by rw [← hW3]; exact bl_drewN (bl_refl _) _
        rw [hW3]
        have HL3 := Lib.hid (HL2.out.below hb3); have HK3 := Lib.hid (HK2.out.below hb3); have HB3 := Lib.hid (bl_step hb3 HB2.out)
        clear hW3 hb3 c02 k52 k42 k62
        clear nq
        refine wp_region_noPanic ?_
        refine wp_region_held_drew (S := fun w' => w'.cell? ⟨b, 3, none⟩ = some (.map (some gp)) ∧ w'.cell? ⟨w.heap.size, 5, none⟩ = some (.int .i64 e.day) ∧ w'.cell? ⟨w.heap.size, 4, none⟩ = some (.string e.cur)) (by kernel_rfl) ⟨(HL3.out.blk.below (bl_refl _)).cell 3, (HK3.out.below (bl_refl _)).cell 5, (HK3.out.below (bl_refl _)).cell 4⟩ (fun hHeld => ?_)
        refine wpAnyH_world (fun W => Below W3.heap.size W3 W) (bl_drew (bl_refl _)) (fun W5 hb5 => ?_)
        refine wpAnyH_lst #[false, false, false, false, false, false, false, false, false, false, false, false, false, false, false] (by rfl) ?_
        clear hHeld
        refine wpAnyH_named (fun A0 hA0 => ?_)
        have HA0 := Lib.hid hA0
        refine sp_in A0 [28, 29, 30, 31, 32, 33, 34, 35, 36, 37, 38, 39, 40, 41] 42 [(0, .pointer (some ⟨b, 0, none⟩)), (3, .pointer (some ⟨w.heap.size, 0, none⟩)), (5, .int .i64 ow)] (by rw [hA0]; rfl) ⟨(HL3.out.blk.below hb5).cell 3, (HK3.out.below hb5).cell 5, (HK3.out.below hb5).cell 4⟩ (by rw [hA0]; exact ⟨rfl, rfl, rfl, trivial⟩) ?_
        clear hA0
        refine st 0 [0] rfl ?_
        refine st 4 [3] rfl ?_
        refine st 6 [3] rfl ?_
        refine st 10 [5] rfl ?_
        refine st 1 [28] rfl ?_
        refine st 5 [32] rfl ?_
        refine st 7 [34] rfl ?_
        refine st 2 [29] rfl ?_
        refine st (v := .agg #[.int .i64 e.day, .string e.cur]) 8 [33, 35] rfl ?_
        refine st 3 [30] rfl ?_
        have hL5 := HL3.out.below hb5
        have hK5 := HK3.out.below hb5
        have hlk5 := PaidAt.look hL5.pd e.day e.cur hcs HED.out
        obtain ⟨v0, sp, W6, hme, hg6, hlk6, hes⟩ := PaidAt.entry hL5.pd e.day e.cur ow hcs HED.out hln
        have hlk6' := hlk6 W6 rfl
        obtain ⟨W7, hst, hp7, hg67⟩ := hes W6 rfl
        have hg7 : W5.grownBy W7 (some gp) := gb_trans hg6 hg67
        have hL7 := hL5.setPaid hg7 hp7
        have hnb : b ≠ gp := MapAt.no_blk hL5.pd hL5.blk
        have hnk : w.heap.size ≠ gp := MapAt.no_blk hL5.pd hK5
        have hb6 := hL5.blk.grown hg6 (fun e => by injection e with e; exact hnb e.symm)
        have hk6 := hK5.grown hg6 (fun e => by injection e with e; exact hnk e.symm)
        have hk7 := hK5.grown hg7 (fun e => by injection e with e; exact hnk e.symm)
        have hS6 : W6.cell? ⟨b, 3, none⟩ = some (.map (some gp)) ∧ W6.cell? ⟨w.heap.size, 5, none⟩ = some (.int .i64 e.day) ∧ W6.cell? ⟨w.heap.size, 4, none⟩ = some (.string e.cur) := ⟨hb6.cell 3, hk6.cell 5, hk6.cell 4⟩
        have hS7 : W7.cell? ⟨b, 3, none⟩ = some (.map (some gp)) ∧ W7.cell? ⟨w.heap.size, 5, none⟩ = some (.int .i64 e.day) ∧ W7.cell? ⟨w.heap.size, 4, none⟩ = some (.string e.cur) := ⟨hL7.blk.cell 3, hk7.cell 5, hk7.cell 4⟩
        have hb35 := hb5
        simp only [goInt] at hst hme
        have HB7 := Lib.hid (bl_grown (bl_step hb5 HB3.out) hg7 hL5.ng)
        have HL7 := Lib.hid hL7
        clear hL5 hK5 hg6 hg67 hg7 hL7 hes hlk6 hb6 hk6 hk7 hp7
        refine sr2 9 12 ?_ ?_
        · refine sx 9 [31, 36] rfl (w' := W5) (v := .int .i64 ((l.paid.lookup (e.day, e.cur.toList)).getD 0)) ⟨(HL3.out.blk.below hb35).cell 3, (HK3.out.below hb35).cell 5, (HK3.out.below hb35).cell 4⟩ ?_
          refine st (v := .int .i64 ((l.paid.lookup (e.day, e.cur.toList)).getD 0 + ow)) 11 [37, 38] rfl ?_
          refine sr 12 (sx 12 [31, 36] rfl (w' := W6) (v := .tuple #[v0, .int .i64 (sp : Int)]) hS6 ?_)
          refine st (v := .int .i64 (sp : Int)) 13 [40] rfl ?_
          refine sr 14 (sw 14 [31, 41, 39] rfl (w' := W7) hS7 ?_)
          refine sp_done (fun A hO hN hS => NoPanic.normal ?_)
          obtain ⟨fo, hfo⟩ := hO.lit HA0.out
          clear hO hN
          dsimp only [putL, List.set_cons_zero, List.set_cons_succ] at hfo
          subst hfo
          go_wp2_with fail
          go_ret
          rw [HQ.out]
          exact ⟨rfl, fun _ => ⟨_, _, _, _, _, HL7.out⟩, HB7.out⟩
        · refine sx 12 [31, 36] rfl (w' := W6) (v := .tuple #[v0, .int .i64 (sp : Int)]) hS6 ?_
          refine st (v := .int .i64 (sp : Int)) 13 [40] rfl ?_
          refine sr 9 (sx 9 [31, 36] rfl (w' := W6) (v := .int .i64 ((l.paid.lookup (e.day, e.cur.toList)).getD 0)) hS6 ?_)
          refine st (v := .int .i64 ((l.paid.lookup (e.day, e.cur.toList)).getD 0 + ow)) 11 [37, 38] rfl ?_
          refine sr 14 (sw 14 [31, 41, 39] rfl (w' := W7) hS7 ?_)
          refine sp_done (fun A hO hN hS => NoPanic.normal ?_)
          obtain ⟨fo, hfo⟩ := hO.lit HA0.out
          clear hO hN
          dsimp only [putL, List.set_cons_zero, List.set_cons_succ] at hfo
          subst hfo
          go_wp2_with fail
          go_ret
          rw [HQ.out]
          exact ⟨rfl, fun _ => ⟨_, _, _, _, _, HL7.out⟩, HB7.out⟩
      · have HQ : Hid (q = (l, 1)) := HT3.out.trans (if_pos hv)
        have hvb : (ow != e.value) = true := by simp [hv]
        clear HT3 hv
        go_enter Tryz.func68, Tryz.ntmps68
        go_upto_region 1 with fail
        rw [HW1.out]
        go_wp2_with fail
        refine (HOW.out).mono ?_
        rintro en w2 ⟨rfl, hb2⟩
        have hL2 := HLG.out.below hb2
        have hk2 := HK1.out.below hb2
        have c02 := hL2.blk.cell 0; have k52 := hk2.cell 5; have k42 := hk2.cell 4; have k62 := hk2.cell 6
        have HL2 := Lib.hid hL2; have HK2 := Lib.hid hk2; have HB2 := Lib.hid (bl_step hb2 HB.out)
        clear hL2 hk2 hb2 c0 k5 k4 k6
        go_wp2_with fail
        go_quiet (fail)
        go_wp2_with fail
        go_ret
        rw [HQ.out]
        exact StepPost.bad (by decide) (bl_drewN HB2.out _)
end
end Go.Proofs.YtnekcijganhknaaGreatDoor
