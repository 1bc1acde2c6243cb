/- The document's events: are two alike? -/
import Derived.Test.YtapbkomicihkkaaGreatDoorRDocG
import Derived.Test.YtapbkomicihkkaaGreatDoorDo1
namespace Go.Proofs.YtapbkomicihkkaaGreatDoor
open Go.RowKit
set_option linter.unusedVariables false
set_option linter.unusedSimpArgs false

/-- Is a letter among a kind's fields? -/
def hasL (k : Int) (c : UInt8) : Bool := (fieldsL k).contains c
def r4B (hD hV va : Bool) (day value : Int) : Bool := (hD && (decide (day < 0) || decide (10000 < day)) || !hD && day != 0) || (hV && !va || !hV && value != 0)
def r6B (hT odd : Bool) (k tk value : Int) : Bool := (!hT && (tk != 0 || odd)) || (k == 4 && (decide (value < 0) || decide (1 < value)))
def Ev.rcheck (e : Ev) (odd : Bool) : Int :=
 if (qB e.kind || !textB e.id (hasL e.kind 73) || !textB e.name (hasL e.kind 78) || !textB e.label (hasL e.kind 76) || !textB e.cur (hasL e.kind 67)) = true then 1
 else if r4B (hasL e.kind 68) (hasL e.kind 86) (validB e.value) e.day e.value = true then 1
 else if r6B (hasL e.kind 84) odd e.kind e.term.tr.kind e.value = true then 1
 else if e.kind = 2 then (e.term.tr.write false).2 else 0
set_option maxRecDepth 100000 in
set_option maxHeartbeats 8000000 in
theorem revcheck_calls (e : Ev) (hk : IsInt64 e.kind) (hdy : IsInt64 e.day) (hvl : IsInt64 e.value) (h1 : e.id.size ≤ 1000000) (h2 : e.name.size ≤ 1000000) (h3 : e.label.size ≤ 1000000) (h4 : e.cur.size ≤ 1000000) (hts : e.term.tr.size ≤ 1000000) (hok : e.term.tr.ok) (odd : Bool) (x : Nat) (w : World) (v : Value) (hv : EvAt x w e v) :
  Calls Tryz.prog 15 #[v, .bool odd] w fun en w' => en = .returned (.int .i64 (e.rcheck odd)) ∧ Below w.heap.size w w' := by
 obtain ⟨c0, c1, c2, c3, rfl, hT⟩ := hv
 have hfl := fun W => rfields_calls e.kind W
 have hI := fun W => rhasS_calls e.kind 73 W
 have hN := fun W => rhasS_calls e.kind 78 W
 have hL := fun W => rhasS_calls e.kind 76 W
 have hC := fun W => rhasS_calls e.kind 67 W
 have hD := fun W => rhasS_calls e.kind 68 W
 have hV := fun W => rhasS_calls e.kind 86 W
 have hTt := fun W => rhasS_calls e.kind 84 W
 have tI := fun W => rtxt_calls e.id h1 (hasL e.kind 73) W
 have tN := fun W => rtxt_calls e.name h2 (hasL e.kind 78) W
 have tL := fun W => rtxt_calls e.label h3 (hasL e.kind 76) W
 have tC := fun W => rtxt_calls e.cur h4 (hasL e.kind 67) W
 have hva := fun W => rvalid_calls e.value W
 have hwr := fun W (hT : TrAt x W e.term.tr (.agg #[c0, c1, c2, c3])) => rwrite_calls e.term.tr hts hok false x W _ hT
 have HDEF : Hid (e.rcheck odd = if (qB e.kind || !textB e.id (hasL e.kind 73) || !textB e.name (hasL e.kind 78) || !textB e.label (hasL e.kind 76) || !textB e.cur (hasL e.kind 67)) = true then 1
   else if r4B (hasL e.kind 68) (hasL e.kind 86) (validB e.value) e.day e.value = true then 1
   else if r6B (hasL e.kind 84) odd e.kind e.term.tr.kind e.value = true then 1
   else if e.kind = 2 then (e.term.tr.write false).2 else 0) := rfl
 generalize e.rcheck odd = res at *
 obtain ⟨A9, c9, cs9, hag, -, -⟩ := hT.open_
 have hcc : c0 = .int .i64 e.term.tr.kind ∧ c1 = .string e.term.tr.s ∧ c2 = .int .i64 e.term.tr.n ∧ c3 = .slice A9 e.term.tr.ks.length c9 := by injection hag with hag; simp at hag; exact hag
 obtain ⟨rfl, rfl, rfl, rfl⟩ := hcc
 clear hag
 obtain ⟨q, hq⟩ : ∃ q, qB e.kind = q := ⟨_, rfl⟩
 have hq2 : ((fieldsS e.kind).toList == [63]) = q := hq
 rw [hq] at HDEF
 unfold hasL at *
 generalize textB e.id _ = uI at *
 generalize textB e.name _ = uN at *
 generalize textB e.label _ = uL at *
 generalize textB e.cur _ = uC at *
 generalize (fieldsL e.kind).contains 73 = gI at *
 generalize (fieldsL e.kind).contains 78 = gN at *
 generalize (fieldsL e.kind).contains 76 = gL at *
 generalize (fieldsL e.kind).contains 67 = gC at *
 generalize (fieldsL e.kind).contains 68 = gD at *
 generalize (fieldsL e.kind).contains 86 = gV at *
 generalize (fieldsL e.kind).contains 84 = gT at *
 generalize validB e.value = va at *
 generalize e.term.tr.write false = wr at *
 generalize e.term.tr.kind = tk at *
 generalize e.term.tr.s = ts at *
 generalize e.term.tr.n = tn at *
 generalize e.term.tr.ks.length = tl at *
 generalize fieldsS e.kind = fs at *
 clear hq
 obtain ⟨W1, hW1⟩ : ∃ W1, w.alloc (.cells #[.int .i64 e.kind, .string e.id, .string e.name, .string e.label, .string e.cur, .int .i64 e.day, .int .i64 e.value, .int .i64 tk, .string ts, .int .i64 tn, .slice A9 tl c9] 35) = W1 := ⟨_, rfl⟩
 have hkb := Blk.new w #[.int .i64 e.kind, .string e.id, .string e.name, .string e.label, .string e.cur, .int .i64 e.day, .int .i64 e.value, .int .i64 tk, .string ts, .int .i64 tn, .slice A9 tl c9] 35
 have hT1 := hT.below (bl_alloc (bl_refl w) (.cells #[.int .i64 e.kind, .string e.id, .string e.name, .string e.label, .string e.cur, .int .i64 e.day, .int .i64 e.value, .int .i64 tk, .string ts, .int .i64 tn, .slice A9 tl c9] 35))
 have hB1 := bl_alloc (bl_refl w) (.cells #[.int .i64 e.kind, .string e.id, .string e.name, .string e.label, .string e.cur, .int .i64 e.day, .int .i64 e.value, .int .i64 tk, .string ts, .int .i64 tn, .slice A9 tl c9] 35)
 rw [hW1] at hkb hT1 hB1
 have HW1 := Lib.hid hW1; have HKB := Lib.hid hkb; have HT1 := Lib.hid hT1; have HB1 := Lib.hid hB1
 have HFL := Lib.hid hfl; have HI := Lib.hid hI; have HN := Lib.hid hN; have HL := Lib.hid hL; have HC := Lib.hid hC; have HD := Lib.hid hD; have HV := Lib.hid hV; have HTT := Lib.hid hTt; have TI := Lib.hid tI; have TN := Lib.hid tN; have TL := Lib.hid tL; have TC := Lib.hid tC; have HVA := Lib.hid hva; have HWR := Lib.hid hwr
 clear hW1 hkb hT1 hB1 hT hfl hI hN hL hC hD hV hTt tI tN tL tC hva hwr hts hok
 obtain ⟨f0, f1, f2, f3, f4, f5, f6, f7, f8, f9, f10⟩ := HKB.out.eleven
 go_enter Tryz.func15, Tryz.ntmps15
 go_upto_region 1 with fail
 rw [HW1.out]
 go_wp2_with fail
 refine (HFL.out _).mono ?_
 rintro en w2 ⟨rfl, rfl⟩
 go_upto_region 2 with fail
 go_cut [44] (fun v wx => v = .bool (q || !uI || !uN || !uL || !uC) ∧ Below W1.heap.size W1 wx)
 case first =>
  have HR := Lib.hid (And.intro f1 (And.intro f2 (And.intro f3 f4)))
  clear f0 f1 f2 f3 f4 f5 f6 f7 f8 f9 f10
  cases q with
  | true =>
   refine wp_region_noPanic ?_
   refine wp_region_held_drew (S := fun w' => w'.cell? ⟨w.heap.size, 1, none⟩ = some (.string e.id) ∧ w'.cell? ⟨w.heap.size, 2, none⟩ = some (.string e.name) ∧ w'.cell? ⟨w.heap.size, 3, none⟩ = some (.string e.label) ∧ w'.cell? ⟨w.heap.size, 4, none⟩ = some (.string e.cur)) (by kernel_rfl) HR.out (fun hHeld => ?_)
   refine wpAnyH_world (fun W => Below W1.heap.size W1 W) (bl_drew (bl_refl _)) (fun W2 hb2 => ?_)
   refine wpAnyH_lst #[false, false, false, false, false, false, false, false, false, false, false, false, false, false, false, false, false, false, false, false, false, false, false, false, false, false, false, false, false, false, false, false, false, false] (by rfl) ?_
   clear hHeld
   refine wpAnyH_named (fun A0 hA0 => ?_)
   have HA0 := Lib.hid hA0
   refine sp_in A0 [11, 12, 13, 14, 15, 16, 17, 18, 19, 20, 21, 22, 23, 24, 25, 26, 27, 28, 29, 30, 31, 32, 33, 34, 35, 36, 37, 38, 39, 40, 41, 42, 43, 44] 124 [(5, .string fs), (2, .pointer (some ⟨w.heap.size, 0, none⟩))] (by rw [hA0]; rfl) ⟨cell_below (hb2) HR.out.1, cell_below (hb2) HR.out.2.1, cell_below (hb2) HR.out.2.2.1, cell_below (hb2) HR.out.2.2.2⟩ (by rw [hA0]; exact ⟨rfl, rfl, trivial⟩) ?_
   clear hA0
   refine st 0 [5] rfl ?_
   refine st (v := .bool true) 1 [11] rfl ?_
   refine st 2 [12] rfl ?_
   refine stn 3 rfl ?_
   refine stn 5 rfl ?_
   refine stn 4 rfl ?_
   refine stn 6 rfl ?_
   refine stn 7 rfl ?_
   refine stn 8 rfl ?_
   refine st 9 [13, 19] rfl ?_
   refine st 10 [20] rfl ?_
   refine stn 11 rfl ?_
   refine stn 13 rfl ?_
   refine stn 12 rfl ?_
   refine stn 14 rfl ?_
   refine stn 15 rfl ?_
   refine stn 16 rfl ?_
   refine st 17 [21, 27] rfl ?_
   refine st 18 [28] rfl ?_
   refine stn 19 rfl ?_
   refine stn 21 rfl ?_
   refine stn 20 rfl ?_
   refine stn 22 rfl ?_
   refine stn 23 rfl ?_
   refine stn 24 rfl ?_
   refine st 25 [29, 35] rfl ?_
   refine st 26 [36] rfl ?_
   refine stn 27 rfl ?_
   refine stn 29 rfl ?_
   refine stn 28 rfl ?_
   refine stn 30 rfl ?_
   refine stn 31 rfl ?_
   refine stn 32 rfl ?_
   refine st 33 [37, 43] rfl ?_
   refine sp_done (fun A hO hN hS => NoPanic.normal ?_)
   obtain ⟨fo, hfo⟩ := hO.lit HA0.out
   have g44 := hN.get 44 rfl
   clear hO hN
   dsimp only [putL, List.set_cons_zero, List.set_cons_succ] at hfo
   subst hfo
   have g44 : fo 44 = .bool true := g44
   go_wp2_with fail
   go_meet
   exact ⟨rfl, hb2⟩
  | false =>
   cases uI with
   | false =>
    refine wp_region_noPanic ?_
    refine wp_region_held_drew (S := fun w' => w'.cell? ⟨w.heap.size, 1, none⟩ = some (.string e.id) ∧ w'.cell? ⟨w.heap.size, 2, none⟩ = some (.string e.name) ∧ w'.cell? ⟨w.heap.size, 3, none⟩ = some (.string e.label) ∧ w'.cell? ⟨w.heap.size, 4, none⟩ = some (.string e.cur)) (by kernel_rfl) HR.out (fun hHeld => ?_)
    refine wpAnyH_world (fun W => Below W1.heap.size W1 W) (bl_drew (bl_refl _)) (fun W2 hb2 => ?_)
    refine wpAnyH_lst #[false, false, false, false, false, false, false, false, false, false, false, false, false, false, false, false, false, false, false, false, false, false, false, false, false, false, false, false, false, false, false, false, false, false] (by rfl) ?_
    clear hHeld
    refine wpAnyH_named (fun A0 hA0 => ?_)
    have HA0 := Lib.hid hA0
    refine sp_in A0 [11, 12, 13, 14, 15, 16, 17, 18, 19, 20, 21, 22, 23, 24, 25, 26, 27, 28, 29, 30, 31, 32, 33, 34, 35, 36, 37, 38, 39, 40, 41, 42, 43, 44] 124 [(5, .string fs), (2, .pointer (some ⟨w.heap.size, 0, none⟩))] (by rw [hA0]; rfl) ⟨cell_below (hb2) HR.out.1, cell_below (hb2) HR.out.2.1, cell_below (hb2) HR.out.2.2.1, cell_below (hb2) HR.out.2.2.2⟩ (by rw [hA0]; exact ⟨rfl, rfl, trivial⟩) ?_
    clear hA0
    refine st 0 [5] rfl ?_
    refine st (v := .bool false) 1 [11] rfl ?_
    refine st 2 [12] rfl ?_
    refine st 3 [2] rfl ?_
    refine st 5 [5] rfl ?_
    refine st 4 [14] rfl ?_
    refine sr 6 (sc 6 [16] rfl (HI.out _) ?_)
    rintro en W3 ⟨rfl, rfl⟩
    refine ⟨_, rfl, ⟨cell_below (hb2) HR.out.1, cell_below (hb2) HR.out.2.1, cell_below (hb2) HR.out.2.2.1, cell_below (hb2) HR.out.2.2.2⟩, ?_⟩
    refine sr 7 (sc 7 [15, 17] rfl (TI.out _) ?_)
    rintro en W3 ⟨rfl, hb⟩
    replace hb2 := bl_step hb hb2
    refine ⟨_, rfl, ⟨cell_below (hb2) HR.out.1, cell_below (hb2) HR.out.2.1, cell_below (hb2) HR.out.2.2.1, cell_below (hb2) HR.out.2.2.2⟩, ?_⟩
    clear hb
    refine st 8 [18] rfl ?_
    refine st 9 [13, 19] rfl ?_
    refine st 10 [20] rfl ?_
    refine stn 11 rfl ?_
    refine stn 13 rfl ?_
    refine stn 12 rfl ?_
    refine stn 14 rfl ?_
    refine stn 15 rfl ?_
    refine stn 16 rfl ?_
    refine st 17 [21, 27] rfl ?_
    refine st 18 [28] rfl ?_
    refine stn 19 rfl ?_
    refine stn 21 rfl ?_
    refine stn 20 rfl ?_
    refine stn 22 rfl ?_
    refine stn 23 rfl ?_
    refine stn 24 rfl ?_
    refine st 25 [29, 35] rfl ?_
    refine st 26 [36] rfl ?_
    refine stn 27 rfl ?_
    refine stn 29 rfl ?_
    refine stn 28 rfl ?_
    refine stn 30 rfl ?_
    refine stn 31 rfl ?_
    refine stn 32 rfl ?_
    refine st 33 [37, 43] rfl ?_
    refine sp_done (fun A hO hN hS => NoPanic.normal ?_)
    obtain ⟨fo, hfo⟩ := hO.lit HA0.out
    have g44 := hN.get 44 rfl
    clear hO hN
    dsimp only [putL, List.set_cons_zero, List.set_cons_succ] at hfo
    subst hfo
    have g44 : fo 44 = .bool true := g44
    go_wp2_with fail
    go_meet
    exact ⟨rfl, hb2⟩
   | true =>
    cases uN with
    | false =>
     refine wp_region_noPanic ?_
     refine wp_region_held_drew (S := fun w' => w'.cell? ⟨w.heap.size, 1, none⟩ = some (.string e.id) ∧ w'.cell? ⟨w.heap.size, 2, none⟩ = some (.string e.name) ∧ w'.cell? ⟨w.heap.size, 3, none⟩ = some (.string e.label) ∧ w'.cell? ⟨w.heap.size, 4, none⟩ = some (.string e.cur)) (by kernel_rfl) HR.out (fun hHeld => ?_)
     refine wpAnyH_world (fun W => Below W1.heap.size W1 W) (bl_drew (bl_refl _)) (fun W2 hb2 => ?_)
     refine wpAnyH_lst #[false, false, false, false, false, false, false, false, false, false, false, false, false, false, false, false, false, false, false, false, false, false, false, false, false, false, false, false, false, false, false, false, false, false] (by rfl) ?_
     clear hHeld
     refine wpAnyH_named (fun A0 hA0 => ?_)
     have HA0 := Lib.hid hA0
     refine sp_in A0 [11, 12, 13, 14, 15, 16, 17, 18, 19, 20, 21, 22, 23, 24, 25, 26, 27, 28, 29, 30, 31, 32, 33, 34, 35, 36, 37, 38, 39, 40, 41, 42, 43, 44] 124 [(5, .string fs), (2, .pointer (some ⟨w.heap.size, 0, none⟩))] (by rw [hA0]; rfl) ⟨cell_below (hb2) HR.out.1, cell_below (hb2) HR.out.2.1, cell_below (hb2) HR.out.2.2.1, cell_below (hb2) HR.out.2.2.2⟩ (by rw [hA0]; exact ⟨rfl, rfl, trivial⟩) ?_
     clear hA0
     refine st 0 [5] rfl ?_
     refine st (v := .bool false) 1 [11] rfl ?_
     refine st 2 [12] rfl ?_
     refine st 3 [2] rfl ?_
     refine st 5 [5] rfl ?_
     refine st 4 [14] rfl ?_
     refine sr 6 (sc 6 [16] rfl (HI.out _) ?_)
     rintro en W3 ⟨rfl, rfl⟩
     refine ⟨_, rfl, ⟨cell_below (hb2) HR.out.1, cell_below (hb2) HR.out.2.1, cell_below (hb2) HR.out.2.2.1, cell_below (hb2) HR.out.2.2.2⟩, ?_⟩
     refine sr 7 (sc 7 [15, 17] rfl (TI.out _) ?_)
     rintro en W3 ⟨rfl, hb⟩
     replace hb2 := bl_step hb hb2
     refine ⟨_, rfl, ⟨cell_below (hb2) HR.out.1, cell_below (hb2) HR.out.2.1, cell_below (hb2) HR.out.2.2.1, cell_below (hb2) HR.out.2.2.2⟩, ?_⟩
     clear hb
     refine st 8 [18] rfl ?_
     refine st 9 [13, 19] rfl ?_
     refine st 10 [20] rfl ?_
     refine st 11 [2] rfl ?_
     refine st 13 [5] rfl ?_
     refine st 12 [22] rfl ?_
     refine sr 14 (sc 14 [24] rfl (HN.out _) ?_)
     rintro en W3 ⟨rfl, rfl⟩
     refine ⟨_, rfl, ⟨cell_below (hb2) HR.out.1, cell_below (hb2) HR.out.2.1, cell_below (hb2) HR.out.2.2.1, cell_below (hb2) HR.out.2.2.2⟩, ?_⟩
     refine sr 15 (sc 15 [23, 25] rfl (TN.out _) ?_)
     rintro en W3 ⟨rfl, hb⟩
     replace hb2 := bl_step hb hb2
     refine ⟨_, rfl, ⟨cell_below (hb2) HR.out.1, cell_below (hb2) HR.out.2.1, cell_below (hb2) HR.out.2.2.1, cell_below (hb2) HR.out.2.2.2⟩, ?_⟩
     clear hb
     refine st 16 [26] rfl ?_
     refine st 17 [21, 27] rfl ?_
     refine st 18 [28] rfl ?_
     refine stn 19 rfl ?_
     refine stn 21 rfl ?_
     refine stn 20 rfl ?_
     refine stn 22 rfl ?_
     refine stn 23 rfl ?_
     refine stn 24 rfl ?_
     refine st 25 [29, 35] rfl ?_
     refine st 26 [36] rfl ?_
     refine stn 27 rfl ?_
     refine stn 29 rfl ?_
     refine stn 28 rfl ?_
     refine stn 30 rfl ?_
     refine stn 31 rfl ?_
     refine stn 32 rfl ?_
     refine st 33 [37, 43] rfl ?_
     refine sp_done (fun A hO hN hS => NoPanic.normal ?_)
     obtain ⟨fo, hfo⟩ := hO.lit HA0.out
     have g44 := hN.get 44 rfl
     clear hO hN
     dsimp only [putL, List.set_cons_zero, List.set_cons_succ] at hfo
     subst hfo
     have g44 : fo 44 = .bool true := g44
     go_wp2_with fail
     go_meet
     exact ⟨rfl, hb2⟩
    | true =>
     cases uL with
     | false =>
      refine wp_region_noPanic ?_
      refine wp_region_held_drew (S := fun w' => w'.cell? ⟨w.heap.size, 1, none⟩ = some (.string e.id) ∧ w'.cell? ⟨w.heap.size, 2, none⟩ = some (.string e.name) ∧ w'.cell? ⟨w.heap.size, 3, none⟩ = some (.string e.label) ∧ w'.cell? ⟨w.heap.size, 4, none⟩ = some (.string e.cur)) (by kernel_rfl) HR.out (fun hHeld => ?_)
      refine wpAnyH_world (fun W => Below W1.heap.size W1 W) (bl_drew (bl_refl _)) (fun W2 hb2 => ?_)
      refine wpAnyH_lst #[false, false, false, false, false, false, false, false, false, false, false, false, false, false, false, false, false, false, false, false, false, false, false, false, false, false, false, false, false, false, false, false, false, false] (by rfl) ?_
      clear hHeld
      refine wpAnyH_named (fun A0 hA0 => ?_)
      have HA0 := Lib.hid hA0
      refine sp_in A0 [11, 12, 13, 14, 15, 16, 17, 18, 19, 20, 21, 22, 23, 24, 25, 26, 27, 28, 29, 30, 31, 32, 33, 34, 35, 36, 37, 38, 39, 40, 41, 42, 43, 44] 124 [(5, .string fs), (2, .pointer (some ⟨w.heap.size, 0, none⟩))] (by rw [hA0]; rfl) ⟨cell_below (hb2) HR.out.1, cell_below (hb2) HR.out.2.1, cell_below (hb2) HR.out.2.2.1, cell_below (hb2) HR.out.2.2.2⟩ (by rw [hA0]; exact ⟨rfl, rfl, trivial⟩) ?_
      clear hA0
      refine st 0 [5] rfl ?_
      refine st (v := .bool false) 1 [11] rfl ?_
      refine st 2 [12] rfl ?_
      refine st 3 [2] rfl ?_
      refine st 5 [5] rfl ?_
      refine st 4 [14] rfl ?_
      refine sr 6 (sc 6 [16] rfl (HI.out _) ?_)
      rintro en W3 ⟨rfl, rfl⟩
      refine ⟨_, rfl, ⟨cell_below (hb2) HR.out.1, cell_below (hb2) HR.out.2.1, cell_below (hb2) HR.out.2.2.1, cell_below (hb2) HR.out.2.2.2⟩, ?_⟩
      refine sr 7 (sc 7 [15, 17] rfl (TI.out _) ?_)
      rintro en W3 ⟨rfl, hb⟩
      replace hb2 := bl_step hb hb2
      refine ⟨_, rfl, ⟨cell_below (hb2) HR.out.1, cell_below (hb2) HR.out.2.1, cell_below (hb2) HR.out.2.2.1, cell_below (hb2) HR.out.2.2.2⟩, ?_⟩
      clear hb
      refine st 8 [18] rfl ?_
      refine st 9 [13, 19] rfl ?_
      refine st 10 [20] rfl ?_
      refine st 11 [2] rfl ?_
      refine st 13 [5] rfl ?_
      refine st 12 [22] rfl ?_
      refine sr 14 (sc 14 [24] rfl (HN.out _) ?_)
      rintro en W3 ⟨rfl, rfl⟩
      refine ⟨_, rfl, ⟨cell_below (hb2) HR.out.1, cell_below (hb2) HR.out.2.1, cell_below (hb2) HR.out.2.2.1, cell_below (hb2) HR.out.2.2.2⟩, ?_⟩
      refine sr 15 (sc 15 [23, 25] rfl (TN.out _) ?_)
      rintro en W3 ⟨rfl, hb⟩
      replace hb2 := bl_step hb hb2
      refine ⟨_, rfl, ⟨cell_below (hb2) HR.out.1, cell_below (hb2) HR.out.2.1, cell_below (hb2) HR.out.2.2.1, cell_below (hb2) HR.out.2.2.2⟩, ?_⟩
      clear hb
      refine st 16 [26] rfl ?_
      refine st 17 [21, 27] rfl ?_
      refine st 18 [28] rfl ?_
      refine st 19 [2] rfl ?_
      refine st 21 [5] rfl ?_
      refine st 20 [30] rfl ?_
      refine sr 22 (sc 22 [32] rfl (HL.out _) ?_)
      rintro en W3 ⟨rfl, rfl⟩
      refine ⟨_, rfl, ⟨cell_below (hb2) HR.out.1, cell_below (hb2) HR.out.2.1, cell_below (hb2) HR.out.2.2.1, cell_below (hb2) HR.out.2.2.2⟩, ?_⟩
      refine sr 23 (sc 23 [31, 33] rfl (TL.out _) ?_)
      rintro en W3 ⟨rfl, hb⟩
      replace hb2 := bl_step hb hb2
      refine ⟨_, rfl, ⟨cell_below (hb2) HR.out.1, cell_below (hb2) HR.out.2.1, cell_below (hb2) HR.out.2.2.1, cell_below (hb2) HR.out.2.2.2⟩, ?_⟩
      clear hb
      refine st 24 [34] rfl ?_
      refine st 25 [29, 35] rfl ?_
      refine st 26 [36] rfl ?_
      refine stn 27 rfl ?_
      refine stn 29 rfl ?_
      refine stn 28 rfl ?_
      refine stn 30 rfl ?_
      refine stn 31 rfl ?_
      refine stn 32 rfl ?_
      refine st 33 [37, 43] rfl ?_
      refine sp_done (fun A hO hN hS => NoPanic.normal ?_)
      obtain ⟨fo, hfo⟩ := hO.lit HA0.out
      have g44 := hN.get 44 rfl
      clear hO hN
      dsimp only [putL, List.set_cons_zero, List.set_cons_succ] at hfo
      subst hfo
      have g44 : fo 44 = .bool true := g44
      go_wp2_with fail
      go_meet
      exact ⟨rfl, hb2⟩
     | true =>
      cases uC with
      | false =>
       refine wp_region_noPanic ?_
       refine wp_region_held_drew (S := fun w' => w'.cell? ⟨w.heap.size, 1, none⟩ = some (.string e.id) ∧ w'.cell? ⟨w.heap.size, 2, none⟩ = some (.string e.name) ∧ w'.cell? ⟨w.heap.size, 3, none⟩ = some (.string e.label) ∧ w'.cell? ⟨w.heap.size, 4, none⟩ = some (.string e.cur)) (by kernel_rfl) HR.out (fun hHeld => ?_)
       refine wpAnyH_world (fun W => Below W1.heap.size W1 W) (bl_drew (bl_refl _)) (fun W2 hb2 => ?_)
       refine wpAnyH_lst #[false, false, false, false, false, false, false, false, false, false, false, false, false, false, false, false, false, false, false, false, false, false, false, false, false, false, false, false, false, false, false, false, false, false] (by rfl) ?_
       clear hHeld
       refine wpAnyH_named (fun A0 hA0 => ?_)
       have HA0 := Lib.hid hA0
       refine sp_in A0 [11, 12, 13, 14, 15, 16, 17, 18, 19, 20, 21, 22, 23, 24, 25, 26, 27, 28, 29, 30, 31, 32, 33, 34, 35, 36, 37, 38, 39, 40, 41, 42, 43, 44] 124 [(5, .string fs), (2, .pointer (some ⟨w.heap.size, 0, none⟩))] (by rw [hA0]; rfl) ⟨cell_below (hb2) HR.out.1, cell_below (hb2) HR.out.2.1, cell_below (hb2) HR.out.2.2.1, cell_below (hb2) HR.out.2.2.2⟩ (by rw [hA0]; exact ⟨rfl, rfl, trivial⟩) ?_
       clear hA0
       refine st 0 [5] rfl ?_
       refine st (v := .bool false) 1 [11] rfl ?_
       refine st 2 [12] rfl ?_
       refine st 3 [2] rfl ?_
       refine st 5 [5] rfl ?_
       refine st 4 [14] rfl ?_
       refine sr 6 (sc 6 [16] rfl (HI.out _) ?_)
       rintro en W3 ⟨rfl, rfl⟩
       refine ⟨_, rfl, ⟨cell_below (hb2) HR.out.1, cell_below (hb2) HR.out.2.1, cell_below (hb2) HR.out.2.2.1, cell_below (hb2) HR.out.2.2.2⟩, ?_⟩
       refine sr 7 (sc 7 [15, 17] rfl (TI.out _) ?_)
       rintro en W3 ⟨rfl, hb⟩
       replace hb2 := bl_step hb hb2
       refine ⟨_, rfl, ⟨cell_below (hb2) HR.out.1, cell_below (hb2) HR.out.2.1, cell_below (hb2) HR.out.2.2.1, cell_below (hb2) HR.out.2.2.2⟩, ?_⟩
       clear hb
       refine st 8 [18] rfl ?_
       refine st 9 [13, 19] rfl ?_
       refine st 10 [20] rfl ?_
       refine st 11 [2] rfl ?_
       refine st 13 [5] rfl ?_
       refine st 12 [22] rfl ?_
       refine sr 14 (sc 14 [24] rfl (HN.out _) ?_)
       rintro en W3 ⟨rfl, rfl⟩
       refine ⟨_, rfl, ⟨cell_below (hb2) HR.out.1, cell_below (hb2) HR.out.2.1, cell_below (hb2) HR.out.2.2.1, cell_below (hb2) HR.out.2.2.2⟩, ?_⟩
       refine sr 15 (sc 15 [23, 25] rfl (TN.out _) ?_)
       rintro en W3 ⟨rfl, hb⟩
       replace hb2 := bl_step hb hb2
       refine ⟨_, rfl, ⟨cell_below (hb2) HR.out.1, cell_below (hb2) HR.out.2.1, cell_below (hb2) HR.out.2.2.1, cell_below (hb2) HR.out.2.2.2⟩, ?_⟩
       clear hb
       refine st 16 [26] rfl ?_
       refine st 17 [21, 27] rfl ?_
       refine st 18 [28] rfl ?_
       refine st 19 [2] rfl ?_
       refine st 21 [5] rfl ?_
       refine st 20 [30] rfl ?_
       refine sr 22 (sc 22 [32] rfl (HL.out _) ?_)
       rintro en W3 ⟨rfl, rfl⟩
       refine ⟨_, rfl, ⟨cell_below (hb2) HR.out.1, cell_below (hb2) HR.out.2.1, cell_below (hb2) HR.out.2.2.1, cell_below (hb2) HR.out.2.2.2⟩, ?_⟩
       refine sr 23 (sc 23 [31, 33] rfl (TL.out _) ?_)
       rintro en W3 ⟨rfl, hb⟩
       replace hb2 := bl_step hb hb2
       refine ⟨_, rfl, ⟨cell_below (hb2) HR.out.1, cell_below (hb2) HR.out.2.1, cell_below (hb2) HR.out.2.2.1, cell_below (hb2) HR.out.2.2.2⟩, ?_⟩
       clear hb
       refine st 24 [34] rfl ?_
       refine st 25 [29, 35] rfl ?_
       refine st 26 [36] rfl ?_
       refine st 27 [2] rfl ?_
       refine st 29 [5] rfl ?_
       refine st 28 [38] rfl ?_
       refine sr 30 (sc 30 [40] rfl (HC.out _) ?_)
       rintro en W3 ⟨rfl, rfl⟩
       refine ⟨_, rfl, ⟨cell_below (hb2) HR.out.1, cell_below (hb2) HR.out.2.1, cell_below (hb2) HR.out.2.2.1, cell_below (hb2) HR.out.2.2.2⟩, ?_⟩
       refine sr 31 (sc 31 [39, 41] rfl (TC.out _) ?_)
       rintro en W3 ⟨rfl, hb⟩
       replace hb2 := bl_step hb hb2
       refine ⟨_, rfl, ⟨cell_below (hb2) HR.out.1, cell_below (hb2) HR.out.2.1, cell_below (hb2) HR.out.2.2.1, cell_below (hb2) HR.out.2.2.2⟩, ?_⟩
       clear hb
       refine st 32 [42] rfl ?_
       refine st 33 [37, 43] rfl ?_
       refine sp_done (fun A hO hN hS => NoPanic.normal ?_)
       obtain ⟨fo, hfo⟩ := hO.lit HA0.out
       have g44 := hN.get 44 rfl
       clear hO hN
       dsimp only [putL, List.set_cons_zero, List.set_cons_succ] at hfo
       subst hfo
       have g44 : fo 44 = .bool true := g44
       go_wp2_with fail
       go_meet
       exact ⟨rfl, hb2⟩
      | true =>
       refine wp_region_noPanic ?_
       refine wp_region_held_drew (S := fun w' => w'.cell? ⟨w.heap.size, 1, none⟩ = some (.string e.id) ∧ w'.cell? ⟨w.heap.size, 2, none⟩ = some (.string e.name) ∧ w'.cell? ⟨w.heap.size, 3, none⟩ = some (.string e.label) ∧ w'.cell? ⟨w.heap.size, 4, none⟩ = some (.string e.cur)) (by kernel_rfl) HR.out (fun hHeld => ?_)
       refine wpAnyH_world (fun W => Below W1.heap.size W1 W) (bl_drew (bl_refl _)) (fun W2 hb2 => ?_)
       refine wpAnyH_lst #[false, false, false, false, false, false, false, false, false, false, false, false, false, false, false, false, false, false, false, false, false, false, false, false, false, false, false, false, false, false, false, false, false, false] (by rfl) ?_
       clear hHeld
       refine wpAnyH_named (fun A0 hA0 => ?_)
       have HA0 := Lib.hid hA0
       refine sp_in A0 [11, 12, 13, 14, 15, 16, 17, 18, 19, 20, 21, 22, 23, 24, 25, 26, 27, 28, 29, 30, 31, 32, 33, 34, 35, 36, 37, 38, 39, 40, 41, 42, 43, 44] 124 [(5, .string fs), (2, .pointer (some ⟨w.heap.size, 0, none⟩))] (by rw [hA0]; rfl) ⟨cell_below (hb2) HR.out.1, cell_below (hb2) HR.out.2.1, cell_below (hb2) HR.out.2.2.1, cell_below (hb2) HR.out.2.2.2⟩ (by rw [hA0]; exact ⟨rfl, rfl, trivial⟩) ?_
       clear hA0
       refine st 0 [5] rfl ?_
       refine st (v := .bool false) 1 [11] rfl ?_
       refine st 2 [12] rfl ?_
       refine st 3 [2] rfl ?_
       refine st 5 [5] rfl ?_
       refine st 4 [14] rfl ?_
       refine sr 6 (sc 6 [16] rfl (HI.out _) ?_)
       rintro en W3 ⟨rfl, rfl⟩
       refine ⟨_, rfl, ⟨cell_below (hb2) HR.out.1, cell_below (hb2) HR.out.2.1, cell_below (hb2) HR.out.2.2.1, cell_below (hb2) HR.out.2.2.2⟩, ?_⟩
       refine sr 7 (sc 7 [15, 17] rfl (TI.out _) ?_)
       rintro en W3 ⟨rfl, hb⟩
       replace hb2 := bl_step hb hb2
       refine ⟨_, rfl, ⟨cell_below (hb2) HR.out.1, cell_below (hb2) HR.out.2.1, cell_below (hb2) HR.out.2.2.1, cell_below (hb2) HR.out.2.2.2⟩, ?_⟩
       clear hb
       refine st 8 [18] rfl ?_
       refine st 9 [13, 19] rfl ?_
       refine st 10 [20] rfl ?_
       refine st 11 [2] rfl ?_
       refine st 13 [5] rfl ?_
       refine st 12 [22] rfl ?_
       refine sr 14 (sc 14 [24] rfl (HN.out _) ?_)
       rintro en W3 ⟨rfl, rfl⟩
       refine ⟨_, rfl, ⟨cell_below (hb2) HR.out.1, cell_below (hb2) HR.out.2.1, cell_below (hb2) HR.out.2.2.1, cell_below (hb2) HR.out.2.2.2⟩, ?_⟩
       refine sr 15 (sc 15 [23, 25] rfl (TN.out _) ?_)
       rintro en W3 ⟨rfl, hb⟩
       replace hb2 := bl_step hb hb2
       refine ⟨_, rfl, ⟨cell_below (hb2) HR.out.1, cell_below (hb2) HR.out.2.1, cell_below (hb2) HR.out.2.2.1, cell_below (hb2) HR.out.2.2.2⟩, ?_⟩
       clear hb
       refine st 16 [26] rfl ?_
       refine st 17 [21, 27] rfl ?_
       refine st 18 [28] rfl ?_
       refine st 19 [2] rfl ?_
       refine st 21 [5] rfl ?_
       refine st 20 [30] rfl ?_
       refine sr 22 (sc 22 [32] rfl (HL.out _) ?_)
       rintro en W3 ⟨rfl, rfl⟩
       refine ⟨_, rfl, ⟨cell_below (hb2) HR.out.1, cell_below (hb2) HR.out.2.1, cell_below (hb2) HR.out.2.2.1, cell_below (hb2) HR.out.2.2.2⟩, ?_⟩
       refine sr 23 (sc 23 [31, 33] rfl (TL.out _) ?_)
       rintro en W3 ⟨rfl, hb⟩
       replace hb2 := bl_step hb hb2
       refine ⟨_, rfl, ⟨cell_below (hb2) HR.out.1, cell_below (hb2) HR.out.2.1, cell_below (hb2) HR.out.2.2.1, cell_below (hb2) HR.out.2.2.2⟩, ?_⟩
       clear hb
       refine st 24 [34] rfl ?_
       refine st 25 [29, 35] rfl ?_
       refine st 26 [36] rfl ?_
       refine st 27 [2] rfl ?_
       refine st 29 [5] rfl ?_
       refine st 28 [38] rfl ?_
       refine sr 30 (sc 30 [40] rfl (HC.out _) ?_)
       rintro en W3 ⟨rfl, rfl⟩
       refine ⟨_, rfl, ⟨cell_below (hb2) HR.out.1, cell_below (hb2) HR.out.2.1, cell_below (hb2) HR.out.2.2.1, cell_below (hb2) HR.out.2.2.2⟩, ?_⟩
       refine sr 31 (sc 31 [39, 41] rfl (TC.out _) ?_)
       rintro en W3 ⟨rfl, hb⟩
       replace hb2 := bl_step hb hb2
       refine ⟨_, rfl, ⟨cell_below (hb2) HR.out.1, cell_below (hb2) HR.out.2.1, cell_below (hb2) HR.out.2.2.1, cell_below (hb2) HR.out.2.2.2⟩, ?_⟩
       clear hb
       refine st 32 [42] rfl ?_
       refine st 33 [37, 43] rfl ?_
       refine sp_done (fun A hO hN hS => NoPanic.normal ?_)
       obtain ⟨fo, hfo⟩ := hO.lit HA0.out
       have g44 := hN.get 44 rfl
       clear hO hN
       dsimp only [putL, List.set_cons_zero, List.set_cons_succ] at hfo
       subst hfo
       have g44 : fo 44 = .bool false := g44
       go_wp2_with fail
       go_meet
       exact ⟨rfl, hb2⟩
 obtain ⟨rfl, hb⟩ := hcut
 rename World => w2
 have HKB2 := Lib.hid (HKB.out.below hb); have HT2 := Lib.hid (HT1.out.below hb); have HB2 := Lib.hid (bl_step hb HB1.out)
 clear f0 f1 f2 f3 f4 f5 f6 f7 f8 f9 f10 hb HKB HT1 HB1 HW1 HFL HI HN HL HC TI TN TL TC hq2
 obtain ⟨f0, f1, f2, f3, f4, f5, f6, f7, f8, f9, f10⟩ := HKB2.out.eleven
 generalize (q || !uI || !uN || !uL || !uC) = p2 at *
 cases p2 with
 | true =>
  go_wp2_with fail
  go_ret
  exact ⟨by rw [HDEF.out]; rfl, HB2.out⟩
 | false =>
 go_upto_region 4 with fail
 go_cut [86] (fun v wx => v = .bool (r4B gD gV va e.day e.value) ∧ wx = w2)
 case first =>
  unfold IsInt64 at hk hdy hvl
  cases gD with
  | true =>
   by_cases a1 : e.day < 0
   ·skip
    go_wp2_with fail
    refine (HD.out _).mono ?_
    rintro en w3 ⟨rfl, rfl⟩
    go_wp2_with fail
    go_meet
    exact ⟨by simp [r4B, a1], rfl⟩
   by_cases a2 : 10000 < e.day
   ·skip
    go_wp2_with fail
    refine (HD.out _).mono ?_
    rintro en w3 ⟨rfl, rfl⟩
    go_wp2_with fail
    go_meet
    exact ⟨by simp [r4B, a1, a2], rfl⟩
   cases gV with
   | true =>
    cases va with
    | true =>
     go_wp2_with fail
     refine (HD.out _).mono ?_
     rintro en w3 ⟨rfl, rfl⟩
     go_wp2_with fail
     refine (HD.out _).mono ?_
     rintro en w3 ⟨rfl, rfl⟩
     go_wp2_with fail
     refine (HV.out _).mono ?_
     rintro en w3 ⟨rfl, rfl⟩
     go_wp2_with fail
     refine (HVA.out _).mono ?_
     rintro en w3 ⟨rfl, rfl⟩
     go_wp2_with fail
     refine (HV.out _).mono ?_
     rintro en w3 ⟨rfl, rfl⟩
     go_wp2_with fail
     go_meet
     exact ⟨by simp [r4B, a1, a2], rfl⟩
    | false =>
     go_wp2_with fail
     refine (HD.out _).mono ?_
     rintro en w3 ⟨rfl, rfl⟩
     go_wp2_with fail
     refine (HD.out _).mono ?_
     rintro en w3 ⟨rfl, rfl⟩
     go_wp2_with fail
     refine (HV.out _).mono ?_
     rintro en w3 ⟨rfl, rfl⟩
     go_wp2_with fail
     refine (HVA.out _).mono ?_
     rintro en w3 ⟨rfl, rfl⟩
     go_wp2_with fail
     go_meet
     exact ⟨by simp [r4B, a1, a2], rfl⟩
   | false =>
    by_cases a4 : e.value = 0
    ·have n4 : (e.value != 0) = false := (by simpa using a4); have E4 := Lib.hid a4; clear a4
     go_wp2_with fail
     refine (HD.out _).mono ?_
     rintro en w3 ⟨rfl, rfl⟩
     go_wp2_with fail
     refine (HD.out _).mono ?_
     rintro en w3 ⟨rfl, rfl⟩
     go_wp2_with fail
     refine (HV.out _).mono ?_
     rintro en w3 ⟨rfl, rfl⟩
     go_wp2_with fail
     refine (HV.out _).mono ?_
     rintro en w3 ⟨rfl, rfl⟩
     go_wp2_with fail
     go_meet
     exact ⟨by simp [r4B, a1, a2, E4.out], rfl⟩
    ·have n4 : (e.value != 0) = true := by simpa using a4
     go_wp2_with fail
     refine (HD.out _).mono ?_
     rintro en w3 ⟨rfl, rfl⟩
     go_wp2_with fail
     refine (HD.out _).mono ?_
     rintro en w3 ⟨rfl, rfl⟩
     go_wp2_with fail
     refine (HV.out _).mono ?_
     rintro en w3 ⟨rfl, rfl⟩
     go_wp2_with fail
     refine (HV.out _).mono ?_
     rintro en w3 ⟨rfl, rfl⟩
     go_wp2_with fail
     go_meet
     exact ⟨by simp [r4B, a1, a2, a4], rfl⟩
  | false =>
   by_cases a3 : e.day = 0
   ·have n3 : (e.day != 0) = false := (by simpa using a3); have E3 := Lib.hid a3; clear a3
    cases gV with
    | true =>
     cases va with
     | true =>
      go_wp2_with fail
      refine (HD.out _).mono ?_
      rintro en w3 ⟨rfl, rfl⟩
      go_wp2_with fail
      refine (HD.out _).mono ?_
      rintro en w3 ⟨rfl, rfl⟩
      go_wp2_with fail
      refine (HV.out _).mono ?_
      rintro en w3 ⟨rfl, rfl⟩
      go_wp2_with fail
      refine (HVA.out _).mono ?_
      rintro en w3 ⟨rfl, rfl⟩
      go_wp2_with fail
      refine (HV.out _).mono ?_
      rintro en w3 ⟨rfl, rfl⟩
      go_wp2_with fail
      go_meet
      exact ⟨by simp [r4B, E3.out], rfl⟩
     | false =>
      go_wp2_with fail
      refine (HD.out _).mono ?_
      rintro en w3 ⟨rfl, rfl⟩
      go_wp2_with fail
      refine (HD.out _).mono ?_
      rintro en w3 ⟨rfl, rfl⟩
      go_wp2_with fail
      refine (HV.out _).mono ?_
      rintro en w3 ⟨rfl, rfl⟩
      go_wp2_with fail
      refine (HVA.out _).mono ?_
      rintro en w3 ⟨rfl, rfl⟩
      go_wp2_with fail
      go_meet
      exact ⟨by simp [r4B, E3.out], rfl⟩
    | false =>
     by_cases a4 : e.value = 0
     ·have n4 : (e.value != 0) = false := (by simpa using a4); have E4 := Lib.hid a4; clear a4
      go_wp2_with fail
      refine (HD.out _).mono ?_
      rintro en w3 ⟨rfl, rfl⟩
      go_wp2_with fail
      refine (HD.out _).mono ?_
      rintro en w3 ⟨rfl, rfl⟩
      go_wp2_with fail
      refine (HV.out _).mono ?_
      rintro en w3 ⟨rfl, rfl⟩
      go_wp2_with fail
      refine (HV.out _).mono ?_
      rintro en w3 ⟨rfl, rfl⟩
      go_wp2_with fail
      go_meet
      exact ⟨by simp [r4B, E3.out, E4.out], rfl⟩
     ·have n4 : (e.value != 0) = true := by simpa using a4
      go_wp2_with fail
      refine (HD.out _).mono ?_
      rintro en w3 ⟨rfl, rfl⟩
      go_wp2_with fail
      refine (HD.out _).mono ?_
      rintro en w3 ⟨rfl, rfl⟩
      go_wp2_with fail
      refine (HV.out _).mono ?_
      rintro en w3 ⟨rfl, rfl⟩
      go_wp2_with fail
      refine (HV.out _).mono ?_
      rintro en w3 ⟨rfl, rfl⟩
      go_wp2_with fail
      go_meet
      exact ⟨by simp [r4B, E3.out, a4], rfl⟩
   ·have n3 : (e.day != 0) = true := by simpa using a3
    go_wp2_with fail
    refine (HD.out _).mono ?_
    rintro en w3 ⟨rfl, rfl⟩
    go_wp2_with fail
    refine (HD.out _).mono ?_
    rintro en w3 ⟨rfl, rfl⟩
    go_wp2_with fail
    go_meet
    exact ⟨by simp [r4B, a3], rfl⟩
 obtain ⟨rfl, rfl⟩ := hcut
 rename World => w2
 generalize r4B gD gV va e.day e.value = p4 at *
 cases p4 with
 | true =>
  go_wp2_with fail
  go_ret
  exact ⟨by rw [HDEF.out]; rfl, HB2.out⟩
 | false =>
 go_upto_region 6 with fail
 go_cut [113] (fun v wx => v = .bool (r6B gT odd e.kind tk e.value) ∧ wx = w2)
 case first =>
  unfold IsInt64 at hk hdy hvl
  cases gT with
  | true =>
   by_cases b1 : e.kind = 4
   ·have m1 : (e.kind == 4) = true := (by simpa using b1); have B1 := Lib.hid b1; clear b1
    by_cases b2 : e.value < 0
    ·skip
     go_wp2_with fail
     refine (HTT.out _).mono ?_
     rintro en w3 ⟨rfl, rfl⟩
     go_wp2_with fail
     go_meet
     exact ⟨by simp [r6B, B1.out, b2], rfl⟩
    by_cases b3 : 1 < e.value
    ·skip
     go_wp2_with fail
     refine (HTT.out _).mono ?_
     rintro en w3 ⟨rfl, rfl⟩
     go_wp2_with fail
     go_meet
     exact ⟨by simp [r6B, B1.out, b2, b3], rfl⟩
    go_wp2_with fail
    refine (HTT.out _).mono ?_
    rintro en w3 ⟨rfl, rfl⟩
    go_wp2_with fail
    go_meet
    exact ⟨by simp [r6B, B1.out, b2, b3], rfl⟩
   ·have m1 : (e.kind == 4) = false := by simpa using b1
    go_wp2_with fail
    refine (HTT.out _).mono ?_
    rintro en w3 ⟨rfl, rfl⟩
    go_wp2_with fail
    go_meet
    exact ⟨by simp [r6B, b1], rfl⟩
  | false =>
   by_cases c1 : tk = 0
   ·have m2 : (tk != 0) = false := (by simpa using c1); have C1 := Lib.hid c1; clear c1
    cases odd with
    | true =>
     go_wp2_with fail
     refine (HTT.out _).mono ?_
     rintro en w3 ⟨rfl, rfl⟩
     go_wp2_with fail
     go_meet
     exact ⟨by simp [r6B, C1.out], rfl⟩
    | false =>
     by_cases b1 : e.kind = 4
     ·have m1 : (e.kind == 4) = true := (by simpa using b1); have B1 := Lib.hid b1; clear b1
      by_cases b2 : e.value < 0
      ·skip
       go_wp2_with fail
       refine (HTT.out _).mono ?_
       rintro en w3 ⟨rfl, rfl⟩
       go_wp2_with fail
       go_meet
       exact ⟨by simp [r6B, C1.out, B1.out, b2], rfl⟩
      by_cases b3 : 1 < e.value
      ·skip
       go_wp2_with fail
       refine (HTT.out _).mono ?_
       rintro en w3 ⟨rfl, rfl⟩
       go_wp2_with fail
       go_meet
       exact ⟨by simp [r6B, C1.out, B1.out, b2, b3], rfl⟩
      go_wp2_with fail
      refine (HTT.out _).mono ?_
      rintro en w3 ⟨rfl, rfl⟩
      go_wp2_with fail
      go_meet
      exact ⟨by simp [r6B, C1.out, B1.out, b2, b3], rfl⟩
     ·have m1 : (e.kind == 4) = false := by simpa using b1
      go_wp2_with fail
      refine (HTT.out _).mono ?_
      rintro en w3 ⟨rfl, rfl⟩
      go_wp2_with fail
      go_meet
      exact ⟨by simp [r6B, C1.out, b1], rfl⟩
   ·have m2 : (tk != 0) = true := by simpa using c1
    go_wp2_with fail
    refine (HTT.out _).mono ?_
    rintro en w3 ⟨rfl, rfl⟩
    go_wp2_with fail
    go_meet
    exact ⟨by simp [r6B, c1], rfl⟩
 obtain ⟨rfl, rfl⟩ := hcut
 rename World => w2
 generalize r6B gT odd e.kind tk e.value = p6 at *
 cases p6 with
 | true =>
  go_wp2_with fail
  go_ret
  exact ⟨by rw [HDEF.out]; rfl, HB2.out⟩
 | false =>
 by_cases hk2 : e.kind = 2
 ·have m2 : (e.kind == 2) = true := by simpa using hk2
  have HK2 := Lib.hid hk2
  clear hk2
  go_wp2_with fail
  refine (HWR.out _ HT2.out).mono ?_
  rintro en w3 ⟨rfl, hb3⟩
  go_wp2_with fail
  go_ret
  exact ⟨by rw [HDEF.out, if_pos HK2.out]; rfl, bl_step hb3 HB2.out⟩
 ·have m2 : (e.kind == 2) = false := by simpa using hk2
  have HK2 := Lib.hid hk2
  clear hk2
  go_wp2_with fail
  go_ret
  exact ⟨by rw [HDEF.out, if_neg HK2.out]; rfl, HB2.out⟩
theorem hasB_73 (k : Int) : hasB k 73 = hasL k 73 := by unfold hasB hasL fieldsL; (repeat' split) <;> decide
theorem hasB_78 (k : Int) : hasB k 78 = hasL k 78 := by unfold hasB hasL fieldsL; (repeat' split) <;> decide
theorem hasB_76 (k : Int) : hasB k 76 = hasL k 76 := by unfold hasB hasL fieldsL; (repeat' split) <;> decide
theorem hasB_67 (k : Int) : hasB k 67 = hasL k 67 := by unfold hasB hasL fieldsL; (repeat' split) <;> decide
theorem hasB_68 (k : Int) : hasB k 68 = hasL k 68 := by unfold hasB hasL fieldsL; (repeat' split) <;> decide
theorem hasB_86 (k : Int) : hasB k 86 = hasL k 86 := by unfold hasB hasL fieldsL; (repeat' split) <;> decide
theorem hasB_84 (k : Int) : hasB k 84 = hasL k 84 := by unfold hasB hasL fieldsL; (repeat' split) <;> decide
theorem textB_eq (s : ByteArray) (h : Bool) : textB s h = ((s.toList.isEmpty || h) && (!h || nameB s)) := by unfold textB; cases h <;> simp
theorem r4B_eq (hD hV : Bool) (day value : Int) : r4B hD hV (validB value) day value = !(((day == 0 || hD) && !(decide (day < 0) || decide (10000 < day))) && ((value == 0 || hV) && validB value)) := by
 have h0 : validB 0 = true := by decide
 unfold r4B
 by_cases a : day = 0
 ·subst a
  by_cases b : value = 0
  ·subst b; rw [h0]; cases hD <;> cases hV <;> rfl
  ·have b' : (value == 0) = false := by simpa using b
   have b2 : (value != 0) = true := by simpa using b
   rw [b', b2]
   cases hD <;> cases hV <;> cases validB value <;> rfl
 ·have a' : (day == 0) = false := by simpa using a
  have a2 : (day != 0) = true := by simpa using a
  rw [a', a2]
  generalize (decide (day < 0) || decide (10000 < day)) = x
  by_cases b : value = 0
  ·subst b; rw [h0]; cases hD <;> cases hV <;> cases x <;> rfl
  ·have b' : (value == 0) = false := by simpa using b
   have b2 : (value != 0) = true := by simpa using b
   rw [b', b2]
   cases hD <;> cases hV <;> cases validB value <;> cases x <;> rfl
theorem Ev.rcheck_eq (e : Ev) (odd : Bool) (hn : e.term.isNil = !(e.term.tr.kind != 0 || odd)) (hw : e.kind = 2 → (e.term.tr.write false).2 = e.term.write.2) : e.rcheck odd = e.check := by
 unfold Ev.rcheck Ev.check
 rw [r4B_eq]
 have h4 : (r6B (hasL e.kind 84) odd e.kind e.term.tr.kind e.value = true) ↔ ((e.term.isNil || hasL e.kind 84) = false ∨ (e.kind = 4 ∧ e.value ≠ 0 ∧ e.value ≠ 1)) := by
  unfold r6B
  rw [hn]
  generalize (e.term.tr.kind != 0 || odd) = z
  cases hasL e.kind 84 <;> cases z <;> simp <;> omega
 have ho : e.only = ((((e.id.toList.isEmpty || hasL e.kind 73) && ((e.name.toList.isEmpty || hasL e.kind 78) && ((e.label.toList.isEmpty || hasL e.kind 76) && (e.cur.toList.isEmpty || hasL e.kind 67))))) && ((e.day == 0 || hasL e.kind 68) && ((e.value == 0 || hasL e.kind 86) && (e.term.isNil || hasL e.kind 84)))) := by
  unfold Ev.only Ev.onlyT Ev.onlyR Ev.texts
  simp [hasB_73, hasB_78, hasB_76, hasB_67, hasB_68, hasB_86, hasB_84]
 have hm : e.named = ((!hasL e.kind 73 || nameB e.id) && ((!hasL e.kind 78 || nameB e.name) && ((!hasL e.kind 76 || nameB e.label) && (!hasL e.kind 67 || nameB e.cur)))) := by
  unfold Ev.named Ev.texts
  simp [hasB_73, hasB_78, hasB_76, hasB_67]
 rw [ho, hm, textB_eq, textB_eq, textB_eq, textB_eq]
 clear ho hm
 have h2 : (if e.kind = 2 then (e.term.tr.write false).2 else (0 : Int)) = if e.kind = 2 then e.term.write.2 else 0 := by
  split
  ·exact hw ‹_›
  ·rfl
 rw [h2]
 have hd : (e.day < 0 ∨ 10000 < e.day ∨ validB e.value = false) ↔ ((decide (e.day < 0) || decide (10000 < e.day)) = true ∨ validB e.value = false) := by simp [or_assoc]
 simp only [h4, hd]
 generalize (e.id.toList.isEmpty || hasL e.kind 73) = x1
 generalize (e.name.toList.isEmpty || hasL e.kind 78) = x2
 generalize (e.label.toList.isEmpty || hasL e.kind 76) = x3
 generalize (e.cur.toList.isEmpty || hasL e.kind 67) = x4
 generalize (!hasL e.kind 73 || nameB e.id) = y1
 generalize (!hasL e.kind 78 || nameB e.name) = y2
 generalize (!hasL e.kind 76 || nameB e.label) = y3
 generalize (!hasL e.kind 67 || nameB e.cur) = y4
 generalize (e.day == 0 || hasL e.kind 68) = z1
 generalize (e.value == 0 || hasL e.kind 86) = z2
 generalize (e.term.isNil || hasL e.kind 84) = z3
 generalize (decide (e.day < 0) || decide (10000 < e.day)) = z4
 generalize validB e.value = z5
 generalize qB e.kind = q
 by_cases h5 : e.kind = 4 ∧ e.value ≠ 0 ∧ e.value ≠ 1
 ·simp only [h5, or_true, if_true, and_self, ne_eq, not_false_eq_true]
  simp
 ·simp only [h5, or_false, if_false]
  cases q
  ·cases x1 <;> cases x2 <;> cases x3 <;> cases x4 <;> first | (simp; done) | skip
   cases y1 <;> cases y2 <;> cases y3 <;> cases y4 <;> first | (simp; done) | skip
   cases z1 <;> cases z2 <;> cases z3 <;> cases z4 <;> cases z5 <;> simp
  ·simp
def Ev.rsame (a b : Ev) : Bool := a.rest b && ((a.term.tr.kind == 0 && b.term.tr.kind == 0) || a.term.tr.same b.term.tr)
set_option maxRecDepth 100000 in
set_option maxHeartbeats 8000000 in
theorem revsame_calls (a b : Ev) (hta : a.term.tr.size ≤ 1000000) (htb : b.term.tr.size ≤ 1000000) (x : Nat) (w : World) (va vb : Value) (hva : EvAt x w a va) (hvb : EvAt x w b vb) :
  Calls Tryz.prog 18 #[va, vb] w fun en w' => en = .returned (.bool (a.rsame b)) ∧ Below w.heap.size w w' := by
 obtain ⟨p0, p1, p2, p3, rfl, hTa⟩ := hva
 obtain ⟨q0, q1, q2, q3, rfl, hTb⟩ := hvb
 have hsm := fun W (h1 : TrAt x W a.term.tr (.agg #[p0, p1, p2, p3])) (h2 : TrAt x W b.term.tr (.agg #[q0, q1, q2, q3])) => rsame_calls a.term.tr.size hta a.term.tr b.term.tr (Nat.le_refl _) x W _ _ h1 h2 htb
 obtain ⟨A1, cc1, cs1, hag, -, -⟩ := hTa.open_
 have hcc : p0 = .int .i64 a.term.tr.kind ∧ p1 = .string a.term.tr.s ∧ p2 = .int .i64 a.term.tr.n ∧ p3 = .slice A1 a.term.tr.ks.length cc1 := by injection hag with hag; simp at hag; exact hag
 obtain ⟨rfl, rfl, rfl, rfl⟩ := hcc
 clear hag
 obtain ⟨A2, cc2, cs2, hag, -, -⟩ := hTb.open_
 have hcc : q0 = .int .i64 b.term.tr.kind ∧ q1 = .string b.term.tr.s ∧ q2 = .int .i64 b.term.tr.n ∧ q3 = .slice A2 b.term.tr.ks.length cc2 := by injection hag with hag; simp at hag; exact hag
 obtain ⟨rfl, rfl, rfl, rfl⟩ := hcc
 clear hag hta htb
 have HDEF : Hid (a.rsame b = ((a.kind == b.kind && (a.id.toList == b.id.toList && (a.name.toList == b.name.toList && (a.label.toList == b.label.toList && (a.cur.toList == b.cur.toList && (a.day == b.day && a.value == b.value)))))) && ((a.term.tr.kind == 0 && b.term.tr.kind == 0) || a.term.tr.same b.term.tr))) := rfl
 generalize a.rsame b = res at *
 generalize a.term.tr.same b.term.tr = sm at *
 generalize a.kind = k1 at *
 generalize a.id = i1 at *
 generalize a.name = n1 at *
 generalize a.label = l1 at *
 generalize a.cur = c1 at *
 generalize a.day = d1 at *
 generalize a.value = v1 at *
 generalize a.term.tr.kind = tk1 at *
 generalize a.term.tr.s = ts1 at *
 generalize a.term.tr.n = tn1 at *
 generalize a.term.tr.ks.length = tl1 at *
 generalize b.kind = k2 at *
 generalize b.id = i2 at *
 generalize b.name = n2 at *
 generalize b.label = l2 at *
 generalize b.cur = c2 at *
 generalize b.day = d2 at *
 generalize b.value = v2 at *
 generalize b.term.tr.kind = tk2 at *
 generalize b.term.tr.s = ts2 at *
 generalize b.term.tr.n = tn2 at *
 generalize b.term.tr.ks.length = tl2 at *
 obtain ⟨W1, hW1⟩ : ∃ W1, (w.alloc (.cells #[.int .i64 k1, .string i1, .string n1, .string l1, .string c1, .int .i64 d1, .int .i64 v1, .int .i64 tk1, .string ts1, .int .i64 tn1, .slice A1 tl1 cc1] 35)).alloc (.cells #[.int .i64 k2, .string i2, .string n2, .string l2, .string c2, .int .i64 d2, .int .i64 v2, .int .i64 tk2, .string ts2, .int .i64 tn2, .slice A2 tl2 cc2] 35) = W1 := ⟨_, rfl⟩
 have hkb := (Blk.new w #[.int .i64 k1, .string i1, .string n1, .string l1, .string c1, .int .i64 d1, .int .i64 v1, .int .i64 tk1, .string ts1, .int .i64 tn1, .slice A1 tl1 cc1] 35).below (bl_alloc (bl_refl _) (.cells #[.int .i64 k2, .string i2, .string n2, .string l2, .string c2, .int .i64 d2, .int .i64 v2, .int .i64 tk2, .string ts2, .int .i64 tn2, .slice A2 tl2 cc2] 35))
 have hkc := Blk_new (w.alloc (.cells #[.int .i64 k1, .string i1, .string n1, .string l1, .string c1, .int .i64 d1, .int .i64 v1, .int .i64 tk1, .string ts1, .int .i64 tn1, .slice A1 tl1 cc1] 35)) #[.int .i64 k2, .string i2, .string n2, .string l2, .string c2, .int .i64 d2, .int .i64 v2, .int .i64 tk2, .string ts2, .int .i64 tn2, .slice A2 tl2 cc2] 35 (w.heap.size + 1) (by simp)
 have hB1 := bl_alloc (bl_alloc (bl_refl w) (.cells #[.int .i64 k1, .string i1, .string n1, .string l1, .string c1, .int .i64 d1, .int .i64 v1, .int .i64 tk1, .string ts1, .int .i64 tn1, .slice A1 tl1 cc1] 35)) (.cells #[.int .i64 k2, .string i2, .string n2, .string l2, .string c2, .int .i64 d2, .int .i64 v2, .int .i64 tk2, .string ts2, .int .i64 tn2, .slice A2 tl2 cc2] 35)
 have hTa1 := hTa.below hB1
 have hTb1 := hTb.below hB1
 rw [hW1] at hkb hkc hB1 hTa1 hTb1
 have HW1 := Lib.hid hW1; have HB1 := Lib.hid hB1; have HTA := Lib.hid hTa1; have HTB := Lib.hid hTb1; have HSM := Lib.hid hsm
 clear hW1 hB1 hTa1 hTb1 hTa hTb hsm
 obtain ⟨f0, f1, f2, f3, f4, f5, f6, f7, f8, f9, f10⟩ := hkb.eleven
 obtain ⟨g0, g1, g2, g3, g4, g5, g6, g7, g8, g9, g10⟩ := hkc.eleven
 clear hkb hkc
 go_enter Tryz.func18, Tryz.ntmps18
 go_upto_region 1 with fail
 rw [HW1.out]
 clear HW1
 by_cases ek : k1 = k2
 rotate_left
 ·have z1 : (k1 == k2) = false := by simpa using ek
  clear ek
  go_wp2_with fail
  all_goals first | (rename some undef = some (Value.bool _) => p; unfold undef at p; cases p; done) | (go_ret; exact ⟨by rw [HDEF.out]; simp [z1], HB1.out⟩)
 subst ek
 by_cases ei : i1 = i2
 rotate_left
 ·have z0 : i1.toList ≠ i2.toList := fun e => ei (ba_eqL e)
  have z1 : (i1.toList == i2.toList) = false := by simpa using z0
  clear ei
  go_wp2_with fail
  all_goals first | (rename some undef = some (Value.bool _) => p; unfold undef at p; cases p; done) | (go_ret; exact ⟨by rw [HDEF.out]; simp [z1], HB1.out⟩)
 subst ei
 by_cases en : n1 = n2
 rotate_left
 ·have z0 : n1.toList ≠ n2.toList := fun e => en (ba_eqL e)
  have z1 : (n1.toList == n2.toList) = false := by simpa using z0
  clear en
  go_wp2_with fail
  all_goals first | (rename some undef = some (Value.bool _) => p; unfold undef at p; cases p; done) | (go_ret; exact ⟨by rw [HDEF.out]; simp [z1], HB1.out⟩)
 subst en
 by_cases el : l1 = l2
 rotate_left
 ·have z0 : l1.toList ≠ l2.toList := fun e => el (ba_eqL e)
  have z1 : (l1.toList == l2.toList) = false := by simpa using z0
  clear el
  go_wp2_with fail
  all_goals first | (rename some undef = some (Value.bool _) => p; unfold undef at p; cases p; done) | (go_ret; exact ⟨by rw [HDEF.out]; simp [z1], HB1.out⟩)
 subst el
 by_cases ec : c1 = c2
 rotate_left
 ·have z0 : c1.toList ≠ c2.toList := fun e => ec (ba_eqL e)
  have z1 : (c1.toList == c2.toList) = false := by simpa using z0
  clear ec
  go_wp2_with fail
  all_goals first | (rename some undef = some (Value.bool _) => p; unfold undef at p; cases p; done) | (go_ret; exact ⟨by rw [HDEF.out]; simp [z1], HB1.out⟩)
 subst ec
 by_cases ed : d1 = d2
 rotate_left
 ·have z1 : (d1 == d2) = false := by simpa using ed
  clear ed
  go_wp2_with fail
  all_goals first | (rename some undef = some (Value.bool _) => p; unfold undef at p; cases p; done) | (go_ret; exact ⟨by rw [HDEF.out]; simp [z1], HB1.out⟩)
 subst ed
 by_cases ev : v1 = v2
 rotate_left
 ·have z1 : (v1 == v2) = false := by simpa using ev
  clear ev
  go_wp2_with fail
  all_goals first | (rename some undef = some (Value.bool _) => p; unfold undef at p; cases p; done) | (go_ret; exact ⟨by rw [HDEF.out]; simp [z1], HB1.out⟩)
 subst ev
 by_cases et : tk1 = 0
 ·have z1 : (tk1 == 0) = true := by simpa using et
  have ET := Lib.hid et
  clear et
  by_cases eu : tk2 = 0
  ·have z2 : (tk2 == 0) = true := by simpa using eu
   clear eu
   go_wp2_with fail
   go_ret
   exact ⟨by rw [HDEF.out]; simp [z1, z2], HB1.out⟩
  ·have z2 : (tk2 == 0) = false := by simpa using eu
   clear eu
   go_wp2_with fail
   refine (HSM.out _ HTA.out HTB.out).mono ?_
   rintro en w3 ⟨rfl, hb⟩
   go_wp2_with fail
   go_ret
   exact ⟨by rw [HDEF.out]; simp [z1, z2], bl_step hb HB1.out⟩
 ·have z1 : (tk1 == 0) = false := by simpa using et
  clear et
  go_wp2_with fail
  refine (HSM.out _ HTA.out HTB.out).mono ?_
  rintro en w3 ⟨rfl, hb⟩
  go_wp2_with fail
  go_ret
  exact ⟨by rw [HDEF.out]; simp [z1], bl_step hb HB1.out⟩
end Go.Proofs.YtapbkomicihkkaaGreatDoor
