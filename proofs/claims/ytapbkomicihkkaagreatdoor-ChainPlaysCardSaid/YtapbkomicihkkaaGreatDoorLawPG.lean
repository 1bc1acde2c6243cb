/- ChainPlays: the walk. -/
import Derived.Test.YtapbkomicihkkaaGreatDoorLawAG
import Derived.Test.YtapbkomicihkkaaGreatDoorRHdG
import Derived.Test.YtapbkomicihkkaaGreatDoorSomeG
import Derived.Test.YtapbkomicihkkaaGreatDoorCardG
import Derived.Test.YtapbkomicihkkaaGreatDoorSpG
namespace Go.Proofs.YtapbkomicihkkaaGreatDoor
open Go.RowKit
set_option linter.unusedVariables false
set_option linter.unusedSimpArgs false

mutual
theorem TrAt.keepT {x x' : Nat} {w w' : World} (hK : ∀ A cs ts, TrsAt x w ts cs → RowOf x w A cs → RowOf x' w' A cs) : ∀ (t : Tr) (v : Value), TrAt x w t v → TrAt x' w' t v
 | .mk k s n ks, v, h => by
  obtain ⟨A, c, cs, rfl, hr, ht⟩ := h.open_
  exact TrAt.mk_ (hK A cs ks ht hr) (TrsAt.keepT hK ks cs ht)
theorem TrsAt.keepT {x x' : Nat} {w w' : World} (hK : ∀ A cs ts, TrsAt x w ts cs → RowOf x w A cs → RowOf x' w' A cs) : ∀ (ts : List Tr) (cs : List Value), TrsAt x w ts cs → TrsAt x' w' ts cs
 | [], cs, h => by
  have : cs = [] := by unfold TrsAt at h; exact h
  subst this
  exact TrsAt.nil _ _
 | t :: ts, cs, h => by
  obtain ⟨c0, c1, c2, c3, rest, rfl, h0, hs⟩ := h.uncons
  exact TrsAt.cons (TrAt.keepT hK t _ h0) (TrsAt.keepT hK ts rest hs)
end
/-- What changes one block alone, of which the third cell is a text, leaves a tree. -/
theorem TrAt.apartS {x b : Nat} {w w' : World} {t : Tr} {v : Value} {s : ByteArray} (h : TrAt x w t v) (hg : w.grownBy w' (some b)) (hb : w.cell? ⟨b, 2, none⟩ = some (.string s)) : TrAt x w' t v := by
 refine TrAt.keepT (fun A cs ts hts hr => ?_) t v h
 rcases hr with h | ⟨g, e1, e2, h3⟩
 ·exact .inl h
 ·by_cases hz : cs = []
  ·subst hz
   exact .inr ⟨g, e1, e2, fun j u hu => by simp at hu⟩
  ·have hne : g ≠ b := by
    rintro rfl
    cases ts with
    | nil => exact hz (by unfold TrsAt at hts <;> exact hts)
    | cons t ts =>
     obtain ⟨c0, c1, c2, c3, rest, rfl, h0, -⟩ := hts.uncons
     obtain ⟨A', c', cs', hag, -, -⟩ := h0.open_
     have h2 := h3 2 c2 rfl
     have e2 : c2 = .int .i64 t.n := by injection hag with hag; simp at hag; exact hag.2.2.1
     rw [hb, e2] at h2
     cases h2
   refine .inr ⟨g, e1, e2, fun j u hu => ?_⟩
   have hc := h3 j u hu
   have hlt := World.block_lt_of_cell? w _ hc
   rw [← hc]
   have := hg.block g hlt (fun e => hne (by injection e))
   unfold World.cell?
   rw [this]
/-- The state. -/
structure PSt (w : World) (X : Nat) (wr : World) (g gk : Nat) (key : List UInt8) (c : Ch) (es : List En) (v : Value) (xs : List Value) : Prop where
 ch : ChAt w wr g c
 r : Own w wr 81 12 v es.length xs
 re : REs X wr es xs
 key : Blk wr gk (byts key).toArray 55
 fit : ∀ x ∈ es, x.ev.fit
 lt : g < X
 gw : w.heap.size ≤ g
 bel : Below w.heap.size w wr
 nil : es = [] → v = .slice none 0 0
theorem PSt.below {w wr W : World} {X g gk : Nat} {key : List UInt8} {c : Ch} {es : List En} {v : Value} {xs : List Value} (h : PSt w X wr g gk key c es v xs) (hb : Below wr.heap.size wr W) : PSt w X W g gk key c es v xs :=
 ⟨h.ch.below hb, h.r.below hb, h.re.below hb, h.key.below hb, h.fit, h.lt, h.gw, bl_step hb h.bel, h.nil⟩
theorem Blk.ne {W : World} {g g' : Nat} {cs cs' : Array Value} {t t' : TypeId} (h : Blk W g cs t) (h' : Blk W g' cs' t') (ne : t ≠ t') : g ≠ g' := by
 rintro rfl
 unfold Blk at h h'
 rw [h] at h'
 injection h' with h'
 injection h' with _ h'
 exact ne h'
/-- An entry is added to the chain. -/
theorem PSt.add {w wr W : World} {X g gk : Nat} {key : List UInt8} {c c' : Ch} {es : List En} {v : Value} {xs : List Value} (h : PSt w X wr g gk key c es v xs) (hc : ChAt w W g c') (hg : wr.grownBy W (some g)) : PSt w X W g gk key c' es v xs := by
 obtain ⟨cs, hk⟩ := h.ch.blk
 exact ⟨hc, h.r.kept hg (.inr (h.r.ne_blk hk (by decide))), h.re.keep (fun _ _ ht => ht.grown hg h.lt), h.key.grown hg (fun e => hk.ne h.key (by decide) (by injection e)), h.fit, h.lt, h.gw, bl_gb h.bel h.gw hg, h.nil⟩
/-- An entry is appended to the document's. -/
theorem PSt.push {w wr W : World} {X g gk : Nat} {key : List UInt8} {c : Ch} {es : List En} {v v1 : Value} {xs : List Value} {y : En} {p0 p1 p2 p3 : Value} (h : PSt w X wr g gk key c es v xs) (hy : y.ev.fit) (hT : TrAt X wr y.ev.term.tr (.agg #[p0, p1, p2, p3]))
  (hO : Own w W 81 12 v1 (es.length + 1) (xs ++ [.int .i64 y.ev.kind, .string y.ev.id, .string y.ev.name, .string y.ev.label, .string y.ev.cur, .int .i64 y.ev.day, .int .i64 y.ev.value, p0, p1, p2, p3, .bool y.no])) (hg : wr.grownBy W v.ownBlock) (hB : Below w.heap.size w W) :
  PSt w X W g gk key c (es ++ [y]) v1 (xs ++ [.int .i64 y.ev.kind, .string y.ev.id, .string y.ev.name, .string y.ev.label, .string y.ev.cur, .int .i64 y.ev.day, .int .i64 y.ev.value, p0, p1, p2, p3, .bool y.no]) := by
 have hkeep : ∀ t u, TrAt X wr t u → TrAt X W t u := by
  intro t u ht
  cases es with
  | nil =>
   rw [h.nil rfl] at hg
   exact ht.below ⟨hg.os, hg.tape, hg.output, hg.size, fun i hi => hg.block i hi (by simp [Value.ownBlock])⟩
  | cons z l =>
   obtain ⟨q0, q1, q2, q3, rest, e1, -, -⟩ := h.re
   rcases h.r.2 with ⟨rfl, h0⟩ | ⟨b, cap, cur, rfl, hb, hh, hle, _, hsz, hxs⟩
   ·exact absurd h0 (by simp)
   ·refine ht.apartS (s := z.ev.name) hg ?_
    rw [Blk.cell (show Blk wr b cur _ from hh)]
    have h2 : xs[2]? = some (.string z.ev.name) := by rw [e1]; rfl
    rw [← hxs, List.getElem?_take] at h2
    split at h2
    ·simpa using h2
    ·cases h2
 refine ⟨?_, by rw [List.length_append]; exact hO, (h.re.keep hkeep).snoc (hkeep _ _ hT), h.key.grown hg (h.r.ne_blk h.key (by decide)), ?_, h.lt, h.gw, hB, fun e => by simp at e⟩
 ·obtain ⟨vl, vh, h1, h2, h3, h4⟩ := h.ch
  exact ⟨vl, vh, h1.grown hg (h.r.ne_blk h1 (by decide)), h2.kept hg (h2.apart h.r (by decide)), h3.kept hg (h3.apart h.r (by decide)), Nat.le_trans h4 hg.size⟩
 ·intro z hz
  rcases List.mem_append.1 hz with hz | hz
  ·exact h.fit z hz
  ·obtain rfl := List.mem_singleton.1 hz
   exact hy
/-- The chain of the accepted entries. -/
def chH (key : List UInt8) (es : List En) : Ch := ⟨key, es, headsR key es⟩
theorem chH_ok (key : List UInt8) (hk : key.length = 16) (es : List En) (hf : ∀ x ∈ es, x.ev.fit) (hm : es.length ≤ 64) : (chH key es).ok :=
 {key := hk
  len := headsR_length key es
  es := fun x hx => fit_sm (hf x hx)
  hs := headsR_isU key es
  max := hm }
theorem chH_add (key : List UInt8) (es : List En) (hm : es.length < 64) (y : En) (hz : y.ev.check = 0) : (chH key es).add y = (chH key (es ++ [y]), 0) := by
 unfold Ch.add chH Ch.head
 rw [if_neg (by dsimp only; omega), if_pos hz, headsR_snoc, headsR_length]
 rfl
theorem chH_no (key : List UInt8) (es : List En) (hm : es.length < 64) (y : En) (hz : y.ev.check ≠ 0) : (chH key es).add y = (chH key es, y.ev.check) := by
 unfold Ch.add chH
 rw [if_neg (by dsimp only; omega), if_neg hz]
theorem chH_head (key : List UInt8) (es : List En) : (chH key es).head = (headsR key es).getD es.length 0 := rfl
theorem headsR_cell (key : List UInt8) (es : List En) (p : Nat) (h : p ≤ es.length) : (u64s (headsR key es))[p]? = some (.int .u64 ((headsR key es).getD p 0)) := u64s_get _ _ (by rw [headsR_length]; omega)
theorem headsR_U (key : List UInt8) (es : List En) (p : Nat) (h : p ≤ es.length) : isU ((headsR key es).getD p 0) := by
 rw [List.getD_eq_getElem?_getD, List.getElem?_eq_getElem (by rw [headsR_length]; omega)]
 exact headsR_isU key _ _ (List.getElem_mem _)
theorem chH_at (key : List UInt8) (es : List En) (p : Nat) (h : p ≤ es.length) : (chH key es).at_ p = ((headsR key es).getD p 0, true) := by
 unfold Ch.at_ chH
 rw [if_pos ⟨by omega, by dsimp only; omega⟩, Int.toNat_natCast]
theorem chH_at_no (key : List UInt8) (es : List En) (i : Int) (h : i < 0 ∨ (es.length : Int) < i) : (chH key es).at_ i = (0, false) := by
 unfold Ch.at_ chH
 rw [if_neg (by dsimp only; omega)]
theorem fitO_fit0 {e : Ev} (h : e.fitO false) : e.fit := ⟨h.kind, h.id, h.name, h.label, h.cur, h.day, h.value, h.no rfl⟩
@[go_sem ↓] theorem bd_REntry (parts : Array (Nat × Value)) : Instr.build 81 parts = bdN 81 parts := rfl
theorem run_bd_REn (k d v k2 n2 : Int) (x1 x2 x3 x4 s2 : ByteArray) (A : Option Addr) (m c : Nat) (b : Bool) (W : World) : (bdN 81 #[(0, .agg #[.int .i64 k, .string x1, .string x2, .string x3, .string x4, .int .i64 d, .int .i64 v, .int .i64 k2, .string s2, .int .i64 n2, .slice A m c]), (1, .bool b)]).run Tryz.prog W = .ok (.agg #[.int .i64 k, .string x1, .string x2, .string x3, .string x4, .int .i64 d, .int .i64 v, .int .i64 k2, .string s2, .int .i64 n2, .slice A m c, .bool b]) W := by kernel_rfl
theorem bs_ren (k d v k2 n2 : Int) (x1 x2 x3 x4 s2 : ByteArray) (A : Option Addr) (m c : Nat) (b : Bool) (W : World) : (Instr.buildSlice 74 1 #[(0, .agg #[.int .i64 k, .string x1, .string x2, .string x3, .string x4, .int .i64 d, .int .i64 v, .int .i64 k2, .string s2, .int .i64 n2, .slice A m c, .bool b])]).run Tryz.prog W = .ok (.slice (some ⟨W.heap.size, 0, none⟩) 1 1) (W.alloc (.cells #[.int .i64 k, .string x1, .string x2, .string x3, .string x4, .int .i64 d, .int .i64 v, .int .i64 k2, .string s2, .int .i64 n2, .slice A m c, .bool b] 81)) := by kernel_rfl
theorem info_ren : (Tryz.prog.info? 81).map (fun i => (i.zero, i.size, i.bytes)) = some (some (.agg #[.int .i64 0, .string ⟨#[]⟩, .string ⟨#[]⟩, .string ⟨#[]⟩, .string ⟨#[]⟩, .int .i64 0, .int .i64 0, .int .i64 0, .string ⟨#[]⟩, .int .i64 0, .slice none 0 0, .bool false]), 12, 152) := by kernel_rfl
theorem run_bd_En3 (k d v : Int) (x1 x2 x3 x4 : ByteArray) (x7 : Value) (b : Bool) (h7 : IsI x7) (W : World) : (bdN 59 #[(0, .agg #[.int .i64 k, .string x1, .string x2, .string x3, .string x4, .int .i64 d, .int .i64 v, x7]), (1, .bool b)]).run Tryz.prog W = .ok (.agg #[.int .i64 k, .string x1, .string x2, .string x3, .string x4, .int .i64 d, .int .i64 v, x7, .bool b]) W := by
 rcases h7 with rfl | ⟨_, _, rfl⟩ <;> kernel_rfl
theorem run_bd_Pass (W : World) : (bdN 30 #[(0, .int .i64 1)]).run Tryz.prog W = .ok (.agg #[.int .i64 1, .string ⟨#[]⟩, .string ⟨#[]⟩, .string ⟨#[]⟩, .string ⟨#[]⟩, .int .i64 0, .int .i64 0, .nilIface]) W := by kernel_rfl
set_option maxRecDepth 100000 in
set_option maxHeartbeats 8000000 in
theorem chainPlays_calls (A : Option Addr) (c l : Nat) (k : List UInt8) (B : Option Addr) (lc cc : Nat) (ms : List Cv) (F : Option Addr) (nf cf : Nat) (fs : List Value) (E : Option Addr) (le ce : Nat) (bs : List Bool) (at_ : Int) (w : World)
  (hl : k.length = l) (hr : Rd w A (byts k)) (hml : ms.length = lc) (hmn : lc ≤ 140737488355328) (hms : ∀ m ∈ ms, m.c.ok ∧ PlanAt w m.vN m.vW) (hmr : Rd w B (rowsC ms)) (hfl : fs.length = nf) (hfn : nf ≤ 140737488355328) (hfr : Rd w F fs) (hfi : ∀ (j : Nat) (v : Value), fs[j]? = some v → ∃ i : Int, v = .int .i64 i ∧ -9223372036854775808 ≤ i ∧ i ≤ 9223372036854775807)
  (hbl : bs.length = le) (hbn : le ≤ 140737488355328) (hbr : Rd w E (bools bs)) (hat : -9223372036854775808 ≤ at_ ∧ at_ ≤ 9223372036854775807) (ht : TabOk w) :
  Calls Tryz.prog 7 #[.slice A l c, .slice B lc cc, .slice F nf cf, .slice E le ce, .int .i64 at_] w fun e w' => e = .returned (.bool true) ∧ Below w.heap.size w w' := by
 have HR := Lib.hid hr; have HL := Lib.hid hl; have HT := Lib.hid ht; have HML := Lib.hid hml; have HMS := Lib.hid hms; have HMR := Lib.hid hmr
 have HFL := Lib.hid hfl; have HFR := Lib.hid hfr; have HFI := Lib.hid hfi; have HBL := Lib.hid hbl; have HBR := Lib.hid hbr; have HAT := Lib.hid hat
 clear hr hl ht hml hms hmr hfl hfr hfi hbl hbr hat
 go_enter Tryz.func7, Tryz.ntmps7
 obtain ⟨X, hX⟩ : ∃ X, byts (k.take 16) = X := ⟨_, rfl⟩
 have HX := Lib.hid hX
 clear hX
 go_wp2_with (refine wpList_copy_splice (o := ⟨some 32, _, _, _, _, _⟩) rfl (.tmp 30) (.tmp 31) 51 51 rfl 5 Tryz.underlying51 (by kernel_rfl) _ A _ _ l c rfl rfl w.heap.size 0 zeros16 55 (Blk.new w zeros16.toArray 55) X ?c1 ?c2 ?c3 ?c4 w.heap.size w (bl_alloc (bl_refl w) _) (Nat.le_refl _) ?c5)
 case c1 => rw [← HX.out, byts_length, List.length_take, HL.out]; exact Nat.min_comm _ _
 case c2 =>
  intro hp
  have hrd : Rd (w.alloc (.cells zeros16.toArray 55)) A X := by
   rw [← HX.out, byts_take]
   exact (HR.out.below (bl_alloc (bl_refl w) _)).take 16
  obtain ⟨y, hy⟩ : ∃ y, X[0]? = some y := ⟨X[0], by simp [hp]⟩
  obtain ⟨ad, e, _⟩ := hrd 0 y hy
  refine ⟨ad, e, ?_⟩
  intro j v hv
  obtain ⟨ad', e', hc⟩ := hrd j v hv
  rw [e] at e'; cases e'
  exact hc
 case c3 => rw [← HX.out, byts_length, List.length_take]; simp only [zeros16, Nat.zero_add, List.length_cons, List.length_nil]; exact Nat.min_le_left _ _
 case c4 => rw [← HX.out]; exact byts_one _
 intro w2 HG hB
 have hK : Blk w2 w.heap.size (byts (keyOf k)).toArray 55 := by
  have := HG.out
  rw [← HX.out, key_splice] at this
  exact this
 clear HG HX HR HL
 have hkl := keyOf_length k
 generalize keyOf k = key at hkl hK
 have hi : (Tryz.prog.info? 55).map (·.size) = some (byts key).length := by rw [byts_length, hkl]; kernel_rfl
 have HK := Lib.hid hK; have HKL := Lib.hid hkl; have HB := Lib.hid hB
 clear hK hkl hB
 go_wp2_with (refine wpList_load_rd rfl 55 _ rfl _ rfl _ _ HK.out.rd Tryz.underlying55 rfl hi ?_)
 refine (cnew_calls w key HKL.out w2 HB.out.size).mono ?_
 rintro en W3 ⟨g, rfl, hC, hg, hb3⟩
 obtain ⟨X, hX⟩ : ∃ X, W3.heap.size = X := ⟨_, rfl⟩
 have hgX : g < X := by rw [← hX]; exact hC.lt
 have hwX : w.heap.size ≤ X := by rw [← hX]; exact Nat.le_trans HB.out.size hb3.size
 have HP : Hid (PSt w X W3 g w.heap.size key (chH key []) [] (.slice none 0 0) []) := ⟨hC, Own.nil _ _ _ _, rfl, HK.out.below hb3, fun x hx => (by cases hx), hgX, Nat.le_trans HB.out.size hg, bl_step hb3 HB.out, fun _ => rfl⟩
 have HXS : Hid (X ≤ W3.heap.size) := Nat.le_of_eq hX.symm
 clear hX hgX hC hg hb3 HK HB
 go_wp2_with fail
 go_loopw [13, 14] (fun v i wr => ∃ (j : Nat) (es : List En) (xs : List Value), es.length ≤ j ∧ j ≤ 12 ∧ j ≤ lc ∧ i = .int .i64 j ∧ X ≤ wr.heap.size ∧ PSt w X wr g w.heap.size key (chH key es) es v xs) (fun _ i _ => 12 - (intOf i).toNat)
 case atStart => exact ⟨0, [], [], Nat.le_refl _, by omega, by omega, rfl, HXS.out, HP.out⟩
 case round =>
  clear HP HXS
  obtain ⟨j, es, xs, hel, hj, hjl, rfl, hXs, hP⟩ := hrel
  obtain ⟨A5, c5, rfl, hfl5, hc5⟩ := hP.r.flat
  have HP := Lib.hid hP; have HXS := Lib.hid hXs; have HF5 := Lib.hid hfl5
  clear hP hXs hfl5
  go_upto_region 8 with fail
  go_cut [44] (fun v wx => v = .bool (decide (j < lc ∧ j < 12)) ∧ wx = wr)
  case first =>
   by_cases g1 : j < lc
   ·by_cases g2 : j < 12
    ·go_wp2_with fail
     go_meet
     exact ⟨by (simp [g1, g2] <;> omega), rfl⟩
    ·go_wp2_with fail
     go_meet
     exact ⟨by (simp [g1, g2] <;> omega), rfl⟩
   ·go_wp2_with fail
    go_meet
    exact ⟨by simp [g1], rfl⟩
  obtain ⟨rfl, rfl⟩ := hcut
  rename World => wr
  by_cases hlt : j < lc ∧ j < 12
  ·rw [show decide (j < lc ∧ j < 12) = true from decide_eq_true hlt]
   obtain ⟨hl1, hl2⟩ := hlt
   have hj0 : (0 : Int) ≤ (j : Int) := by omega
   go_upto_if 50 with fail
   go_cut [15] (fun v wx => ∃ f : Int, v = .int .i64 f ∧ IsInt64 f ∧ wx = wr)
   case first =>
    by_cases hg : j < nf
    ·obtain ⟨fv, hv⟩ : ∃ fv, fs[j]? = some fv := ⟨_, List.getElem?_eq_getElem (by rw [HFL.out]; exact hg)⟩
     obtain ⟨f, hf1, hf2⟩ := HFI.out j _ hv
     rw [hf1] at hv
     obtain ⟨ae, rfl, hcell⟩ := (HFR.out.below HP.out.bel) j _ hv
     have hj1 : (j : Int) < (nf : Int) := by omega
     clear hv hf1
     go_wp2_with fail
     go_meet
     exact ⟨f, rfl, by unfold IsInt64; omega, rfl⟩
    ·have hj1 : ¬ ((j : Int) < (nf : Int)) := by omega
     go_wp2_with fail
     go_meet
     exact ⟨99, rfl, by unfold IsInt64; omega, rfl⟩
   obtain ⟨f, rfl, hf64, rfl⟩ := hcut
   rename World => wr
   obtain ⟨⟨cm, vN, vW⟩, hcv⟩ : ∃ y, ms[j]? = some y := ⟨_, List.getElem?_eq_getElem (by rw [HML.out]; exact hl1)⟩
   obtain ⟨hc, hp⟩ := HMS.out _ (List.mem_of_getElem? hcv)
   have hpw := hp.below HP.out.bel
   have hmr := HMR.out.below HP.out.bel
   obtain ⟨ad, rfl, -⟩ := hmr (j * 8 + 0) _ ((rowsC_get ms j 0 _ hcv (by omega)).trans rfl)
   have hrow := hmr.row hcv
   have hsm := someO_calls wr cm vN vW hc hpw f 3 0 ⟨#[120]⟩ hf64 (by unfold IsInt64; omega) (by decide) (by unfold IsInt64; omega)
   unfold RetSomeO at hsm
   unfold Ev.val at hsm
   unfold Cm.val at hsm
   unfold Cv.row at hrow
   have HSM := Lib.hid hsm; have HROW := Lib.hid hrow
   clear hsm hrow hcv hc hp hpw hmr hf64
   go_wp2_with (refine wpList_load_rd rfl 27 _ rfl _ rfl _ _ HROW.out Tryz.underlying27 rfl info_cmd ?_)
   refine HSM.out.mono ?_
   rintro en w5 ⟨x, vx, bx, rfl, hE, hF, hbo, hb⟩
   obtain rfl := hbo (by decide)
   obtain ⟨c0, c1, c2, c3, rfl, hTr⟩ := hE
   obtain ⟨A9, c9, cs9, hag, -, -⟩ := hTr.open_
   have hcc : c0 = .int .i64 x.term.tr.kind ∧ c1 = .string x.term.tr.s ∧ c2 = .int .i64 x.term.tr.n ∧ c3 = .slice A9 x.term.tr.ks.length c9 := by injection hag with hag; simp at hag; exact hag
   obtain ⟨h0, h1, h2, h3⟩ := hcc
   subst h0 h1 h2 h3
   have hT0 := hTr.mono HXS.out
   generalize x.term.tr.kind = tk at *
   generalize x.term.tr.s = ts at *
   generalize x.term.tr.n = tn at *
   generalize x.term.tr.ks.length = tl at *
   have hfit := fitO_fit0 hF
   clear hag hTr HSM HROW hbo
   have hok := (fit_sm hfit).ok.term
   have hti := x.term.isI hok
   have hte := x.term.one_ hok
   have hcs := x.term.cells_ hok
   have HFIT := Lib.hid hfit; have HTR := Lib.hid hT0; have HP5 := Lib.hid (HP.out.below hb); have HXS5 := Lib.hid (Nat.le_trans HXS.out hb.size); have HF55 := Lib.hid (HF5.out.below hb)
   clear hF hb hfit hT0 HP HXS HF5
   go_upto_region 14 with fail
   have hkx := (Blk.new w5 #[.int .i64 x.kind, .string x.id, .string x.name, .string x.label, .string x.cur, .int .i64 x.day, .int .i64 x.value, x.term.val] 30).below (bl_alloc (bl_refl _) (.cells #[.int .i64 x.kind, .string x.id, .string x.name, .string x.label, .string x.cur, .int .i64 x.day, .int .i64 x.value, .int .i64 tk, .string ts, .int .i64 tn, .slice A9 tl c9] 35))
   have hky := Blk_new (w5.alloc (.cells #[.int .i64 x.kind, .string x.id, .string x.name, .string x.label, .string x.cur, .int .i64 x.day, .int .i64 x.value, x.term.val] 30)) #[.int .i64 x.kind, .string x.id, .string x.name, .string x.label, .string x.cur, .int .i64 x.day, .int .i64 x.value, .int .i64 tk, .string ts, .int .i64 tn, .slice A9 tl c9] 35 (w5.heap.size + 1) (by simp)
   have hb6 := bl_alloc (bl_alloc (bl_refl w5) (.cells #[.int .i64 x.kind, .string x.id, .string x.name, .string x.label, .string x.cur, .int .i64 x.day, .int .i64 x.value, x.term.val] 30)) (.cells #[.int .i64 x.kind, .string x.id, .string x.name, .string x.label, .string x.cur, .int .i64 x.day, .int .i64 x.value, .int .i64 tk, .string ts, .int .i64 tn, .slice A9 tl c9] 35)
   obtain ⟨W6, hW6⟩ : ∃ W6, (w5.alloc (.cells #[.int .i64 x.kind, .string x.id, .string x.name, .string x.label, .string x.cur, .int .i64 x.day, .int .i64 x.value, x.term.val] 30)).alloc (.cells #[.int .i64 x.kind, .string x.id, .string x.name, .string x.label, .string x.cur, .int .i64 x.day, .int .i64 x.value, .int .i64 tk, .string ts, .int .i64 tn, .slice A9 tl c9] 35) = W6 := ⟨_, rfl⟩
   rw [hW6] at hkx hky hb6 ⊢
   obtain ⟨q, hq⟩ : ∃ q, w5.heap.size = q := ⟨_, rfl⟩
   rw [hq] at hkx hky ⊢
   have HP6 := Lib.hid (HP5.out.below hb6); have HXS6 := Lib.hid (Nat.le_trans HXS5.out hb6.size); have HF6 := Lib.hid (HF55.out.below hb6); have HTR6 := Lib.hid (HTR.out.below hb6); have HKX := Lib.hid hkx; have HKY := Lib.hid hky
   clear hW6 hkx hky hb6 HP5 HXS5 HF55 HTR hq
   obtain ⟨b, hbd⟩ : ∃ b, bs.getD j false = b := ⟨_, rfl⟩
   have HBD := Lib.hid hbd
   clear hbd
   go_cut [19] (fun v wx => v = .bool b ∧ wx = W6)
   case first =>
    by_cases hg : j < le
    ·have hbj : bs[j]? = some b := by rw [List.getElem?_eq_getElem (by rw [HBL.out]; exact hg), ← HBD.out, List.getD_eq_getElem?_getD, List.getElem?_eq_getElem (by rw [HBL.out]; exact hg)]; rfl
     obtain ⟨ae, rfl, hcell⟩ := (HBR.out.below HP6.out.bel) j _ (bools_get bs j b hbj)
     have hj1 : (j : Int) < (le : Int) := by omega
     clear hbj
     go_wp2_with fail
     go_meet
     exact ⟨rfl, rfl⟩
    ·obtain rfl : b = false := by rw [← HBD.out, List.getD_eq_getElem?_getD, List.getElem?_eq_none (by rw [HBL.out]; omega)]; rfl
     have hj1 : ¬ ((j : Int) < (le : Int)) := by omega
     go_wp2_with fail
     go_meet
     exact ⟨rfl, rfl⟩
   obtain ⟨rfl, rfl⟩ := hcut
   rename World => W6
   have hkl := HKL.out
   have hall := HP6.out.fit
   have HALL := Lib.hid hall
   clear hall HBD
   go_upto_if 77 with fail
   go_cut [20] (fun v wx => v = .int .u64 ((headsR key es).getD es.length 0) ∧ Below W6.heap.size W6 wx)
   case first =>
    have hrk : Rd W6 (some ⟨w.heap.size, 0, none⟩) (byts key) := HP6.out.key.rd
    by_cases hz : es.length = 0
    ·have hn : es = [] := List.eq_nil_of_length_eq_zero hz
     subst hn
     clear hz
     go_wp2_with fail
     go_meet
     exact ⟨rfl, bl_refl _⟩
    ·have hz1 : (0 : Int) < (es.length : Int) := by omega
     have hhd := fun W hF hR => rheads_calls key hkl es HALL.out (by omega) X A5 c5 xs W hF hR
     have hcl := headsR_cell key es es.length (Nat.le_refl _)
     unfold RetOwn at hhd
     generalize headsR key es = hs at *
     generalize es.length = n at *
     have HHD := Lib.hid hhd; have HRK := Lib.hid hrk; have HCL := Lib.hid hcl
     clear hhd hrk hcl
     go_wp2_with (refine wpList_load_rd rfl 55 _ rfl _ rfl _ _ HRK.out Tryz.underlying55 rfl hi ?_)
     refine (HHD.out _ HF6.out HP6.out.re).mono ?_
     rintro en w7 ⟨vH, rfl, hOH, hb7⟩
     obtain ⟨AH, cH, rfl, hRH, -, -⟩ := hOH.read
     obtain ⟨ah, rfl, hcell⟩ := hRH n _ HCL.out
     have hn1 : (n : Int) < (n : Int) + 1 := by omega
     have hn0 : (0 : Int) ≤ (n : Int) := by omega
     clear hOH hRH HHD HRK
     go_wp2_with fail
     go_meet
     exact ⟨rfl, hb7⟩
   obtain ⟨rfl, hb7⟩ := hcut
   rename World => W7
   obtain ⟨hd, hhd⟩ : ∃ hd, (headsR key es).getD es.length 0 = hd := ⟨_, rfl⟩
   have hU : isU hd := by rw [← hhd]; exact headsR_U key es _ (Nat.le_refl _)
   have hnx := fun W hT => next_calls key hkl hd hU (En.mk x b) (fit_sm HFIT.out) W hT
   have hrn := fun W (hT : TrAt X W x.term.tr (.agg #[.int .i64 tk, .string ts, .int .i64 tn, .slice A9 tl c9])) => rnext_calls key hkl hd hU (En.mk x b) HFIT.out X W _ ⟨_, _, _, _, rfl, hT⟩
   unfold RetNext at hnx hrn
   unfold En.val at hnx
   dsimp only at hnx hrn
   have hbe := fun W => run_bd_En3 x.kind x.day x.value x.id x.name x.label x.cur x.term.val b hti W
   have hbr := fun W => run_bd_REn x.kind x.day x.value tk tn x.id x.name x.label x.cur ts A9 tl c9 b W
   rw [hhd]
   have HP7 := Lib.hid (HP6.out.below hb7); have HXS7 := Lib.hid (Nat.le_trans HXS6.out hb7.size); have HF7 := Lib.hid (HF6.out.below hb7); have HTR7 := Lib.hid (HTR6.out.below hb7); have HKX7 := Lib.hid (HKX.out.below hb7); have HKY7 := Lib.hid (HKY.out.below hb7)
   have HNX := Lib.hid hnx; have HRN := Lib.hid hrn; have HHD := Lib.hid hhd
   have hrk : Rd W7 (some ⟨w.heap.size, 0, none⟩) (byts key) := HP7.out.key.rd
   have hrx : Rd W7 (some ⟨q, 0, none⟩) [.int .i64 x.kind, .string x.id, .string x.name, .string x.label, .string x.cur, .int .i64 x.day, .int .i64 x.value, x.term.val] := HKX7.out.rd
   have HRK := Lib.hid hrk; have HRX := Lib.hid hrx
   clear hb7 HP6 HXS6 HF6 HTR6 HKX HKY hnx hrn hhd hrk hrx
   go_wp2_with (first | (refine wpList_load_rd rfl 55 _ rfl _ rfl _ _ HRK.out Tryz.underlying55 rfl hi ?_) | (refine wpList_load_rd rfl 30 _ rfl _ rfl _ _ HRX.out Tryz.underlying30 rfl size_ae8 ?_))
   refine (HNX.out _ (HT.out.below HP7.out.bel)).mono ?_
   rintro en W8 ⟨rfl, hb8⟩
   have hrk : Rd W8 (some ⟨w.heap.size, 0, none⟩) (byts key) := HRK.out.below hb8
   have hry : Rd W8 (some ⟨q + 1, 0, none⟩) [.int .i64 x.kind, .string x.id, .string x.name, .string x.label, .string x.cur, .int .i64 x.day, .int .i64 x.value, .int .i64 tk, .string ts, .int .i64 tn, .slice A9 tl c9] := (HKY7.out.below hb8).rd
   clear HRK HRX
   have HRK := Lib.hid hrk; have HRY := Lib.hid hry
   clear hrk hry
   go_wp2_with (first | (refine wpList_load_rd rfl 55 _ rfl _ rfl _ _ HRK.out Tryz.underlying55 rfl hi ?_) | (refine wpList_load_rd rfl 35 _ rfl _ rfl _ _ HRY.out Tryz.underlying35 rfl size_re11 ?_))
   refine (HRN.out _ (HTR7.out.below hb8)).mono ?_
   rintro en W9 ⟨rfl, hb9⟩
   have hb79 := bl_step hb9 hb8
   have HP9 := Lib.hid (HP7.out.below hb79); have HXS9 := Lib.hid (Nat.le_trans HXS7.out hb79.size); have HTR9 := Lib.hid (HTR7.out.below hb79); have HKX9 := Lib.hid (HKX7.out.below hb79); have HKY9 := Lib.hid (HKY7.out.below hb79)
   clear hb8 hb9 hb79 HP7 HXS7 HF7 HTR7 HKX7 HKY7 HRK HRY HNX HRN hbe hbr
   generalize hnn : (En.mk x b).next key hd = nx at *
   clear hnn
   have hok5 := chH_ok key hkl es HALL.out (by omega)
   go_upto_if 112 with fail
   go_cut [] (fun wx => Below W9.heap.size W9 wx)
   case first =>
    by_cases h5 : j = 5
    ·subst h5
     have hcc := fun W hW => cclone_calls w g (chH key es) hok5 W hW
     have hhh := fun w0 g W hW => chead_calls w0 g (chH key es) hok5 W hW
     have had := fun w0 g W hW hT => cadd_calls w0 g (chH key es) hok5 ⟨passE, true⟩ passE_small W hW hT
     unfold RetCh at hcc
     unfold RetAdd at had
     have hpv : (En.mk passE true).val = .agg #[.int .i64 1, .string ⟨#[]⟩, .string ⟨#[]⟩, .string ⟨#[]⟩, .string ⟨#[]⟩, .int .i64 0, .int .i64 0, .nilIface, .bool true] := rfl
     rw [hpv] at had
     have HCC := Lib.hid hcc; have HHH := Lib.hid hhh; have HAD := Lib.hid had
     clear hcc hhh had hpv
     go_wp2_with fail
     refine (HCC.out _ HP9.out.ch).mono ?_
     rintro en wA ⟨d, rfl, hCd, hgd, hbA⟩
     have HCD := Lib.hid hCd; have HBA := Lib.hid hbA
     clear hCd hbA
     go_wp2_with fail
     refine (HHH.out _ d _ HCD.out).mono ?_
     rintro en wB ⟨rfl, hbB⟩
     have HCDB := Lib.hid (HCD.out.below hbB); have HBB := Lib.hid (bl_step hbB HBA.out)
     clear hbB
     go_wp2_with fail
     refine (HHH.out _ g _ (HP9.out.ch.below HBB.out)).mono ?_
     rintro en wC ⟨rfl, hbC⟩
     have HCDC := Lib.hid (HCDB.out.below hbC); have HBC := Lib.hid (bl_step hbC HBB.out)
     clear hbC
     have hpass := fun W => run_bd_Pass W
     have hpas2 := fun W => run_bd_En3 1 0 0 ⟨#[]⟩ ⟨#[]⟩ ⟨#[]⟩ ⟨#[]⟩ .nilIface true (.inl rfl) W
     go_wp2_with fail
     refine (HAD.out _ d _ HCDC.out (HT.out.below (bl_step HBC.out HP9.out.bel))).mono ?_
     rintro en wD ⟨rfl, -, hgD, -⟩
     have hbD := bl_grown HBC.out hgD hgd
     clear hgD
     go_wp2_with fail
     go_meet
     exact hbD
    ·have h5b : ((j : Int) == 5) = false := by simp; omega
     go_wp2_with fail
     go_meet
     exact bl_refl _
   rename World => W10
   have HP10 := Lib.hid (HP9.out.below hcut); have HXS10 := Lib.hid (Nat.le_trans HXS9.out hcut.size); have HTR10 := Lib.hid (HTR9.out.below hcut); have HKX10 := Lib.hid (HKX9.out.below hcut); have HKY10 := Lib.hid (HKY9.out.below hcut)
   clear hcut HP9 HXS9 HTR9 HKX9 HKY9 HHD
   have had := fun W hW hT => cadd_calls w g (chH key es) hok5 (En.mk x b) (fit_sm HFIT.out) W hW hT
   unfold RetAdd at had
   unfold En.val at had
   dsimp only at had
   have hbe := fun W => run_bd_En3 x.kind x.day x.value x.id x.name x.label x.cur x.term.val b hti W
   have hrx : Rd W10 (some ⟨q, 0, none⟩) [.int .i64 x.kind, .string x.id, .string x.name, .string x.label, .string x.cur, .int .i64 x.day, .int .i64 x.value, x.term.val] := HKX10.out.rd
   have HRX := Lib.hid hrx
   clear hrx HKX10
   by_cases hz : x.check = 0
   ·have hadd := chH_add key es (by omega) (En.mk x b) hz
    rw [hadd] at had
    rw [hz]
    have hok6 := chH_ok key hkl (es ++ [En.mk x b]) (fun z hz => by
     rcases List.mem_append.1 hz with hz | hz
     ·exact HALL.out z hz
     ·obtain rfl := List.mem_singleton.1 hz
      exact HFIT.out) (by rw [List.length_append]; simp; omega)
    have hln := fun W hW => clen_calls w g (chH key (es ++ [En.mk x b])) hok6 W hW
    have hlz : ((chH key (es ++ [En.mk x b])).es.length : Int) = (es.length : Int) + 1 := by unfold chH; simp
    rw [hlz] at hln
    have HLN := Lib.hid hln; have HAD := Lib.hid had
    clear hln hlz had hadd hz hok6
    go_wp2_with (refine wpList_load_rd rfl 30 _ rfl _ rfl _ _ HRX.out Tryz.underlying30 rfl size_ae8 ?_)
    refine (HAD.out _ HP10.out.ch (HT.out.below HP10.out.bel)).mono ?_
    rintro en W11 ⟨rfl, hC11, hg11, -⟩
    have hP11 := HP10.out.add hC11 hg11
    have hky11 : Blk W11 (q + 1) #[.int .i64 x.kind, .string x.id, .string x.name, .string x.label, .string x.cur, .int .i64 x.day, .int .i64 x.value, .int .i64 tk, .string ts, .int .i64 tn, .slice A9 tl c9] 35 := by
     obtain ⟨cs, hk⟩ := HP10.out.ch.blk
     exact HKY10.out.grown hg11 (fun e => hk.ne HKY10.out (by decide) (by injection e))
    have hry : Rd W11 (some ⟨q + 1, 0, none⟩) [.int .i64 x.kind, .string x.id, .string x.name, .string x.label, .string x.cur, .int .i64 x.day, .int .i64 x.value, .int .i64 tk, .string ts, .int .i64 tn, .slice A9 tl c9] := hky11.rd
    have HP11 := Lib.hid hP11; have HTR11 := Lib.hid (HTR10.out.grown hg11 HP10.out.lt); have HXS11 := Lib.hid (Nat.le_trans HXS10.out hg11.size); have HRY := Lib.hid hry
    clear hC11 hg11 hP11 hky11 hry HP10 HTR10 HXS10 HKY10 HRX HAD hbe
    have hbr := fun W => run_bd_REn x.kind x.day x.value tk tn x.id x.name x.label x.cur ts A9 tl c9 b W
    have hbs := fun W => bs_ren x.kind x.day x.value tk tn x.id x.name x.label x.cur ts A9 tl c9 b W
    go_wp2_with (first | (refine wpList_load_rd rfl 35 _ rfl _ rfl _ _ HRY.out Tryz.underlying35 rfl size_re11 ?_) | (at_builtin; refine append_any (w0 := w) rfl _ _ 74 81 _ 12 152 rfl Tryz.underlying74 info_ren rfl (by decide) _ es.length xs (some ⟨W11.heap.size, 0, none⟩) 1 1 [.int .i64 x.kind, .string x.id, .string x.name, .string x.label, .string x.cur, .int .i64 x.day, .int .i64 x.value, .int .i64 tk, .string ts, .int .i64 tn, .slice A9 tl c9, .bool b] (HP11.out.r.below (bl_alloc (bl_refl _) _)) (bl_alloc HP11.out.bel _) (Blk.new W11 #[.int .i64 x.kind, .string x.id, .string x.name, .string x.label, .string x.cur, .int .i64 x.day, .int .i64 x.value, .int .i64 tk, .string ts, .int .i64 tn, .slice A9 tl c9, .bool b] 81).rd rfl rfl rfl (by simp [Value.oneCell']) (by omega) (by omega) ?_; intro v1 W12 HO12 HB12 HG12))
    have hP12 := (HP11.out.below (bl_alloc (bl_refl W11) (.cells #[.int .i64 x.kind, .string x.id, .string x.name, .string x.label, .string x.cur, .int .i64 x.day, .int .i64 x.value, .int .i64 tk, .string ts, .int .i64 tn, .slice A9 tl c9, .bool b] 81))).push (y := En.mk x b) HFIT.out (HTR11.out.below (bl_alloc (bl_refl W11) (.cells #[.int .i64 x.kind, .string x.id, .string x.name, .string x.label, .string x.cur, .int .i64 x.day, .int .i64 x.value, .int .i64 tk, .string ts, .int .i64 tn, .slice A9 tl c9, .bool b] 81))) HO12 HG12 HB12
    have hx12 : X ≤ W12.heap.size := Nat.le_trans HXS11.out (Nat.le_trans (bl_alloc (bl_refl W11) (.cells #[.int .i64 x.kind, .string x.id, .string x.name, .string x.label, .string x.cur, .int .i64 x.day, .int .i64 x.value, .int .i64 tk, .string ts, .int .i64 tn, .slice A9 tl c9, .bool b] 81)).size HG12.size)
    obtain ⟨A13, c13, rfl, -, -⟩ := HO12.flat
    have HP12 := Lib.hid hP12; have HX12 := Lib.hid hx12
    clear hP12 hx12 HO12 HB12 HG12 HP11 HTR11 HXS11 HRY hbr hbs
    go_wp2_with fail
    refine (HLN.out _ HP12.out.ch).mono ?_
    rintro en W13 ⟨rfl, hb13⟩
    have HP13 := Lib.hid (HP12.out.below hb13); have HX13 := Lib.hid (Nat.le_trans HX12.out hb13.size)
    clear hb13 HP12 HX12 HLN
    go_wp2_with fail
    go_roundw
    case rel => exact ⟨j + 1, es ++ [En.mk x b], _, by rw [List.length_append]; simp; omega, by omega, by omega, by go_num, HX13.out, HP13.out⟩
    case measure => simp [intOf]; omega
   ·have hadd := chH_no key es (by omega) (En.mk x b) hz
    rw [hadd] at had
    dsimp only at had
    have hzb : (x.check == 0) = false := by simp [hz]
    have hln := fun W hW => clen_calls w g (chH key es) hok5 W hW
    have hlz : ((chH key es).es.length : Int) = (es.length : Int) := rfl
    rw [hlz] at hln
    generalize x.check = er at *
    have HLN := Lib.hid hln; have HAD := Lib.hid had
    clear hln hlz had hadd hz
    go_wp2_with (refine wpList_load_rd rfl 30 _ rfl _ rfl _ _ HRX.out Tryz.underlying30 rfl size_ae8 ?_)
    refine (HAD.out _ HP10.out.ch (HT.out.below HP10.out.bel)).mono ?_
    rintro en W11 ⟨rfl, hC11, hg11, -⟩
    have HP11 := Lib.hid (HP10.out.add hC11 hg11); have HX11 := Lib.hid (Nat.le_trans HXS10.out hg11.size)
    clear hC11 hg11 HP10 HTR10 HXS10 HKY10 HRX HAD hbe
    go_wp2_with fail
    refine (HLN.out _ HP11.out.ch).mono ?_
    rintro en W13 ⟨rfl, hb13⟩
    have HP13 := Lib.hid (HP11.out.below hb13); have HX13 := Lib.hid (Nat.le_trans HX11.out hb13.size)
    clear hb13 HP11 HX11 HLN
    go_wp2_with fail
    go_roundw
    case rel => exact ⟨j + 1, es, xs, by omega, by omega, by omega, by go_num, HX13.out, HP13.out⟩
    case measure => simp [intOf]; omega
  ·rw [show decide (j < lc ∧ j < 12) = false from decide_eq_false hlt]
   have hes : es.length ≤ 12 := by omega
   clear hlt HML HMS HMR HFL HFR HFI HBL HBR hjl hj
   have hkl := HKL.out
   have hall := HP.out.fit
   have hok5 := chH_ok key hkl es hall (by omega)
   have hhd := fun W hF hR => rheads_calls key hkl es hall (by omega) X A5 c5 xs W hF hR
   unfold RetOwn at hhd
   have hrk : Rd wr (some ⟨w.heap.size, 0, none⟩) (byts key) := HP.out.key.rd
   have HRK := Lib.hid hrk; have HHD := Lib.hid hhd; have HALL := Lib.hid hall
   clear hrk hhd hall
   go_wp2_with (refine wpList_load_rd rfl 55 _ rfl _ rfl _ _ HRK.out Tryz.underlying55 rfl hi ?_)
   refine (HHD.out _ HF5.out HP.out.re).mono ?_
   rintro en w7 ⟨vH, rfl, hOH, hb7⟩
   obtain ⟨AH, go, cap, rfl, hraH⟩ : ∃ AH go cap, vH = .slice (some ⟨go, 0, none⟩) (es.length + 1) cap ∧ w7.rangeAt go 0 (u64s (headsR key es)) ∧ AH = 0 := by
    obtain ⟨A1, c1, rfl, hf1, -⟩ := hOH.flat
    rcases hf1 with h | ⟨g1, rfl, hr1⟩
    ·have := headsR_cell key es 0 (Nat.zero_le _)
     rw [h] at this
     cases this
    ·exact ⟨0, g1, c1, rfl, hr1, rfl⟩
   obtain ⟨hraH, -⟩ := hraH
   have hcn : w7.cell? ⟨go, es.length, none⟩ = some (.int .u64 ((headsR key es).getD es.length 0)) := by
    have := hraH es.length _ (headsR_cell key es es.length (Nat.le_refl _))
    rwa [Nat.zero_add] at this
   have hcp : ∀ p : Nat, p ≤ es.length → w7.cell? ⟨go, p, none⟩ = some (.int .u64 ((headsR key es).getD p 0)) := fun p hp => by
    have := hraH p _ (headsR_cell key es p hp)
    rwa [Nat.zero_add] at this
   have HP7 := Lib.hid (HP.out.below hb7); have HF7 := Lib.hid (HF5.out.below hb7); have HCN := Lib.hid hcn; have HCP := Lib.hid hcp
   clear hOH hraH hcn hcp hb7 HP HF5 HXS HRK HHD
   obtain ⟨i, him⟩ : ∃ i : Int, at_ % ((es.length : Int) + 3) = i + 1 := ⟨at_ % ((es.length : Int) + 3) - 1, by omega⟩
   have hi0 : -1 ≤ i := by have := Int.emod_nonneg at_ (show ((es.length : Int) + 3) ≠ 0 by omega); omega
   have hi1 : i ≤ (es.length : Int) + 1 := by have := Int.emod_lt_of_pos at_ (show (0 : Int) < (es.length : Int) + 3 by omega); omega
   have hwi := fun W => within_calls at_ ((es.length : Int) + 3) W HAT.out (by omega)
   rw [him] at hwi
   have HWI := Lib.hid hwi
   clear hwi him HAT
   go_wp2_with fail
   refine (HWI.out _).mono ?_
   rintro en wZ ⟨rfl, rfl⟩
   have hha := fun W hW => cheadat_calls w g (chH key es) hok5 i W hW
   have hch := fun W hW => chead_calls w g (chH key es) hok5 W hW
   rw [chH_head] at hch
   have hen := fun W hW => centries_calls w g (chH key es) hok5 W hW
   unfold RetOwn at hen
   rw [show (chH key es).es = es from rfl] at hen
   have hlg := fun AE cE W hE hF hR => logs_calls es HALL.out (by omega) X AE cE A5 c5 xs W hE hF hR
   generalize (headsR key es).getD es.length 0 = hd at *
   have HCH := Lib.hid hch; have HEN := Lib.hid hen; have HLG := Lib.hid hlg
   clear hch hen hlg
   have hni : (es.length : Int) < (es.length : Int) + 1 := by omega
   have hni0 : (0 : Int) ≤ (es.length : Int) := by omega
   by_cases h0 : 0 ≤ i
   ·by_cases h1 : i ≤ (es.length : Int)
    ·obtain ⟨p, rfl⟩ : ∃ p : Nat, i = (p : Int) := ⟨i.toNat, by omega⟩
     have hp : p ≤ es.length := by omega
     have hpi : (p : Int) < (es.length : Int) + 1 := by omega
     have hpi0 : (0 : Int) ≤ (p : Int) := by omega
     rw [chH_at key es p hp] at hha
     have hcp := HCP.out p hp
     generalize (headsR key es).getD p 0 = hv at *
     have HC1 := Lib.hid hcp; have HHA := Lib.hid hha
     clear hcp hha HCP
     go_wp2_with fail
     refine (HHA.out _ HP7.out.ch).mono ?_
     rintro en wY ⟨rfl, hbY⟩
     have HPY := Lib.hid (HP7.out.below hbY); have HFY := Lib.hid (HF7.out.below hbY); have HC1Y := Lib.hid (cell_below hbY HC1.out); have HC2Y := Lib.hid (cell_below hbY HCN.out)
     clear hbY HP7 HF7 HC1 HCN HHA
     go_upto_region 37 with fail
     refine wp_region_noPanic ?_
     refine wp_region_held_drew (S := fun w' => w'.cell? ⟨go, p, none⟩ = some (.int .u64 hv) ∧ w'.cell? ⟨go, es.length, none⟩ = some (.int .u64 hd)) (by kernel_rfl) ⟨cell_below (bl_refl _) HC1Y.out, cell_below (bl_refl _) HC2Y.out⟩ (fun hHeld => ?_)
     refine wpAnyH_world (fun W => Below wY.heap.size wY W) (bl_drew (bl_refl _)) (fun W2 hb2 => ?_)
     refine wpAnyH_lst #[false, false, false, false, false, false, false, false, false, false, false, false, false, false, false, false, false, false, false, false, false, false, false, false, false, false, false, false, false, false, false, false, false, false, false, false, false, false, false, false, false, false] (by rfl) ?_
     clear hHeld
     refine wpAnyH_named (fun A0 hA0 => ?_)
     have HA0 := Lib.hid hA0
     refine sp_in A0 [171, 172, 173, 174, 175, 176, 177, 178, 179, 180, 181, 182, 183, 184, 185, 186, 187, 188, 189, 190, 191, 192, 193, 194, 195, 196, 197, 198, 199, 200, 201, 202, 203, 204, 205, 206, 207, 208, 209, 210, 211, 10] 212 [(28, .bool true), (29, .bool true), (27, .int .u64 hv), (26, .slice (some ⟨go, 0, none⟩) (es.length + 1) cap), (4, .int .i64 p), (12, .pointer (some ⟨g, 0, none⟩)), (13, .slice A5 es.length c5)] (by rw [hA0]; rfl) ⟨cell_below (hb2) HC1Y.out, cell_below (hb2) HC2Y.out⟩ (by rw [hA0]; exact ⟨rfl, rfl, rfl, rfl, rfl, rfl, rfl, trivial⟩) ?_
     clear hA0
     refine st 0 [28] rfl ?_
     refine st 1 [29] rfl ?_
     refine st (v := .bool true) 2 [171, 172] rfl ?_
     refine st 3 [173] rfl ?_
     refine st 4 [29] rfl ?_
     refine st 5 [175] rfl ?_
     refine st 6 [176] rfl ?_
     refine st 7 [27] rfl ?_
     refine st 8 [26] rfl ?_
     refine st 9 [4] rfl ?_
     refine st (v := .pointer (some ⟨go, p, none⟩)) 10 [179, 180] rfl ?_
     refine st (v := .int .u64 hv) 11 [181] rfl ?_
     refine st (v := .bool true) 12 [178, 182] rfl ?_
     refine st 13 [177, 183] rfl ?_
     refine st 14 [174, 184] rfl ?_
     refine st 15 [185] rfl ?_
     refine st 16 [29] rfl ?_
     refine st 17 [187] rfl ?_
     refine stn 18 rfl ?_
     refine stn 19 rfl ?_
     refine st 20 [188, 190] rfl ?_
     refine st 21 [186, 191] rfl ?_
     refine st 22 [192] rfl ?_
     refine st 23 [12] rfl ?_
     refine st 25 [26] rfl ?_
     refine st 26 [13] rfl ?_
     refine st 27 [197] rfl ?_
     refine st (v := .pointer (some ⟨go, es.length, none⟩)) 28 [196, 198] rfl ?_
     refine st (v := .int .u64 hd) 29 [199] rfl ?_
     refine sr 24 (sc 24 [194] rfl (HCH.out _ (HPY.out.ch.below hb2)) ?_)
     rintro en W3 ⟨rfl, hb⟩
     replace hb2 := bl_step hb hb2
     refine ⟨_, rfl, ⟨cell_below (hb2) HC1Y.out, cell_below (hb2) HC2Y.out⟩, ?_⟩
     clear hb
     refine st (v := .bool true) 30 [195, 200] rfl ?_
     refine st 31 [193, 201] rfl ?_
     refine st 32 [202] rfl ?_
     refine st 33 [12] rfl ?_
     refine st 35 [13] rfl ?_
     refine sr 34 (sc 34 [204] rfl (HEN.out _ (HPY.out.ch.below hb2)) ?_)
     rintro en W3 ⟨vE, rfl, hOE, hb⟩
     obtain ⟨AE, cE, rfl, hFE, -⟩ := hOE.flat
     replace hb2 := bl_step hb hb2
     refine ⟨_, rfl, ⟨cell_below (hb2) HC1Y.out, cell_below (hb2) HC2Y.out⟩, ?_⟩
     clear hb
     refine sr 36 (sc 36 [205, 206] rfl (HLG.out AE cE _ hFE (HFY.out.below hb2) (HPY.out.re.below hb2)) ?_)
     rintro en W4 ⟨rfl, hb⟩
     replace hb2 := bl_step hb hb2
     refine ⟨_, rfl, ⟨cell_below (hb2) HC1Y.out, cell_below (hb2) HC2Y.out⟩, ?_⟩
     clear hb
     refine st 37 [203, 207] rfl ?_
     refine st 38 [208] rfl ?_
     refine sr 39 (sc 39 [] rfl (wakes13_calls _ (HT.out.below (bl_step hb2 HPY.out.bel))) ?_)
     rintro en W5 ⟨rfl, hb⟩
     replace hb2 := bl_step hb hb2
     refine ⟨_, rfl, ⟨cell_below (hb2) HC1Y.out, cell_below (hb2) HC2Y.out⟩, ?_⟩
     clear hb
     refine st 40 [209, 210] rfl ?_
     refine st 41 [211] rfl ?_
     refine sp_done (fun A hO hN hS => NoPanic.normal ?_)
     obtain ⟨fo, hfo⟩ := hO.lit HA0.out
     have g10 := hN.get 10 rfl
     clear hO hN
     dsimp only [putL, List.set_cons_zero, List.set_cons_succ] at hfo
     subst hfo
     have g10 : fo 10 = .bool true := g10
     go_wp2_with fail
     go_ret
     exact ⟨rfl, bl_step hb2 HPY.out.bel⟩
    ·have h1d : decide (i ≤ (es.length : Int)) = false := decide_eq_false h1
     rw [chH_at_no key es i (by omega)] at hha
     have HHA := Lib.hid hha
     clear hha HCP
     go_wp2_with fail
     refine (HHA.out _ HP7.out.ch).mono ?_
     rintro en wY ⟨rfl, hbY⟩
     have HPY := Lib.hid (HP7.out.below hbY); have HFY := Lib.hid (HF7.out.below hbY); have HC2Y := Lib.hid (cell_below hbY HCN.out)
     clear hbY HP7 HF7 HCN HHA
     go_upto_region 37 with fail
     refine wp_region_noPanic ?_
     refine wp_region_held_drew (S := fun w' => w'.cell? ⟨go, es.length, none⟩ = some (.int .u64 hd)) (by kernel_rfl) (cell_below (bl_refl _) HC2Y.out) (fun hHeld => ?_)
     refine wpAnyH_world (fun W => Below wY.heap.size wY W) (bl_drew (bl_refl _)) (fun W2 hb2 => ?_)
     refine wpAnyH_lst #[false, false, false, false, false, false, false, false, false, false, false, false, false, false, false, false, false, false, false, false, false, false, false, false, false, false, false, false, false, false, false, false, false, false, false, false, false, false, false, false, false, false] (by rfl) ?_
     clear hHeld
     refine wpAnyH_named (fun A0 hA0 => ?_)
     have HA0 := Lib.hid hA0
     refine sp_in A0 [171, 172, 173, 174, 175, 176, 177, 178, 179, 180, 181, 182, 183, 184, 185, 186, 187, 188, 189, 190, 191, 192, 193, 194, 195, 196, 197, 198, 199, 200, 201, 202, 203, 204, 205, 206, 207, 208, 209, 210, 211, 10] 212 [(28, .bool false), (29, .bool false), (27, .int .u64 0), (26, .slice (some ⟨go, 0, none⟩) (es.length + 1) cap), (4, .int .i64 i), (12, .pointer (some ⟨g, 0, none⟩)), (13, .slice A5 es.length c5)] (by rw [hA0]; rfl) (cell_below (hb2) HC2Y.out) (by rw [hA0]; exact ⟨rfl, rfl, rfl, rfl, rfl, rfl, rfl, trivial⟩) ?_
     clear hA0
     refine st 0 [28] rfl ?_
     refine st 1 [29] rfl ?_
     refine st (v := .bool true) 2 [171, 172] rfl ?_
     refine st 3 [173] rfl ?_
     refine st 4 [29] rfl ?_
     refine st 5 [175] rfl ?_
     refine st 6 [176] rfl ?_
     refine stn 7 rfl ?_
     refine stn 8 rfl ?_
     refine stn 9 rfl ?_
     refine stn 10 rfl ?_
     refine stn 11 rfl ?_
     refine stn 12 rfl ?_
     refine st 13 [177, 183] rfl ?_
     refine st 14 [174, 184] rfl ?_
     refine st 15 [185] rfl ?_
     refine st 16 [29] rfl ?_
     refine st 17 [187] rfl ?_
     refine st 18 [27] rfl ?_
     refine st (v := .bool true) 19 [189] rfl ?_
     refine st 20 [188, 190] rfl ?_
     refine st 21 [186, 191] rfl ?_
     refine st 22 [192] rfl ?_
     refine st 23 [12] rfl ?_
     refine st 25 [26] rfl ?_
     refine st 26 [13] rfl ?_
     refine st 27 [197] rfl ?_
     refine st (v := .pointer (some ⟨go, es.length, none⟩)) 28 [196, 198] rfl ?_
     refine st (v := .int .u64 hd) 29 [199] rfl ?_
     refine sr 24 (sc 24 [194] rfl (HCH.out _ (HPY.out.ch.below hb2)) ?_)
     rintro en W3 ⟨rfl, hb⟩
     replace hb2 := bl_step hb hb2
     refine ⟨_, rfl, (cell_below (hb2) HC2Y.out), ?_⟩
     clear hb
     refine st (v := .bool true) 30 [195, 200] rfl ?_
     refine st 31 [193, 201] rfl ?_
     refine st 32 [202] rfl ?_
     refine st 33 [12] rfl ?_
     refine st 35 [13] rfl ?_
     refine sr 34 (sc 34 [204] rfl (HEN.out _ (HPY.out.ch.below hb2)) ?_)
     rintro en W3 ⟨vE, rfl, hOE, hb⟩
     obtain ⟨AE, cE, rfl, hFE, -⟩ := hOE.flat
     replace hb2 := bl_step hb hb2
     refine ⟨_, rfl, (cell_below (hb2) HC2Y.out), ?_⟩
     clear hb
     refine sr 36 (sc 36 [205, 206] rfl (HLG.out AE cE _ hFE (HFY.out.below hb2) (HPY.out.re.below hb2)) ?_)
     rintro en W4 ⟨rfl, hb⟩
     replace hb2 := bl_step hb hb2
     refine ⟨_, rfl, (cell_below (hb2) HC2Y.out), ?_⟩
     clear hb
     refine st 37 [203, 207] rfl ?_
     refine st 38 [208] rfl ?_
     refine sr 39 (sc 39 [] rfl (wakes13_calls _ (HT.out.below (bl_step hb2 HPY.out.bel))) ?_)
     rintro en W5 ⟨rfl, hb⟩
     replace hb2 := bl_step hb hb2
     refine ⟨_, rfl, (cell_below (hb2) HC2Y.out), ?_⟩
     clear hb
     refine st 40 [209, 210] rfl ?_
     refine st 41 [211] rfl ?_
     refine sp_done (fun A hO hN hS => NoPanic.normal ?_)
     obtain ⟨fo, hfo⟩ := hO.lit HA0.out
     have g10 := hN.get 10 rfl
     clear hO hN
     dsimp only [putL, List.set_cons_zero, List.set_cons_succ] at hfo
     subst hfo
     have g10 : fo 10 = .bool true := g10
     go_wp2_with fail
     go_ret
     exact ⟨rfl, bl_step hb2 HPY.out.bel⟩
   ·rw [chH_at_no key es i (by omega)] at hha
    have HHA := Lib.hid hha
    clear hha HCP
    go_wp2_with fail
    refine (HHA.out _ HP7.out.ch).mono ?_
    rintro en wY ⟨rfl, hbY⟩
    have HPY := Lib.hid (HP7.out.below hbY); have HFY := Lib.hid (HF7.out.below hbY); have HC2Y := Lib.hid (cell_below hbY HCN.out)
    clear hbY HP7 HF7 HCN HHA
    go_upto_region 37 with fail
    refine wp_region_noPanic ?_
    refine wp_region_held_drew (S := fun w' => w'.cell? ⟨go, es.length, none⟩ = some (.int .u64 hd)) (by kernel_rfl) (cell_below (bl_refl _) HC2Y.out) (fun hHeld => ?_)
    refine wpAnyH_world (fun W => Below wY.heap.size wY W) (bl_drew (bl_refl _)) (fun W2 hb2 => ?_)
    refine wpAnyH_lst #[false, false, false, false, false, false, false, false, false, false, false, false, false, false, false, false, false, false, false, false, false, false, false, false, false, false, false, false, false, false, false, false, false, false, false, false, false, false, false, false, false, false] (by rfl) ?_
    clear hHeld
    refine wpAnyH_named (fun A0 hA0 => ?_)
    have HA0 := Lib.hid hA0
    refine sp_in A0 [171, 172, 173, 174, 175, 176, 177, 178, 179, 180, 181, 182, 183, 184, 185, 186, 187, 188, 189, 190, 191, 192, 193, 194, 195, 196, 197, 198, 199, 200, 201, 202, 203, 204, 205, 206, 207, 208, 209, 210, 211, 10] 212 [(28, .bool false), (29, .bool false), (27, .int .u64 0), (26, .slice (some ⟨go, 0, none⟩) (es.length + 1) cap), (4, .int .i64 i), (12, .pointer (some ⟨g, 0, none⟩)), (13, .slice A5 es.length c5)] (by rw [hA0]; rfl) (cell_below (hb2) HC2Y.out) (by rw [hA0]; exact ⟨rfl, rfl, rfl, rfl, rfl, rfl, rfl, trivial⟩) ?_
    clear hA0
    refine st 0 [28] rfl ?_
    refine st 1 [29] rfl ?_
    refine st (v := .bool true) 2 [171, 172] rfl ?_
    refine st 3 [173] rfl ?_
    refine st 4 [29] rfl ?_
    refine st 5 [175] rfl ?_
    refine st 6 [176] rfl ?_
    refine stn 7 rfl ?_
    refine stn 8 rfl ?_
    refine stn 9 rfl ?_
    refine stn 10 rfl ?_
    refine stn 11 rfl ?_
    refine stn 12 rfl ?_
    refine st 13 [177, 183] rfl ?_
    refine st 14 [174, 184] rfl ?_
    refine st 15 [185] rfl ?_
    refine st 16 [29] rfl ?_
    refine st 17 [187] rfl ?_
    refine st 18 [27] rfl ?_
    refine st (v := .bool true) 19 [189] rfl ?_
    refine st 20 [188, 190] rfl ?_
    refine st 21 [186, 191] rfl ?_
    refine st 22 [192] rfl ?_
    refine st 23 [12] rfl ?_
    refine st 25 [26] rfl ?_
    refine st 26 [13] rfl ?_
    refine st 27 [197] rfl ?_
    refine st (v := .pointer (some ⟨go, es.length, none⟩)) 28 [196, 198] rfl ?_
    refine st (v := .int .u64 hd) 29 [199] rfl ?_
    refine sr 24 (sc 24 [194] rfl (HCH.out _ (HPY.out.ch.below hb2)) ?_)
    rintro en W3 ⟨rfl, hb⟩
    replace hb2 := bl_step hb hb2
    refine ⟨_, rfl, (cell_below (hb2) HC2Y.out), ?_⟩
    clear hb
    refine st (v := .bool true) 30 [195, 200] rfl ?_
    refine st 31 [193, 201] rfl ?_
    refine st 32 [202] rfl ?_
    refine st 33 [12] rfl ?_
    refine st 35 [13] rfl ?_
    refine sr 34 (sc 34 [204] rfl (HEN.out _ (HPY.out.ch.below hb2)) ?_)
    rintro en W3 ⟨vE, rfl, hOE, hb⟩
    obtain ⟨AE, cE, rfl, hFE, -⟩ := hOE.flat
    replace hb2 := bl_step hb hb2
    refine ⟨_, rfl, (cell_below (hb2) HC2Y.out), ?_⟩
    clear hb
    refine sr 36 (sc 36 [205, 206] rfl (HLG.out AE cE _ hFE (HFY.out.below hb2) (HPY.out.re.below hb2)) ?_)
    rintro en W4 ⟨rfl, hb⟩
    replace hb2 := bl_step hb hb2
    refine ⟨_, rfl, (cell_below (hb2) HC2Y.out), ?_⟩
    clear hb
    refine st 37 [203, 207] rfl ?_
    refine st 38 [208] rfl ?_
    refine sr 39 (sc 39 [] rfl (wakes13_calls _ (HT.out.below (bl_step hb2 HPY.out.bel))) ?_)
    rintro en W5 ⟨rfl, hb⟩
    replace hb2 := bl_step hb hb2
    refine ⟨_, rfl, (cell_below (hb2) HC2Y.out), ?_⟩
    clear hb
    refine st 40 [209, 210] rfl ?_
    refine st 41 [211] rfl ?_
    refine sp_done (fun A hO hN hS => NoPanic.normal ?_)
    obtain ⟨fo, hfo⟩ := hO.lit HA0.out
    have g10 := hN.get 10 rfl
    clear hO hN
    dsimp only [putL, List.set_cons_zero, List.set_cons_succ] at hfo
    subst hfo
    have g10 : fo 10 = .bool true := g10
    go_wp2_with fail
    go_ret
    exact ⟨rfl, bl_step hb2 HPY.out.bel⟩
end Go.Proofs.YtapbkomicihkkaaGreatDoor
