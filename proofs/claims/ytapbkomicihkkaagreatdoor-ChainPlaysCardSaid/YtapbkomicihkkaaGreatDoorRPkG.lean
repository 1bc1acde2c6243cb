/- The document's events as bytes. -/
import Derived.Test.YtapbkomicihkkaaGreatDoorSipG
import Derived.Test.YtapbkomicihkkaaGreatDoorREvG
import Derived.Test.YtapbkomicihkkaaGreatDoorSomeG
import Derived.Test.YtapbkomicihkkaaGreatDoorPkG
import Derived.Test.YtapbkomicihkkaaGreatDoorLawAG
import Derived.Lib.SlBytesConst
namespace Go.Proofs.YtapbkomicihkkaaGreatDoor
open Go.RowKit
set_option linter.unusedVariables false
set_option linter.unusedSimpArgs false

set_option maxRecDepth 100000 in
set_option maxHeartbeats 1000000 in
theorem rnum_calls (n : Int) (hn : -9223372036854775808 ≤ n ∧ n < 9223372036854775808) (w : World) :
  Calls Tryz.prog 117 #[.int .i64 n] w (RetOwn w 5 1 8 (byts (beI n))) := by
 have hb1 : ∀ (W : World) (x : Int), (Instr.buildSlice 51 1 #[(0, .int .u8 x)]).run Tryz.prog W = .ok (.slice (some ⟨W.heap.size, 0, none⟩) 1 1) (W.alloc (.cells #[.int .u8 x] 5)) := fun _ _ => by kernel_rfl
 rw [byts_beI]
 go_enter Tryz.func117, Tryz.ntmps117
 go_wp2_with fail
 go_loopw [3, 4] (fun b i wr => ∃ k : Nat, k ≤ 8 ∧ i = .int .i64 (7 - (k : Int)) ∧ Own w wr 5 1 b k ((List.range k).map (beAt n)) ∧ Below w.heap.size w wr) (fun _ i _ => (intOf i + 1).toNat)
 case atStart => exact ⟨0, by omega, rfl, Own.nil _ _ _ _, bl_refl _⟩
 case round =>
  obtain ⟨k, hk, rfl, HO, HB⟩ := hrel
  by_cases hlt : k < 8
  ·have hsh := fun w' => (run_shr Tryz.prog .u64 .u64 (n % 18446744073709551616) (8 * (7 - (k : Int))) (by omega) w')
   rw [show min (8 * (7 - (k : Int))).toNat IntKind.u64.bits = 56 - 8 * k by rw [show (8 * (7 - (k : Int))).toNat = 56 - 8 * k by omega]; show min (56 - 8 * k) 64 = 56 - 8 * k; omega] at hsh
   have h0 : (0 : Int) ≤ 7 - (k : Int) := by omega
   have h1 : (8 * (7 - (k : Int))) % 18446744073709551616 = 8 * (7 - (k : Int)) := by omega
   have h2 : IntKind.u64.wrap (8 * (7 - (k : Int))) = 8 * (7 - (k : Int)) := by rw [IntKind.wrap_u64]; exact h1
   go_wp2_with (at_builtin; refine append_one rfl _ _ 51 5 _ 1 rfl Tryz.underlying51 info_u8 rfl _ _ _ _ HO HB rfl rfl rfl (by omega) (by omega) ?_; intro v1 w3 HO1 HB1 HG1)
   have e : Value.int .u8 (IntKind.u64.wrap n / 2 ^ (8 * (7 - k)) % 256) = beAt n k := by unfold beAt; rw [IntKind.wrap_u64, show 8 * (7 - k) = 56 - 8 * k by omega]
   rw [e] at HO1
   go_roundw
   case rel => exact ⟨k + 1, by omega, by go_num, by rw [range_snoc_map]; exact HO1, HB1⟩
   case measure => simp [intOf]; omega
  ·obtain rfl : k = 8 := by omega
   go_wp2_with fail
   go_ret
   exact ⟨_, rfl, HO, HB⟩
theorem Tm.fine_kind : ∀ (t : Tm), t.fine → t.tr.kind ≠ 0 ∧ t.isNil = false
 | .zero, _ => ⟨by decide, rfl⟩
 | .one _, _ => ⟨by simp [Tm.tr, Tr.kind], rfl⟩
 | .give _, _ => ⟨by simp [Tm.tr, Tr.kind], rfl⟩
 | .and _ _, _ => ⟨by simp [Tm.tr, Tr.kind], rfl⟩
 | .or _ _ _, _ => ⟨by simp [Tm.tr, Tr.kind], rfl⟩
 | .scale _ _, _ => ⟨by simp [Tm.tr, Tr.kind], rfl⟩
 | .when_ _ _, _ => ⟨by simp [Tm.tr, Tr.kind], rfl⟩
 | .if_ _ _ _, _ => ⟨by simp [Tm.tr, Tr.kind], rfl⟩
 | .odd _, h => h.elim
theorem Tr.same_zero (t u : Tr) (h : t.kind = 0 ∨ u.kind = 0) : t.same u = false := by
 cases t with
 | mk k s n ks => cases u with
  | mk k' s' n' ks' =>
   unfold Tr.same
   simp only [Tr.kind] at h
   by_cases h1 : k = 0
   ·simp [h1]
   ·rcases h with h | h
    ·exact absurd h h1
    ·subst h
     simp [h1]
theorem Ev.rsame_eq (a b : Ev) (ha : a.term.fit) (hb : b.term.fit) : a.rsame b = a.same b := by
 unfold Ev.rsame Ev.same Ev.terms
 rw [Bool.and_comm]
 congr 1
 rcases ha with ha | ⟨ha, -⟩
 ·rcases hb with hb | ⟨hb, -⟩
  ·rw [ha, hb]; rfl
  ·obtain ⟨h1, h2⟩ := b.term.fine_kind hb
   rw [ha, h2, Tr.same_zero _ _ (.inl rfl)]
   simp [h1, Tm.same]
 ·obtain ⟨h1, h2⟩ := a.term.fine_kind ha
  rcases hb with hb | ⟨hb, -⟩
  ·rw [hb, h2, Tr.same_zero _ _ (.inr rfl)]
   have h3 : (a.term.tr.kind == 0) = false := by simpa using h1
   have h4 : a.term.same (.odd .nilIface) = false := by cases a.term <;> simp [Tm.same]
   rw [h3, h4]
   rfl
  ·rw [h2, Tm.tr_same _ _ ha hb]
   simp [h1]
/-- It returns bytes that it made. -/
def RetRB (w : World) (l : List UInt8) (en : Ending) (w' : World) : Prop := ∃ v, en = .returned v ∧ Own w w' 5 1 v l.length (byts l) ∧ Below w.heap.size w w'
theorem RetRB.of {w w' : World} {l : List UInt8} {v : Value} {n : Nat} {xs : List Value} (hx : byts l = xs) (hn : l.length = n) (ho : Own w w' 5 1 v n xs) (hb : Below w.heap.size w w') : RetRB w l (.returned v) w' := by
 subst hx hn; exact ⟨v, rfl, ho, hb⟩
set_option maxRecDepth 100000 in
theorem rrow_calls (s : ByteArray) (hs : s.size ≤ 1000000) (w : World) : Calls Tryz.prog 116 #[.string s] w (RetRB w (rowB s)) := by
 have hbs := fun (x : Int) (W : World) => bs_u8 x W
 have hO0 := Own.of_blk (w0 := w) (Blk.new w #[.int .u8 ((s.size : Int) % 256)] 5) (xs := [.int .u8 ((s.size : Int) % 256)]) (Nat.le_refl _) rfl (by show 1 ≤ maxLen; decide)
 have hB0 := bl_alloc (bl_refl w) (.cells #[.int .u8 ((s.size : Int) % 256)] 5)
 have hsw : IntKind.u8.wrap (s.size : Int) = (s.size : Int) % 256 := IntKind.wrap_u8 _
 have hlm : (s.size : Int) ≤ 1000000 := by omega
 have HO0 := Lib.hid hO0; have HB0 := Lib.hid hB0
 clear hO0 hB0
 go_enter Tryz.func116, Tryz.ntmps116
 go_wp2_with (at_builtin; refine append_text rfl _ _ 51 9 5 rfl Tryz.underlying51 Tryz.underlying9 info_u8 _ 1 _ s HO0.out HB0.out rfl rfl (by omega) ?_; intro v1 w3 HO1 HB1 HG1)
 go_ret
 exact RetRB.of (by unfold rowB byts; simp [u8_nat]) (by unfold rowB; rw [List.length_cons, ba_len]; omega) HO1 HB1
theorem rnumB_calls (n : Int) (hn : IsInt64 n) (w : World) : Calls Tryz.prog 117 #[.int .i64 n] w (RetRB w (beI n)) := by
 unfold IsInt64 at hn
 refine (rnum_calls n hn w).mono ?_
 rintro en w' ⟨v, rfl, ho, hb⟩
 exact RetRB.of rfl (beI_length n) ho hb
/-- A field's bytes, if the kind has it. -/
def Ev.optB (e : Ev) (c : UInt8) : List UInt8 := if (fieldsL e.kind).contains c then e.fieldB c else []
theorem Ev.order_opt (e : Ev) : (Ev.order e.kind).flatMap e.fieldB = ordB.flatMap e.optB := by
 have h : ∀ l : List UInt8, (l = [] ∨ l = [73, 84] ∨ l = [78, 68, 86] ∨ l = [73, 76, 86] ∨ l = [68] ∨ l = [68, 67, 86] ∨ l = [63]) → (ordF l ordB).flatMap e.fieldB = ordB.flatMap (fun c => if l.contains c then e.fieldB c else []) := by
  intro l hl
  rcases hl with rfl | rfl | rfl | rfl | rfl | rfl | rfl <;> simp [ordF, ordB]
 have := h (fieldsL e.kind) (by unfold fieldsL; (repeat' split) <;> simp)
 exact this
theorem Ev.optB_len (e : Ev) (h : e.small) (j : Nat) : ((ordB.take j).flatMap e.optB).length ≤ 7000070 := by
 have h2 : ∀ l : List UInt8, (l.flatMap e.optB).length ≤ l.length * 1000010 := by
  intro l
  induction l with
  | nil => simp
  | cons c l ih =>
   rw [List.flatMap_cons, List.length_append, List.length_cons, Nat.succ_mul]
   have h1 : (e.optB c).length ≤ 1000010 := by
    unfold Ev.optB
    split
    ·exact e.fieldB_len h c
    ·simp
   omega
 have h3 := h2 (ordB.take j)
 have h4 : (ordB.take j).length ≤ 7 := by rw [List.length_take]; show min j 7 ≤ 7; omega
 omega
theorem fit_tr {e : Ev} (h : e.fit) : e.term.tr.size ≤ 1000000 ∧ e.term.tr.ok := by
 rcases h.term with e1 | ⟨hf, hp⟩
 ·rw [e1]
  refine ⟨by simp [Tm.tr, Tr.size, Tr.sizeAll], ?_⟩
  simp only [Tm.tr]
  unfold Tr.ok
  exact ⟨⟨by omega, by decide, by omega⟩, by unfold Tr.okAll; trivial⟩
 ·exact ⟨by rw [e.term.tr_size hf]; omega, e.term.tr_ok hf⟩
theorem fit_rcheck {e : Ev} (h : e.fit) : e.rcheck false = e.check := by
 refine Ev.rcheck_eq e false ?_ (fun _ => by rw [e.term.tr_write])
 rcases h.term with e1 | ⟨hf, hp⟩
 ·rw [e1]; rfl
 ·obtain ⟨h1, h2⟩ := e.term.fine_kind hf
  rw [h2]
  simp [h1]
theorem fit_sm {e : Ev} (h : e.fit) : e.small := by
 refine ⟨⟨by have := h.kind; unfold IsInt64; omega, h.day, h.value, ?_⟩, ?_, by have := h.id; omega, by have := h.name; omega, by have := h.label; omega, by have := h.cur; omega⟩
 ·rcases h.term with e1 | ⟨hf, hp⟩
  ·rw [e1]; exact .inl rfl
  ·exact hf.ok
 ·rcases h.term with e1 | ⟨hf, hp⟩
  ·rw [e1]; decide
  ·rw [Tm.fine_meas _ hf]; omega
def ordA : Array Value := #[.int .u8 73, .int .u8 78, .int .u8 76, .int .u8 67, .int .u8 68, .int .u8 86, .int .u8 84]
/-- The row of letters, marked as a text's. -/
def BlkM (W : World) (g : Nat) : Prop := W.heap[g]? = some (.cells ordA 5 (7, 8))
theorem BlkM.cell {W : World} {g : Nat} (h : BlkM W g) (j : Nat) : W.cell? ⟨g, j, none⟩ = ordA[j]? := by
 unfold BlkM at h; simp [World.cell?, h]
theorem BlkM.lt {W : World} {g : Nat} (h : BlkM W g) : g < W.heap.size := (Array.getElem?_eq_some_iff.1 h).1
theorem BlkM.below {W W1 : World} {g : Nat} (h : BlkM W g) (hb : Below W.heap.size W W1) : BlkM W1 g := (hb.block g h.lt).trans h
theorem BlkM.grown {W W1 : World} {g : Nat} {r : Option Nat} (h : BlkM W g) (hg : W.grownBy W1 r) (hne : r ≠ some g) : BlkM W1 g := (hg.block g h.lt (fun e => hne e.symm)).trans h
theorem BlkM.new (W : World) : BlkM (W.alloc (.cells ordA 5 (7, 8))) W.heap.size := by
 unfold BlkM; show (W.heap.push _)[W.heap.size]? = _; simp
theorem Own.ne_m {w0 W : World} {e size n g : Nat} {v : Value} {xs : List Value} (h : Own w0 W e size v n xs) (hb : BlkM W g) : v.ownBlock ≠ some g := by
 intro hk
 rcases h.2 with ⟨rfl, h2⟩ | ⟨g', cap, cur, rfl, _, hh, hle, _, hsz, hxs⟩
 ·simp [Value.ownBlock] at hk
 ·have e1 : g' = g := by simpa [Value.ownBlock] using hk
  subst e1
  unfold BlkM at hb
  rw [hh] at hb
  injection hb with hb
  injection hb with _ _ hb
  exact absurd hb (by decide)
set_option maxRecDepth 100000 in
set_option maxHeartbeats 8000000 in
theorem rpack_calls (e : Ev) (h : e.fit) (x : Nat) (w : World) (v : Value) (hv : EvAt x w e v) : Calls Tryz.prog 85 #[v] w (RetPk w e.pack e.check) := by
 obtain ⟨c0, c1, c2, c3, rfl, hT⟩ := hv
 obtain ⟨hts, hto⟩ := fit_tr h
 have hsm := fit_sm h
 have hck := fun W (hT : TrAt x W e.term.tr (.agg #[c0, c1, c2, c3])) => revcheck_calls e hsm.ok.kind hsm.ok.day hsm.ok.value hsm.id hsm.name hsm.label hsm.cur hts hto false x W _ ⟨_, _, _, _, rfl, hT⟩
 rw [fit_rcheck h] at hck
 have hwr := fun W (hT : TrAt x W e.term.tr (.agg #[c0, c1, c2, c3])) => rwrite_calls e.term.tr hts hto false x W _ hT
 rw [e.term.tr_write] at hwr
 have hln := e.optB_len hsm
 have hwz := write_size e.term
 have hpk : Hid (e.check = 0 → e.pack = UInt8.ofNat (e.kind % 256).toNat :: ordB.flatMap e.optB) := fun hz => by unfold Ev.pack Ev.bytes; rw [if_pos hz, e.order_opt]
 obtain ⟨A9, c9, cs9, hag, -, -⟩ := hT.open_
 have hcc : c0 = .int .i64 e.term.tr.kind ∧ c1 = .string e.term.tr.s ∧ c2 = .int .i64 e.term.tr.n ∧ c3 = .slice A9 e.term.tr.ks.length c9 := by injection hag with hag; simp at hag; exact hag
 obtain ⟨rfl, rfl, rfl, rfl⟩ := hcc
 clear hag
 have HKD := Lib.hid h.kind
 generalize e.term.tr.kind = tk at *
 generalize e.term.tr.s = ts at *
 generalize e.term.tr.n = tn at *
 generalize e.term.tr.ks.length = tl at *
 obtain ⟨W1, hW1⟩ : ∃ W1, w.alloc (.cells #[.int .i64 e.kind, .string e.id, .string e.name, .string e.label, .string e.cur, .int .i64 e.day, .int .i64 e.value, .int .i64 tk, .string ts, .int .i64 tn, .slice A9 tl c9] 35) = W1 := ⟨_, rfl⟩
 have hk1 := Blk.new w #[.int .i64 e.kind, .string e.id, .string e.name, .string e.label, .string e.cur, .int .i64 e.day, .int .i64 e.value, .int .i64 tk, .string ts, .int .i64 tn, .slice A9 tl c9] 35
 have hb1 := bl_alloc (bl_refl w) (.cells #[.int .i64 e.kind, .string e.id, .string e.name, .string e.label, .string e.cur, .int .i64 e.day, .int .i64 e.value, .int .i64 tk, .string ts, .int .i64 tn, .slice A9 tl c9] 35)
 rw [hW1] at hk1 hb1
 have HT := Lib.hid hT; have HW1 := Lib.hid hW1; have HCK := Lib.hid hck; have HWR := Lib.hid hwr; have HLN := Lib.hid hln; have HK1 := Lib.hid hk1; have HB1 := Lib.hid hb1; have HSM := Lib.hid hsm; have HWZ := Lib.hid hwz
 clear hT hW1 hck hwr hln hk1 hb1 hsm h hts hto hwz
 obtain ⟨f0, f1, f2, f3, f4, f5, f6, f7, f8, f9, f10⟩ := HK1.out.eleven
 by_cases hz : e.check = 0
 ·have HPK := Lib.hid (hpk.out hz)
  have hoe := fun hk : e.kind = 2 => show e.term.write.2 = 0 by
   have h1 := order_E e hz (c := 84) (by rw [hk]; decide)
   exact h1
  have HOE := Lib.hid hoe
  rw [hz] at HCK ⊢
  rw [HPK.out]
  clear hz hpk HPK hoe
  go_enter Tryz.func85, Tryz.ntmps85
  go_upto_region 1 with fail
  rw [HW1.out]
  clear HW1
  go_wp2_with fail
  refine (HCK.out _ (HT.out.below HB1.out)).mono ?_
  rintro en w2 ⟨rfl, hb2⟩
  clear f0 f1 f2 f3 f4 f5 f6 f7 f8 f9 f10
  have HK2 := Lib.hid (HK1.out.below hb2); have HB2 := Lib.hid (bl_step hb2 HB1.out)
  clear hb2 HCK HK1 HB1
  obtain ⟨f0, f1, f2, f3, f4, f5, f6, f7, f8, f9, f10⟩ := HK2.out.eleven
  have hbs := fun (x : Int) (W : World) => bs_u8 x W
  go_upto_region 5 with fail
  clear hbs f0 f1 f2 f3 f4 f5 f6 f7 f8 f9 f10
  obtain ⟨c, hc⟩ : ∃ c, UInt8.ofNat (e.kind % 256).toNat = c := ⟨_, rfl⟩
  have hcv : Value.int .u8 (e.kind % 256) = .int .u8 (c.toNat : Int) := by rw [← hc]; congr 1; simp; omega
  rw [hc]
  have hO0 : Own w (w2.alloc (.cells #[.int .u8 (e.kind % 256)] 5)) 5 1 (.slice (some ⟨w2.heap.size, 0, none⟩) 1 1) 1 [.int .u8 (e.kind % 256)] := Own.of_blk (w0 := w) (Blk.new w2 #[.int .u8 (e.kind % 256)] 5) (xs := [.int .u8 (e.kind % 256)]) HB2.out.size rfl (by show 1 ≤ maxLen; decide)
  have hB3 := bl_alloc HB2.out (.cells #[.int .u8 (e.kind % 256)] 5)
  have hK3 := HK2.out.below (bl_alloc (bl_refl _) (.cells #[.int .u8 (e.kind % 256)] 5))
  obtain ⟨W3, hW3⟩ : ∃ W3, w2.alloc (.cells #[.int .u8 (e.kind % 256)] 5) = W3 := ⟨_, rfl⟩
  rw [hW3] at hO0 hB3 hK3 ⊢
  obtain ⟨v0, hv0⟩ : ∃ v0, Value.slice (some ⟨w2.heap.size, 0, none⟩) 1 1 = v0 := ⟨_, rfl⟩
  rw [hv0, hcv] at hO0
  rw [hv0]
  obtain ⟨q, hq⟩ : ∃ q, W3.heap.size = q := ⟨_, rfl⟩
  have hl4 := BlkM.new W3
  have hO4 := hO0.below (bl_alloc (bl_refl W3) (.cells ordA 5 (7, 8)))
  have hK4 := hK3.below (bl_alloc (bl_refl W3) (.cells ordA 5 (7, 8)))
  have hB4 := bl_alloc hB3 (.cells ordA 5 (7, 8))
  have hkc := Lib.run_convert_bytes_const (P := Tryz.prog) W3 51 5 ordA 7 7 Tryz.underlying51 Tryz.underlying5
  rw [show (ordA.size, ordA.size + 1) = (7, 8) from rfl] at hkc
  obtain ⟨W5, hW5⟩ : ∃ W5, W3.alloc (.cells ordA 5 (7, 8)) = W5 := ⟨_, rfl⟩
  rw [hW5] at hl4 hO4 hK4 hB4 hkc
  rw [hq] at hkc
  unfold ordA at hkc
  rw [hq] at hl4
  clear hW5
  have HC0 := Lib.hid hc; have HK4 := Lib.hid hK4; have HO4 := Lib.hid hO4; have HB4 := Lib.hid hB4; have HL4 := Lib.hid hl4
  clear hW3 hv0 hcv hc hO0 hB3 hK3 HK2 HB2 hK4 hO4 hB4 hl4
  go_wp2_with fail
  clear hkc
  go_loopw [5, 22] (fun o i wr => ∃ j m : Nat, j ≤ 7 ∧ i = .int .i64 j ∧ m = 1 + ((ordB.take j).flatMap e.optB).length ∧ Own w wr 5 1 o m (byts (c :: (ordB.take j).flatMap e.optB)) ∧ Blk wr w.heap.size #[.int .i64 e.kind, .string e.id, .string e.name, .string e.label, .string e.cur, .int .i64 e.day, .int .i64 e.value, .int .i64 tk, .string ts, .int .i64 tn, .slice A9 tl c9] 35 ∧ BlkM wr q ∧ Below w.heap.size w wr) (fun _ i _ => 7 - (intOf i).toNat)
  case atStart => exact ⟨0, 1, by omega, rfl, by simp, by simpa [byts] using HO4.out, HK4.out, HL4.out, HB4.out⟩
  case round =>
   clear HO4 HK4 HL4 HB4
   obtain ⟨j, m, hj, rfl, hm, hO, hK, hL, hB⟩ := hrel
   have hwz := HWZ.out
   have HM := Lib.hid hm; have HO := Lib.hid hO; have HK := Lib.hid hK; have HL := Lib.hid hL; have HB := Lib.hid hB
   clear hm hO hK hL hB
   obtain rfl | rfl | rfl | rfl | rfl | rfl | rfl | rfl : j = 0 ∨ j = 1 ∨ j = 2 ∨ j = 3 ∨ j = 4 ∨ j = 5 ∨ j = 6 ∨ j = 7 := by omega
   ·have g0 : wr.cell? ⟨q, 0, none⟩ = some (.int .u8 73) := HL.out.cell 0
    have HFL : Hid (ordB.take (0 + 1) = ordB.take 0 ++ [73]) := by show _ = _; rfl
    have hrh := fun W => rhasS_calls e.kind 73 W
    obtain ⟨f0, f1, f2, f3, f4, f5, f6, f7, f8, f9, f10⟩ := HK.out.eleven
    cases hc : (fieldsL e.kind).contains 73 with
    | false =>
     have hfb : e.optB 73 = [] := by unfold Ev.optB; rw [hc]; rfl
     have HFB := Lib.hid hfb
     rw [hc] at hrh
     have HRH := Lib.hid hrh
     clear hc hfb hrh
     go_wp2_with fail
     refine (rfields_calls e.kind _).mono ?_
     rintro en w5 ⟨rfl, rfl⟩
     go_wp2_with fail
     refine (HRH.out _).mono ?_
     rintro en w5 ⟨rfl, rfl⟩
     go_wp2_with fail
     go_roundw
     case rel => exact ⟨0 + 1, m, by omega, by go_num, by rw [HFL.out, List.flatMap_append, List.flatMap_cons, HFB.out, HM.out]; simp, by rw [HFL.out, List.flatMap_append, List.flatMap_cons, HFB.out]; simpa using HO.out, HK.out, HL.out, HB.out⟩
     case measure => simp [intOf]
    | true =>
     have hfb : e.optB 73 = e.fieldB 73 := by unfold Ev.optB; rw [hc]; rfl
     have HFB := Lib.hid hfb
     have hlj := HLN.out (0 + 1)
     rw [HFL.out, List.flatMap_append, List.flatMap_cons, hfb, List.flatMap_nil, List.append_nil, List.length_append] at hlj
     rw [hc] at hrh
     have HRH := Lib.hid hrh; have HC := Lib.hid hc
     have hm2 := HM.out
     clear hc hfb hrh
     go_wp2_with fail
     refine (rfields_calls e.kind _).mono ?_
     rintro en w5 ⟨rfl, rfl⟩
     go_wp2_with fail
     refine (HRH.out _).mono ?_
     rintro en w5 ⟨rfl, rfl⟩
     have hfe : e.fieldB 73 = rowB e.id := rfl
     rw [hfe] at hlj
     go_wp2_with fail
     refine (rrow_calls e.id HSM.out.id _).mono ?_
     rintro en w5 ⟨vb, rfl, hOb, hb5⟩
     clear f0 f1 f2 f3 f4 f5 f6 f7 f8 f9 f10 g0
     obtain ⟨Ab, cb, rfl, hRb, -, -⟩ := hOb.read
     have HO5 := Lib.hid (HO.out.below hb5); have HK5 := Lib.hid (HK.out.below hb5); have HL5 := Lib.hid (HL.out.below hb5); have HB5 := Lib.hid (bl_step hb5 HB.out); have HRb := Lib.hid hRb
     clear HO HK HL HB hOb hb5 hRb
     go_wp2_with (at_builtin; refine append_any (w0 := w) rfl _ _ 51 5 _ 1 1 rfl Tryz.underlying51 info_u8 rfl (by decide) _ m _ Ab _ cb _ HO5.out HB5.out HRb.out rfl rfl (by rw [byts_length, Nat.mul_one]) (byts_one _) (by omega) (by omega) ?_; intro v1 w6 HO6 HB6 HG6)
     go_roundw
     case rel => exact ⟨0 + 1, m + (rowB e.id).length, by omega, by go_num, by rw [HFL.out, List.flatMap_append, List.flatMap_cons, HFB.out, List.length_append, HM.out]; simp [Nat.add_assoc, hfe], by rw [HFL.out, List.flatMap_append, List.flatMap_cons, HFB.out, ← List.cons_append]; simpa [byts, hfe] using HO6, HK5.out.grown HG6 (HO5.out.ne_blk HK5.out (by decide)), HL5.out.grown HG6 (Own.ne_m HO5.out HL5.out), HB6⟩
     case measure => simp [intOf]
   ·have g0 : wr.cell? ⟨q, 1, none⟩ = some (.int .u8 78) := HL.out.cell 1
    have HFL : Hid (ordB.take (1 + 1) = ordB.take 1 ++ [78]) := by show _ = _; rfl
    have hrh := fun W => rhasS_calls e.kind 78 W
    obtain ⟨f0, f1, f2, f3, f4, f5, f6, f7, f8, f9, f10⟩ := HK.out.eleven
    cases hc : (fieldsL e.kind).contains 78 with
    | false =>
     have hfb : e.optB 78 = [] := by unfold Ev.optB; rw [hc]; rfl
     have HFB := Lib.hid hfb
     rw [hc] at hrh
     have HRH := Lib.hid hrh
     clear hc hfb hrh
     go_wp2_with fail
     refine (rfields_calls e.kind _).mono ?_
     rintro en w5 ⟨rfl, rfl⟩
     go_wp2_with fail
     refine (HRH.out _).mono ?_
     rintro en w5 ⟨rfl, rfl⟩
     go_wp2_with fail
     go_roundw
     case rel => exact ⟨1 + 1, m, by omega, by go_num, by rw [HFL.out, List.flatMap_append, List.flatMap_cons, HFB.out, HM.out]; simp, by rw [HFL.out, List.flatMap_append, List.flatMap_cons, HFB.out]; simpa using HO.out, HK.out, HL.out, HB.out⟩
     case measure => simp [intOf]
    | true =>
     have hfb : e.optB 78 = e.fieldB 78 := by unfold Ev.optB; rw [hc]; rfl
     have HFB := Lib.hid hfb
     have hlj := HLN.out (1 + 1)
     rw [HFL.out, List.flatMap_append, List.flatMap_cons, hfb, List.flatMap_nil, List.append_nil, List.length_append] at hlj
     rw [hc] at hrh
     have HRH := Lib.hid hrh; have HC := Lib.hid hc
     have hm2 := HM.out
     clear hc hfb hrh
     go_wp2_with fail
     refine (rfields_calls e.kind _).mono ?_
     rintro en w5 ⟨rfl, rfl⟩
     go_wp2_with fail
     refine (HRH.out _).mono ?_
     rintro en w5 ⟨rfl, rfl⟩
     have hfe : e.fieldB 78 = rowB e.name := rfl
     rw [hfe] at hlj
     go_wp2_with fail
     refine (rrow_calls e.name HSM.out.name _).mono ?_
     rintro en w5 ⟨vb, rfl, hOb, hb5⟩
     clear f0 f1 f2 f3 f4 f5 f6 f7 f8 f9 f10 g0
     obtain ⟨Ab, cb, rfl, hRb, -, -⟩ := hOb.read
     have HO5 := Lib.hid (HO.out.below hb5); have HK5 := Lib.hid (HK.out.below hb5); have HL5 := Lib.hid (HL.out.below hb5); have HB5 := Lib.hid (bl_step hb5 HB.out); have HRb := Lib.hid hRb
     clear HO HK HL HB hOb hb5 hRb
     go_wp2_with (at_builtin; refine append_any (w0 := w) rfl _ _ 51 5 _ 1 1 rfl Tryz.underlying51 info_u8 rfl (by decide) _ m _ Ab _ cb _ HO5.out HB5.out HRb.out rfl rfl (by rw [byts_length, Nat.mul_one]) (byts_one _) (by omega) (by omega) ?_; intro v1 w6 HO6 HB6 HG6)
     go_roundw
     case rel => exact ⟨1 + 1, m + (rowB e.name).length, by omega, by go_num, by rw [HFL.out, List.flatMap_append, List.flatMap_cons, HFB.out, List.length_append, HM.out]; simp [Nat.add_assoc, hfe], by rw [HFL.out, List.flatMap_append, List.flatMap_cons, HFB.out, ← List.cons_append]; simpa [byts, hfe] using HO6, HK5.out.grown HG6 (HO5.out.ne_blk HK5.out (by decide)), HL5.out.grown HG6 (Own.ne_m HO5.out HL5.out), HB6⟩
     case measure => simp [intOf]
   ·have g0 : wr.cell? ⟨q, 2, none⟩ = some (.int .u8 76) := HL.out.cell 2
    have HFL : Hid (ordB.take (2 + 1) = ordB.take 2 ++ [76]) := by show _ = _; rfl
    have hrh := fun W => rhasS_calls e.kind 76 W
    obtain ⟨f0, f1, f2, f3, f4, f5, f6, f7, f8, f9, f10⟩ := HK.out.eleven
    cases hc : (fieldsL e.kind).contains 76 with
    | false =>
     have hfb : e.optB 76 = [] := by unfold Ev.optB; rw [hc]; rfl
     have HFB := Lib.hid hfb
     rw [hc] at hrh
     have HRH := Lib.hid hrh
     clear hc hfb hrh
     go_wp2_with fail
     refine (rfields_calls e.kind _).mono ?_
     rintro en w5 ⟨rfl, rfl⟩
     go_wp2_with fail
     refine (HRH.out _).mono ?_
     rintro en w5 ⟨rfl, rfl⟩
     go_wp2_with fail
     go_roundw
     case rel => exact ⟨2 + 1, m, by omega, by go_num, by rw [HFL.out, List.flatMap_append, List.flatMap_cons, HFB.out, HM.out]; simp, by rw [HFL.out, List.flatMap_append, List.flatMap_cons, HFB.out]; simpa using HO.out, HK.out, HL.out, HB.out⟩
     case measure => simp [intOf]
    | true =>
     have hfb : e.optB 76 = e.fieldB 76 := by unfold Ev.optB; rw [hc]; rfl
     have HFB := Lib.hid hfb
     have hlj := HLN.out (2 + 1)
     rw [HFL.out, List.flatMap_append, List.flatMap_cons, hfb, List.flatMap_nil, List.append_nil, List.length_append] at hlj
     rw [hc] at hrh
     have HRH := Lib.hid hrh; have HC := Lib.hid hc
     have hm2 := HM.out
     clear hc hfb hrh
     go_wp2_with fail
     refine (rfields_calls e.kind _).mono ?_
     rintro en w5 ⟨rfl, rfl⟩
     go_wp2_with fail
     refine (HRH.out _).mono ?_
     rintro en w5 ⟨rfl, rfl⟩
     have hfe : e.fieldB 76 = rowB e.label := rfl
     rw [hfe] at hlj
     go_wp2_with fail
     refine (rrow_calls e.label HSM.out.label _).mono ?_
     rintro en w5 ⟨vb, rfl, hOb, hb5⟩
     clear f0 f1 f2 f3 f4 f5 f6 f7 f8 f9 f10 g0
     obtain ⟨Ab, cb, rfl, hRb, -, -⟩ := hOb.read
     have HO5 := Lib.hid (HO.out.below hb5); have HK5 := Lib.hid (HK.out.below hb5); have HL5 := Lib.hid (HL.out.below hb5); have HB5 := Lib.hid (bl_step hb5 HB.out); have HRb := Lib.hid hRb
     clear HO HK HL HB hOb hb5 hRb
     go_wp2_with (at_builtin; refine append_any (w0 := w) rfl _ _ 51 5 _ 1 1 rfl Tryz.underlying51 info_u8 rfl (by decide) _ m _ Ab _ cb _ HO5.out HB5.out HRb.out rfl rfl (by rw [byts_length, Nat.mul_one]) (byts_one _) (by omega) (by omega) ?_; intro v1 w6 HO6 HB6 HG6)
     go_roundw
     case rel => exact ⟨2 + 1, m + (rowB e.label).length, by omega, by go_num, by rw [HFL.out, List.flatMap_append, List.flatMap_cons, HFB.out, List.length_append, HM.out]; simp [Nat.add_assoc, hfe], by rw [HFL.out, List.flatMap_append, List.flatMap_cons, HFB.out, ← List.cons_append]; simpa [byts, hfe] using HO6, HK5.out.grown HG6 (HO5.out.ne_blk HK5.out (by decide)), HL5.out.grown HG6 (Own.ne_m HO5.out HL5.out), HB6⟩
     case measure => simp [intOf]
   ·have g0 : wr.cell? ⟨q, 3, none⟩ = some (.int .u8 67) := HL.out.cell 3
    have HFL : Hid (ordB.take (3 + 1) = ordB.take 3 ++ [67]) := by show _ = _; rfl
    have hrh := fun W => rhasS_calls e.kind 67 W
    obtain ⟨f0, f1, f2, f3, f4, f5, f6, f7, f8, f9, f10⟩ := HK.out.eleven
    cases hc : (fieldsL e.kind).contains 67 with
    | false =>
     have hfb : e.optB 67 = [] := by unfold Ev.optB; rw [hc]; rfl
     have HFB := Lib.hid hfb
     rw [hc] at hrh
     have HRH := Lib.hid hrh
     clear hc hfb hrh
     go_wp2_with fail
     refine (rfields_calls e.kind _).mono ?_
     rintro en w5 ⟨rfl, rfl⟩
     go_wp2_with fail
     refine (HRH.out _).mono ?_
     rintro en w5 ⟨rfl, rfl⟩
     go_wp2_with fail
     go_roundw
     case rel => exact ⟨3 + 1, m, by omega, by go_num, by rw [HFL.out, List.flatMap_append, List.flatMap_cons, HFB.out, HM.out]; simp, by rw [HFL.out, List.flatMap_append, List.flatMap_cons, HFB.out]; simpa using HO.out, HK.out, HL.out, HB.out⟩
     case measure => simp [intOf]
    | true =>
     have hfb : e.optB 67 = e.fieldB 67 := by unfold Ev.optB; rw [hc]; rfl
     have HFB := Lib.hid hfb
     have hlj := HLN.out (3 + 1)
     rw [HFL.out, List.flatMap_append, List.flatMap_cons, hfb, List.flatMap_nil, List.append_nil, List.length_append] at hlj
     rw [hc] at hrh
     have HRH := Lib.hid hrh; have HC := Lib.hid hc
     have hm2 := HM.out
     clear hc hfb hrh
     go_wp2_with fail
     refine (rfields_calls e.kind _).mono ?_
     rintro en w5 ⟨rfl, rfl⟩
     go_wp2_with fail
     refine (HRH.out _).mono ?_
     rintro en w5 ⟨rfl, rfl⟩
     have hfe : e.fieldB 67 = rowB e.cur := rfl
     rw [hfe] at hlj
     go_wp2_with fail
     refine (rrow_calls e.cur HSM.out.cur _).mono ?_
     rintro en w5 ⟨vb, rfl, hOb, hb5⟩
     clear f0 f1 f2 f3 f4 f5 f6 f7 f8 f9 f10 g0
     obtain ⟨Ab, cb, rfl, hRb, -, -⟩ := hOb.read
     have HO5 := Lib.hid (HO.out.below hb5); have HK5 := Lib.hid (HK.out.below hb5); have HL5 := Lib.hid (HL.out.below hb5); have HB5 := Lib.hid (bl_step hb5 HB.out); have HRb := Lib.hid hRb
     clear HO HK HL HB hOb hb5 hRb
     go_wp2_with (at_builtin; refine append_any (w0 := w) rfl _ _ 51 5 _ 1 1 rfl Tryz.underlying51 info_u8 rfl (by decide) _ m _ Ab _ cb _ HO5.out HB5.out HRb.out rfl rfl (by rw [byts_length, Nat.mul_one]) (byts_one _) (by omega) (by omega) ?_; intro v1 w6 HO6 HB6 HG6)
     go_roundw
     case rel => exact ⟨3 + 1, m + (rowB e.cur).length, by omega, by go_num, by rw [HFL.out, List.flatMap_append, List.flatMap_cons, HFB.out, List.length_append, HM.out]; simp [Nat.add_assoc, hfe], by rw [HFL.out, List.flatMap_append, List.flatMap_cons, HFB.out, ← List.cons_append]; simpa [byts, hfe] using HO6, HK5.out.grown HG6 (HO5.out.ne_blk HK5.out (by decide)), HL5.out.grown HG6 (Own.ne_m HO5.out HL5.out), HB6⟩
     case measure => simp [intOf]
   ·have g0 : wr.cell? ⟨q, 4, none⟩ = some (.int .u8 68) := HL.out.cell 4
    have HFL : Hid (ordB.take (4 + 1) = ordB.take 4 ++ [68]) := by show _ = _; rfl
    have hrh := fun W => rhasS_calls e.kind 68 W
    obtain ⟨f0, f1, f2, f3, f4, f5, f6, f7, f8, f9, f10⟩ := HK.out.eleven
    cases hc : (fieldsL e.kind).contains 68 with
    | false =>
     have hfb : e.optB 68 = [] := by unfold Ev.optB; rw [hc]; rfl
     have HFB := Lib.hid hfb
     rw [hc] at hrh
     have HRH := Lib.hid hrh
     clear hc hfb hrh
     go_wp2_with fail
     refine (rfields_calls e.kind _).mono ?_
     rintro en w5 ⟨rfl, rfl⟩
     go_wp2_with fail
     refine (HRH.out _).mono ?_
     rintro en w5 ⟨rfl, rfl⟩
     go_wp2_with fail
     go_roundw
     case rel => exact ⟨4 + 1, m, by omega, by go_num, by rw [HFL.out, List.flatMap_append, List.flatMap_cons, HFB.out, HM.out]; simp, by rw [HFL.out, List.flatMap_append, List.flatMap_cons, HFB.out]; simpa using HO.out, HK.out, HL.out, HB.out⟩
     case measure => simp [intOf]
    | true =>
     have hfb : e.optB 68 = e.fieldB 68 := by unfold Ev.optB; rw [hc]; rfl
     have HFB := Lib.hid hfb
     have hlj := HLN.out (4 + 1)
     rw [HFL.out, List.flatMap_append, List.flatMap_cons, hfb, List.flatMap_nil, List.append_nil, List.length_append] at hlj
     rw [hc] at hrh
     have HRH := Lib.hid hrh; have HC := Lib.hid hc
     have hm2 := HM.out
     clear hc hfb hrh
     go_wp2_with fail
     refine (rfields_calls e.kind _).mono ?_
     rintro en w5 ⟨rfl, rfl⟩
     go_wp2_with fail
     refine (HRH.out _).mono ?_
     rintro en w5 ⟨rfl, rfl⟩
     have hfe : e.fieldB 68 = beI e.day := rfl
     rw [hfe] at hlj
     go_wp2_with fail
     refine (rnumB_calls e.day HSM.out.ok.day _).mono ?_
     rintro en w5 ⟨vb, rfl, hOb, hb5⟩
     clear f0 f1 f2 f3 f4 f5 f6 f7 f8 f9 f10 g0
     obtain ⟨Ab, cb, rfl, hRb, -, -⟩ := hOb.read
     have HO5 := Lib.hid (HO.out.below hb5); have HK5 := Lib.hid (HK.out.below hb5); have HL5 := Lib.hid (HL.out.below hb5); have HB5 := Lib.hid (bl_step hb5 HB.out); have HRb := Lib.hid hRb
     clear HO HK HL HB hOb hb5 hRb
     go_wp2_with (at_builtin; refine append_any (w0 := w) rfl _ _ 51 5 _ 1 1 rfl Tryz.underlying51 info_u8 rfl (by decide) _ m _ Ab _ cb _ HO5.out HB5.out HRb.out rfl rfl (by rw [byts_length, Nat.mul_one]) (byts_one _) (by omega) (by omega) ?_; intro v1 w6 HO6 HB6 HG6)
     go_roundw
     case rel => exact ⟨4 + 1, m + (beI e.day).length, by omega, by go_num, by rw [HFL.out, List.flatMap_append, List.flatMap_cons, HFB.out, List.length_append, HM.out]; simp [Nat.add_assoc, hfe], by rw [HFL.out, List.flatMap_append, List.flatMap_cons, HFB.out, ← List.cons_append]; simpa [byts, hfe] using HO6, HK5.out.grown HG6 (HO5.out.ne_blk HK5.out (by decide)), HL5.out.grown HG6 (Own.ne_m HO5.out HL5.out), HB6⟩
     case measure => simp [intOf]
   ·have g0 : wr.cell? ⟨q, 5, none⟩ = some (.int .u8 86) := HL.out.cell 5
    have HFL : Hid (ordB.take (5 + 1) = ordB.take 5 ++ [86]) := by show _ = _; rfl
    have hrh := fun W => rhasS_calls e.kind 86 W
    obtain ⟨f0, f1, f2, f3, f4, f5, f6, f7, f8, f9, f10⟩ := HK.out.eleven
    cases hc : (fieldsL e.kind).contains 86 with
    | false =>
     have hfb : e.optB 86 = [] := by unfold Ev.optB; rw [hc]; rfl
     have HFB := Lib.hid hfb
     rw [hc] at hrh
     have HRH := Lib.hid hrh
     clear hc hfb hrh
     go_wp2_with fail
     refine (rfields_calls e.kind _).mono ?_
     rintro en w5 ⟨rfl, rfl⟩
     go_wp2_with fail
     refine (HRH.out _).mono ?_
     rintro en w5 ⟨rfl, rfl⟩
     go_wp2_with fail
     go_roundw
     case rel => exact ⟨5 + 1, m, by omega, by go_num, by rw [HFL.out, List.flatMap_append, List.flatMap_cons, HFB.out, HM.out]; simp, by rw [HFL.out, List.flatMap_append, List.flatMap_cons, HFB.out]; simpa using HO.out, HK.out, HL.out, HB.out⟩
     case measure => simp [intOf]
    | true =>
     have hfb : e.optB 86 = e.fieldB 86 := by unfold Ev.optB; rw [hc]; rfl
     have HFB := Lib.hid hfb
     have hlj := HLN.out (5 + 1)
     rw [HFL.out, List.flatMap_append, List.flatMap_cons, hfb, List.flatMap_nil, List.append_nil, List.length_append] at hlj
     rw [hc] at hrh
     have HRH := Lib.hid hrh; have HC := Lib.hid hc
     have hm2 := HM.out
     clear hc hfb hrh
     go_wp2_with fail
     refine (rfields_calls e.kind _).mono ?_
     rintro en w5 ⟨rfl, rfl⟩
     go_wp2_with fail
     refine (HRH.out _).mono ?_
     rintro en w5 ⟨rfl, rfl⟩
     have hfe : e.fieldB 86 = beI e.value := rfl
     rw [hfe] at hlj
     go_wp2_with fail
     refine (rnumB_calls e.value HSM.out.ok.value _).mono ?_
     rintro en w5 ⟨vb, rfl, hOb, hb5⟩
     clear f0 f1 f2 f3 f4 f5 f6 f7 f8 f9 f10 g0
     obtain ⟨Ab, cb, rfl, hRb, -, -⟩ := hOb.read
     have HO5 := Lib.hid (HO.out.below hb5); have HK5 := Lib.hid (HK.out.below hb5); have HL5 := Lib.hid (HL.out.below hb5); have HB5 := Lib.hid (bl_step hb5 HB.out); have HRb := Lib.hid hRb
     clear HO HK HL HB hOb hb5 hRb
     go_wp2_with (at_builtin; refine append_any (w0 := w) rfl _ _ 51 5 _ 1 1 rfl Tryz.underlying51 info_u8 rfl (by decide) _ m _ Ab _ cb _ HO5.out HB5.out HRb.out rfl rfl (by rw [byts_length, Nat.mul_one]) (byts_one _) (by omega) (by omega) ?_; intro v1 w6 HO6 HB6 HG6)
     go_roundw
     case rel => exact ⟨5 + 1, m + (beI e.value).length, by omega, by go_num, by rw [HFL.out, List.flatMap_append, List.flatMap_cons, HFB.out, List.length_append, HM.out]; simp [Nat.add_assoc, hfe], by rw [HFL.out, List.flatMap_append, List.flatMap_cons, HFB.out, ← List.cons_append]; simpa [byts, hfe] using HO6, HK5.out.grown HG6 (HO5.out.ne_blk HK5.out (by decide)), HL5.out.grown HG6 (Own.ne_m HO5.out HL5.out), HB6⟩
     case measure => simp [intOf]
   ·have g0 : wr.cell? ⟨q, 6, none⟩ = some (.int .u8 84) := HL.out.cell 6
    have HFL : Hid (ordB.take (6 + 1) = ordB.take 6 ++ [84]) := by show _ = _; rfl
    have hrh := fun W => rhasS_calls e.kind 84 W
    obtain ⟨f0, f1, f2, f3, f4, f5, f6, f7, f8, f9, f10⟩ := HK.out.eleven
    cases hc : (fieldsL e.kind).contains 84 with
    | false =>
     have hfb : e.optB 84 = [] := by unfold Ev.optB; rw [hc]; rfl
     have HFB := Lib.hid hfb
     rw [hc] at hrh
     have HRH := Lib.hid hrh
     clear hc hfb hrh
     go_wp2_with fail
     refine (rfields_calls e.kind _).mono ?_
     rintro en w5 ⟨rfl, rfl⟩
     go_wp2_with fail
     refine (HRH.out _).mono ?_
     rintro en w5 ⟨rfl, rfl⟩
     go_wp2_with fail
     go_roundw
     case rel => exact ⟨6 + 1, m, by omega, by go_num, by rw [HFL.out, List.flatMap_append, List.flatMap_cons, HFB.out, HM.out]; simp, by rw [HFL.out, List.flatMap_append, List.flatMap_cons, HFB.out]; simpa using HO.out, HK.out, HL.out, HB.out⟩
     case measure => simp [intOf]
    | true =>
     have hfb : e.optB 84 = e.fieldB 84 := by unfold Ev.optB; rw [hc]; rfl
     have HFB := Lib.hid hfb
     have hlj := HLN.out (6 + 1)
     rw [HFL.out, List.flatMap_append, List.flatMap_cons, hfb, List.flatMap_nil, List.append_nil, List.length_append] at hlj
     rw [hc] at hrh
     have HRH := Lib.hid hrh; have HC := Lib.hid hc
     have hm2 := HM.out
     clear hc hfb hrh
     go_wp2_with fail
     refine (rfields_calls e.kind _).mono ?_
     rintro en w5 ⟨rfl, rfl⟩
     go_wp2_with fail
     refine (HRH.out _).mono ?_
     rintro en w5 ⟨rfl, rfl⟩
     have hfe : e.fieldB 84 = rowW e.term.write.1 := rfl
     rw [hfe] at hlj
     have hk2 := fields_T e.kind (List.elem_iff.1 HC.out)
     have hz2 := HOE.out hk2
     have hwr := HWR.out wr (HT.out.below HB.out)
     rw [hz2] at hwr
     have HWR2 := Lib.hid hwr
     clear hwr hk2 hz2 HWR HOE
     generalize e.term.write.1 = st at *
     have hrl : (rowW st).length = st.size + 2 := by unfold rowW; rw [List.length_cons, List.length_cons, ba_len]
     rw [hrl] at hlj
     go_wp2_with fail
     refine (HWR2.out).mono ?_
     rintro en w5 ⟨rfl, hb5⟩
     clear f0 f1 f2 f3 f4 f5 f6 f7 f8 f9 f10 g0
     have HO5 := Lib.hid (HO.out.below hb5); have HK5 := Lib.hid (HK.out.below hb5); have HL5 := Lib.hid (HL.out.below hb5); have HB5 := Lib.hid (bl_step hb5 HB.out)
     clear HO HK HL HB hb5
     have hb8 := bl_alloc (bl_refl w5) (.cells #[.int .u8 ((st.size : Int) / 256), .int .u8 ((st.size : Int) % 256)] 5)
     have HO8 := Lib.hid (HO5.out.below hb8); have HK8 := Lib.hid (HK5.out.below hb8); have HL8 := Lib.hid (HL5.out.below hb8); have HB8 := Lib.hid (bl_step hb8 HB5.out)
     have HR8 := Lib.hid (Blk.new w5 #[.int .u8 ((st.size : Int) / 256), .int .u8 ((st.size : Int) % 256)] 5).rd
     have hsw : IntKind.u8.wrap (st.size : Int) = (st.size : Int) % 256 := IntKind.wrap_u8 _
     have hsh := fun W => run_shr Tryz.prog .i64 .u64 (st.size : Int) 8 (by omega) W
     have hse : (st.size : Int) / 2 ^ 8 = ((st.size / 256 : Nat) : Int) := by omega
     have hee : (st.size : Int) / 256 % 256 = (st.size : Int) / 256 := by omega
     clear hb8 HO5 HK5 HL5 HB5
     go_wp2_with (at_builtin; first | (refine append_text rfl _ _ 51 9 5 rfl Tryz.underlying51 Tryz.underlying9 info_u8 _ (m + 2) _ st HO6 HB6 rfl rfl (by omega) ?_; intro v2 w7 HO7 HB7 HG7) | (refine append_any (w0 := w) rfl _ _ 51 5 _ 1 1 rfl Tryz.underlying51 info_u8 rfl (by decide) _ m _ _ 2 2 _ HO8.out HB8.out HR8.out rfl rfl rfl (by simp [Value.oneCell']) (by omega) (by omega) ?_; intro v1 w6 HO6 HB6 HG6))
     have hK6 := HK8.out.grown HG6 (HO8.out.ne_blk HK8.out (by decide))
     have hL6 := HL8.out.grown HG6 (Own.ne_m HO8.out HL8.out)
     go_roundw
     case rel => exact ⟨6 + 1, m + 2 + st.size, by omega, by go_num, by rw [HFL.out, List.flatMap_append, List.flatMap_cons, HFB.out, List.length_append, HM.out, hfe]; simp [hrl]; omega, by rw [HFL.out, List.flatMap_append, List.flatMap_cons, HFB.out, ← List.cons_append, hfe]; unfold rowW; simpa [byts, u8_nat, hee] using HO7, hK6.grown HG7 (HO6.ne_blk hK6 (by decide)), hL6.grown HG7 (Own.ne_m HO6 hL6), HB7⟩
     case measure => simp [intOf]
   ·have HO7 := Lib.hid (show Own w wr 5 1 _ m (byts (c :: ordB.flatMap e.optB)) from HO.out)
    have hm7 := HM.out
    rw [show ordB.take 7 = ordB from rfl] at hm7
    clear HO
    go_wp2_with fail
    go_ret2
    exact RetPk.of (by first | rfl | rw [HC0.out]) (by rw [List.length_cons]; omega) HO7.out HB.out
 ·have HP : Hid (e.pack = []) := by show _ = _; unfold Ev.pack; rw [if_neg hz]
  have hzb : (e.check != 0) = true := by simp [hz]
  rw [HP.out]
  generalize e.check = er at *
  clear hz HP hpk
  go_enter Tryz.func85, Tryz.ntmps85
  go_upto_region 1 with fail
  rw [HW1.out]
  go_wp2_with fail
  refine (HCK.out _ (HT.out.below HB1.out)).mono ?_
  rintro en w2 ⟨rfl, hb2⟩
  go_wp2_with fail
  go_ret2
  exact RetPk.of rfl rfl (Own.nil _ _ _ _) (bl_step hb2 HB1.out)
end Go.Proofs.YtapbkomicihkkaaGreatDoor
