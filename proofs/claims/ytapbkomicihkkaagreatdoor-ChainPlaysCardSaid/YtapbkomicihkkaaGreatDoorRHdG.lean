/- The document's heads of a chain; two logs compared. -/
import Derived.Test.YtapbkomicihkkaaGreatDoorChnA
import Derived.Test.YtapbkomicihkkaaGreatDoorPlainG
import Derived.Test.YtapbkomicihkkaaGreatDoorRPkG
import Derived.Test.YtapbkomicihkkaaGreatDoorRefSipG
import Derived.Test.YtapbkomicihkkaaGreatDoorSpG
import Derived.Test.YtapbkomicihkkaaGreatDoorREvG
import Derived.Test.YtapbkomicihkkaaGreatDoorLawAG
namespace Go.Proofs.YtapbkomicihkkaaGreatDoor
open Go.RowKit
set_option linter.unusedVariables false
set_option linter.unusedSimpArgs false

/-- The document's entries: rows of twelve cells, the contracts' trees in blocks from x on. -/
def REs (x : Nat) (W : World) : List En → List Value → Prop
 | [], xs => xs = []
 | e :: l, xs => ∃ p0 p1 p2 p3 rest, xs = .int .i64 e.ev.kind :: .string e.ev.id :: .string e.ev.name :: .string e.ev.label :: .string e.ev.cur :: .int .i64 e.ev.day :: .int .i64 e.ev.value :: p0 :: p1 :: p2 :: p3 :: .bool e.no :: rest ∧ TrAt x W e.ev.term.tr (.agg #[p0, p1, p2, p3]) ∧ REs x W l rest
theorem REs.keep {x : Nat} {W W' : World} (h : ∀ t v, TrAt x W t v → TrAt x W' t v) : ∀ {l : List En} {xs : List Value}, REs x W l xs → REs x W' l xs
 | [], xs, hr => hr
 | e :: l, xs, hr => by
  obtain ⟨p0, p1, p2, p3, rest, e1, ht, hl⟩ := hr
  exact ⟨p0, p1, p2, p3, rest, e1, h _ _ ht, REs.keep h hl⟩
theorem REs.below {x : Nat} {W W' : World} {l : List En} {xs : List Value} (h : REs x W l xs) (hb : Below W.heap.size W W') : REs x W' l xs := h.keep (fun _ _ ht => ht.below hb)
theorem REs.length {x : Nat} {W : World} : ∀ {l : List En} {xs : List Value}, REs x W l xs → xs.length = l.length * 12
 | [], xs, h => by obtain rfl : xs = [] := h; rfl
 | e :: l, xs, h => by
  obtain ⟨p0, p1, p2, p3, rest, rfl, _, hl⟩ := h
  have := REs.length hl
  simp only [List.length_cons, this]
  omega
/-- One more. -/
theorem REs.snoc {x : Nat} {W : World} : ∀ {l : List En} {xs : List Value} {e : En} {p0 p1 p2 p3 : Value}, REs x W l xs → TrAt x W e.ev.term.tr (.agg #[p0, p1, p2, p3]) →
  REs x W (l ++ [e]) (xs ++ [.int .i64 e.ev.kind, .string e.ev.id, .string e.ev.name, .string e.ev.label, .string e.ev.cur, .int .i64 e.ev.day, .int .i64 e.ev.value, p0, p1, p2, p3, .bool e.no])
 | [], xs, e, p0, p1, p2, p3, h, ht => by obtain rfl : xs = [] := h; exact ⟨p0, p1, p2, p3, [], rfl, ht, rfl⟩
 | d :: l, xs, e, p0, p1, p2, p3, h, ht => by
  obtain ⟨q0, q1, q2, q3, rest, rfl, hd, hl⟩ := h
  exact ⟨q0, q1, q2, q3, _, rfl, hd, hl.snoc ht⟩
/-- The one at i. -/
theorem REs.get {x : Nat} {W : World} : ∀ {l : List En} {xs : List Value}, REs x W l xs → ∀ (i : Nat) (h : i < l.length), ∃ p0 p1 p2 p3, (xs.drop (i * 12)).take 12 = [.int .i64 l[i].ev.kind, .string l[i].ev.id, .string l[i].ev.name, .string l[i].ev.label, .string l[i].ev.cur, .int .i64 l[i].ev.day, .int .i64 l[i].ev.value, p0, p1, p2, p3, .bool l[i].no] ∧ TrAt x W l[i].ev.term.tr (.agg #[p0, p1, p2, p3])
 | e :: l, xs, hr, 0, _ => by
  obtain ⟨p0, p1, p2, p3, rest, rfl, ht, hl⟩ := hr
  exact ⟨p0, p1, p2, p3, rfl, ht⟩
 | e :: l, xs, hr, i + 1, h => by
  obtain ⟨p0, p1, p2, p3, rest, rfl, ht, hl⟩ := hr
  obtain ⟨q0, q1, q2, q3, e1, h2⟩ := REs.get hl i (by simpa using h)
  refine ⟨q0, q1, q2, q3, ?_, h2⟩
  rw [Nat.succ_mul]
  exact e1
/-- The heads of a chain: behind each number of entries. -/
def headsR (key : List UInt8) (l : List En) : List Int := l.foldl (fun hs x => hs ++ [x.next key (hs.getD (hs.length - 1) 0)]) [0]
theorem headsR_snoc (key : List UInt8) (l : List En) (x : En) : headsR key (l ++ [x]) = headsR key l ++ [x.next key ((headsR key l).getD ((headsR key l).length - 1) 0)] := by unfold headsR; rw [List.foldl_append]; rfl
theorem headsR_length (key : List UInt8) (l : List En) : (headsR key l).length = l.length + 1 := by
 have h : ∀ (l : List En) (hs : List Int), (l.foldl (fun hs x => hs ++ [En.next key (hs.getD (hs.length - 1) 0) x]) hs).length = hs.length + l.length := by
  intro l
  induction l with
  | nil => intro hs; rfl
  | cons x l ih => intro hs; rw [List.foldl_cons, ih, List.length_append, List.length_cons, List.length_cons, List.length_nil]; omega
 unfold headsR
 rw [h l [0]]
 simp [Nat.add_comm]
theorem headsR_isU (key : List UInt8) (l : List En) : ∀ h ∈ headsR key l, isU h := by
 have h : ∀ (l : List En) (hs : List Int), (∀ h ∈ hs, isU h) → ∀ h ∈ l.foldl (fun hs x => hs ++ [En.next key (hs.getD (hs.length - 1) 0) x]) hs, isU h := by
  intro l
  induction l with
  | nil => intro hs h; exact h
  | cons x l ih =>
   intro hs h
   rw [List.foldl_cons]
   refine ih _ (fun y hy => ?_)
   rcases List.mem_append.1 hy with hy | hy
   ·exact h y hy
   ·obtain rfl : y = _ := by simpa using hy
    unfold En.next
    split
    ·exact isU_sipSum _ _
    ·unfold isU; omega
 refine h l [0] (fun y hy => ?_)
 obtain rfl : y = 0 := by simpa using hy
 unfold isU; omega
theorem headsR_take (key : List UInt8) (l : List En) (j : Nat) (h : j < l.length) : headsR key (l.take (j + 1)) = headsR key (l.take j) ++ [l[j].next key ((headsR key (l.take j)).getD j 0)] := by
 rw [List.take_succ_eq_append_getElem h, headsR_snoc, headsR_length, List.length_take, Nat.min_eq_left (by omega)]
 rfl
/-- An entry of the document's: twelve cells. -/
def REnAt (x : Nat) (w : World) (e : En) (v : Value) : Prop := ∃ p0 p1 p2 p3, v = .agg #[.int .i64 e.ev.kind, .string e.ev.id, .string e.ev.name, .string e.ev.label, .string e.ev.cur, .int .i64 e.ev.day, .int .i64 e.ev.value, p0, p1, p2, p3, .bool e.no] ∧ TrAt x w e.ev.term.tr (.agg #[p0, p1, p2, p3])
theorem Blk.twelve {w : World} {r : Nat} {a0 a1 a2 a3 a4 a5 a6 a7 a8 a9 a10 a11 : Value} {t : TypeId} (h : Blk w r #[a0, a1, a2, a3, a4, a5, a6, a7, a8, a9, a10, a11] t) : w.cell? ⟨r, 0, none⟩ = some a0 ∧ w.cell? ⟨r, 1, none⟩ = some a1 ∧ w.cell? ⟨r, 2, none⟩ = some a2 ∧ w.cell? ⟨r, 3, none⟩ = some a3 ∧ w.cell? ⟨r, 4, none⟩ = some a4 ∧ w.cell? ⟨r, 5, none⟩ = some a5 ∧ w.cell? ⟨r, 6, none⟩ = some a6 ∧ w.cell? ⟨r, 7, none⟩ = some a7 ∧ w.cell? ⟨r, 8, none⟩ = some a8 ∧ w.cell? ⟨r, 9, none⟩ = some a9 ∧ w.cell? ⟨r, 10, none⟩ = some a10 ∧ w.cell? ⟨r, 11, none⟩ = some a11 :=
 ⟨h.cell 0, h.cell 1, h.cell 2, h.cell 3, h.cell 4, h.cell 5, h.cell 6, h.cell 7, h.cell 8, h.cell 9, h.cell 10, h.cell 11⟩
set_option maxRecDepth 100000 in
set_option maxHeartbeats 4000000 in
theorem rentry_t (e : Ev) (h : e.fit) (x : Nat) (w : World) (v : Value) (hv : REnAt x w ⟨e, true⟩ v) : Calls Tryz.prog 55 #[v] w (RetPk w (En.mk e true).pack e.check) := by
 obtain ⟨c0, c1, c2, c3, rfl, hT⟩ := hv
 dsimp only at hT ⊢
 have hpe := fun W (hT : TrAt x W e.term.tr (.agg #[c0, c1, c2, c3])) => rpack_calls e h x W _ ⟨_, _, _, _, rfl, hT⟩
 have hpl := e.pack_length (fit_sm h)
 have hpk1 : e.check = 0 → (En.mk e true).pack = 1 :: e.pack := fun hz => by unfold En.pack Ev.pack; rw [if_pos hz, if_pos hz]; rfl
 have hpk2 : e.check ≠ 0 → (En.mk e true).pack = [] := fun hz => by unfold En.pack; rw [if_neg hz]
 have hpk3 : e.check ≠ 0 → e.pack = [] := fun hz => by unfold Ev.pack; rw [if_neg hz]
 generalize (En.mk e true).pack = res at *
 generalize e.pack = l at *
 obtain ⟨A9, c9, cs9, hag, -, -⟩ := hT.open_
 have hcc : c0 = .int .i64 e.term.tr.kind ∧ c1 = .string e.term.tr.s ∧ c2 = .int .i64 e.term.tr.n ∧ c3 = .slice A9 e.term.tr.ks.length c9 := by injection hag with hag; simp at hag; exact hag
 obtain ⟨rfl, rfl, rfl, rfl⟩ := hcc
 clear hag
 generalize e.term.tr.kind = tk at *
 generalize e.term.tr.s = ts at *
 generalize e.term.tr.n = tn at *
 generalize e.term.tr.ks.length = tl at *
 obtain ⟨W1, hW1⟩ : ∃ W1, w.alloc (.cells #[.int .i64 e.kind, .string e.id, .string e.name, .string e.label, .string e.cur, .int .i64 e.day, .int .i64 e.value, .int .i64 tk, .string ts, .int .i64 tn, .slice A9 tl c9, .bool true] 81) = W1 := ⟨_, rfl⟩
 have hk1 := Blk.new w #[.int .i64 e.kind, .string e.id, .string e.name, .string e.label, .string e.cur, .int .i64 e.day, .int .i64 e.value, .int .i64 tk, .string ts, .int .i64 tn, .slice A9 tl c9, .bool true] 81
 have hb1 := bl_alloc (bl_refl w) (.cells #[.int .i64 e.kind, .string e.id, .string e.name, .string e.label, .string e.cur, .int .i64 e.day, .int .i64 e.value, .int .i64 tk, .string ts, .int .i64 tn, .slice A9 tl c9, .bool true] 81)
 rw [hW1] at hk1 hb1
 have hpe2 := hpe W1 (hT.below hb1)
 unfold RetPk at hpe2
 have HW1 := Lib.hid hW1; have HPE := Lib.hid hpe2; have HK1 := Lib.hid hk1; have HB1 := Lib.hid hb1; have HPL := Lib.hid hpl
 clear hT hW1 hpe hpe2 hk1 hb1 h hpl
 obtain ⟨f0, f1, f2, f3, f4, f5, f6, f7, f8, f9, f10, f11⟩ := HK1.out.twelve
 have hbs := fun (y : Int) (W : World) => bs_u8 y W
 by_cases hz : e.check = 0
 ·have HP := Lib.hid (hpk1 hz)
  rw [hz] at HPE ⊢
  clear hz hpk1 hpk2 hpk3
  rw [HP.out]
  go_enter Tryz.func55, Tryz.ntmps55
  go_upto_region 1 with fail
  rw [HW1.out]
  go_wp2_with fail
  refine (HPE.out).mono ?_
  rintro en w2 ⟨vb, rfl, hOb, hb2⟩
  obtain ⟨Ab, cb, rfl, hRb, -, -⟩ := hOb.read
  have hk2 := HK1.out.below hb2
  have hB2 := bl_step hb2 HB1.out
  clear f0 f1 f2 f3 f4 f5 f6 f7 f8 f9 f10 f11
  have f11 : w2.cell? ⟨w.heap.size, 11, none⟩ = some (.bool true) := hk2.cell 11
  have HRb := Lib.hid hRb; have HB2 := Lib.hid hB2
  clear hRb hB2 hk2 hOb hb2
  go_upto_region 5 with fail
  have hO0 : Own w (w2.alloc (.cells #[.int .u8 1] 5)) 5 1 (.slice (some ⟨w2.heap.size, 0, none⟩) 1 1) 1 [.int .u8 1] := Own.of_blk (w0 := w) (Blk.new w2 #[.int .u8 1] 5) (xs := [.int .u8 1]) HB2.out.size rfl (by show 1 ≤ maxLen; decide)
  have HO0 := Lib.hid hO0
  clear hO0
  have hR3 := HRb.out.below (bl_alloc (bl_refl w2) (.cells #[.int .u8 1] 5))
  have HR3 := Lib.hid hR3
  clear hR3
  have hpl := HPL.out
  go_wp2_with (at_builtin; refine append_any (w0 := w) rfl _ _ 51 5 _ 1 1 rfl Tryz.underlying51 info_u8 rfl (by decide) _ 1 _ Ab _ cb _ HO0.out (bl_alloc HB2.out _) HR3.out rfl rfl (by rw [byts_length, Nat.mul_one]) (byts_one _) (by omega) (by omega) ?_; intro v1 w6 HO6 HB6 HG6)
  go_ret2
  exact RetPk.of rfl (by rw [List.length_cons]; omega) HO6 HB6
 ·have HP := Lib.hid (hpk2 hz)
  have hzb : (e.check != 0) = true := by simp [hz]
  obtain rfl := hpk3 hz
  rw [HP.out]
  generalize e.check = er at *
  clear hz HP hpk1 hpk2 hpk3
  go_enter Tryz.func55, Tryz.ntmps55
  go_upto_region 1 with fail
  rw [HW1.out]
  go_wp2_with fail
  refine (HPE.out).mono ?_
  rintro en w2 ⟨vb, rfl, hOb, hb2⟩
  go_wp2_with fail
  go_ret2
  exact RetPk.of rfl rfl (Own.nil _ _ _ _) (bl_step hb2 HB1.out)
set_option maxRecDepth 100000 in
set_option maxHeartbeats 4000000 in
theorem rentry_f (e : Ev) (h : e.fit) (x : Nat) (w : World) (v : Value) (hv : REnAt x w ⟨e, false⟩ v) : Calls Tryz.prog 55 #[v] w (RetPk w (En.mk e false).pack e.check) := by
 obtain ⟨c0, c1, c2, c3, rfl, hT⟩ := hv
 dsimp only at hT ⊢
 have hpe := fun W (hT : TrAt x W e.term.tr (.agg #[c0, c1, c2, c3])) => rpack_calls e h x W _ ⟨_, _, _, _, rfl, hT⟩
 have hpl := e.pack_length (fit_sm h)
 have hpk1 : e.check = 0 → (En.mk e false).pack = 0 :: e.pack := fun hz => by unfold En.pack Ev.pack; rw [if_pos hz, if_pos hz]; rfl
 have hpk2 : e.check ≠ 0 → (En.mk e false).pack = [] := fun hz => by unfold En.pack; rw [if_neg hz]
 have hpk3 : e.check ≠ 0 → e.pack = [] := fun hz => by unfold Ev.pack; rw [if_neg hz]
 generalize (En.mk e false).pack = res at *
 generalize e.pack = l at *
 obtain ⟨A9, c9, cs9, hag, -, -⟩ := hT.open_
 have hcc : c0 = .int .i64 e.term.tr.kind ∧ c1 = .string e.term.tr.s ∧ c2 = .int .i64 e.term.tr.n ∧ c3 = .slice A9 e.term.tr.ks.length c9 := by injection hag with hag; simp at hag; exact hag
 obtain ⟨rfl, rfl, rfl, rfl⟩ := hcc
 clear hag
 generalize e.term.tr.kind = tk at *
 generalize e.term.tr.s = ts at *
 generalize e.term.tr.n = tn at *
 generalize e.term.tr.ks.length = tl at *
 obtain ⟨W1, hW1⟩ : ∃ W1, w.alloc (.cells #[.int .i64 e.kind, .string e.id, .string e.name, .string e.label, .string e.cur, .int .i64 e.day, .int .i64 e.value, .int .i64 tk, .string ts, .int .i64 tn, .slice A9 tl c9, .bool false] 81) = W1 := ⟨_, rfl⟩
 have hk1 := Blk.new w #[.int .i64 e.kind, .string e.id, .string e.name, .string e.label, .string e.cur, .int .i64 e.day, .int .i64 e.value, .int .i64 tk, .string ts, .int .i64 tn, .slice A9 tl c9, .bool false] 81
 have hb1 := bl_alloc (bl_refl w) (.cells #[.int .i64 e.kind, .string e.id, .string e.name, .string e.label, .string e.cur, .int .i64 e.day, .int .i64 e.value, .int .i64 tk, .string ts, .int .i64 tn, .slice A9 tl c9, .bool false] 81)
 rw [hW1] at hk1 hb1
 have hpe2 := hpe W1 (hT.below hb1)
 unfold RetPk at hpe2
 have HW1 := Lib.hid hW1; have HPE := Lib.hid hpe2; have HK1 := Lib.hid hk1; have HB1 := Lib.hid hb1; have HPL := Lib.hid hpl
 clear hT hW1 hpe hpe2 hk1 hb1 h hpl
 obtain ⟨f0, f1, f2, f3, f4, f5, f6, f7, f8, f9, f10, f11⟩ := HK1.out.twelve
 have hbs := fun (y : Int) (W : World) => bs_u8 y W
 by_cases hz : e.check = 0
 ·have HP := Lib.hid (hpk1 hz)
  rw [hz] at HPE ⊢
  clear hz hpk1 hpk2 hpk3
  rw [HP.out]
  go_enter Tryz.func55, Tryz.ntmps55
  go_upto_region 1 with fail
  rw [HW1.out]
  go_wp2_with fail
  refine (HPE.out).mono ?_
  rintro en w2 ⟨vb, rfl, hOb, hb2⟩
  obtain ⟨Ab, cb, rfl, hRb, -, -⟩ := hOb.read
  have hk2 := HK1.out.below hb2
  have hB2 := bl_step hb2 HB1.out
  clear f0 f1 f2 f3 f4 f5 f6 f7 f8 f9 f10 f11
  have f11 : w2.cell? ⟨w.heap.size, 11, none⟩ = some (.bool false) := hk2.cell 11
  have HRb := Lib.hid hRb; have HB2 := Lib.hid hB2
  clear hRb hB2 hk2 hOb hb2
  go_upto_region 6 with fail
  have hO0 : Own w (w2.alloc (.cells #[.int .u8 0] 5)) 5 1 (.slice (some ⟨w2.heap.size, 0, none⟩) 1 1) 1 [.int .u8 0] := Own.of_blk (w0 := w) (Blk.new w2 #[.int .u8 0] 5) (xs := [.int .u8 0]) HB2.out.size rfl (by show 1 ≤ maxLen; decide)
  have HO0 := Lib.hid hO0
  clear hO0
  have hR3 := HRb.out.below (bl_alloc (bl_refl w2) (.cells #[.int .u8 0] 5))
  have HR3 := Lib.hid hR3
  clear hR3
  have hpl := HPL.out
  go_wp2_with (at_builtin; refine append_any (w0 := w) rfl _ _ 51 5 _ 1 1 rfl Tryz.underlying51 info_u8 rfl (by decide) _ 1 _ Ab _ cb _ HO0.out (bl_alloc HB2.out _) HR3.out rfl rfl (by rw [byts_length, Nat.mul_one]) (byts_one _) (by omega) (by omega) ?_; intro v1 w6 HO6 HB6 HG6)
  go_ret2
  exact RetPk.of rfl (by rw [List.length_cons]; omega) HO6 HB6
 ·have HP := Lib.hid (hpk2 hz)
  have hzb : (e.check != 0) = true := by simp [hz]
  obtain rfl := hpk3 hz
  rw [HP.out]
  generalize e.check = er at *
  clear hz HP hpk1 hpk2 hpk3
  go_enter Tryz.func55, Tryz.ntmps55
  go_upto_region 1 with fail
  rw [HW1.out]
  go_wp2_with fail
  refine (HPE.out).mono ?_
  rintro en w2 ⟨vb, rfl, hOb, hb2⟩
  go_wp2_with fail
  go_ret2
  exact RetPk.of rfl rfl (Own.nil _ _ _ _) (bl_step hb2 HB1.out)
theorem rentry_calls (y : En) (h : y.ev.fit) (x : Nat) (w : World) (v : Value) (hv : REnAt x w y v) : Calls Tryz.prog 55 #[v] w (RetPk w y.pack y.ev.check) := by
 obtain ⟨e, no⟩ := y
 cases no
 ·exact rentry_f e h x w v hv
 ·exact rentry_t e h x w v hv
/-- A row of cells at a block's begin, or none. -/
def Flat (w : World) (A : Option Addr) (xs : List Value) : Prop := xs = [] ∨ ∃ g, A = some ⟨g, 0, none⟩ ∧ w.rangeAt g 0 xs
theorem Flat.below {w w1 : World} {A : Option Addr} {xs : List Value} (h : Flat w A xs) (hb : Below w.heap.size w w1) : Flat w1 A xs := by
 rcases h with h | ⟨g, e, hr⟩
 ·exact .inl h
 ·exact .inr ⟨g, e, range_below hr hb⟩
theorem Own.flat {w0 W : World} {e size n : Nat} {v : Value} {xs : List Value} (h : Own w0 W e size v n xs) : ∃ A c, v = .slice A n c ∧ Flat W A xs ∧ n ≤ c := by
 obtain ⟨A, c, e1, hr, hc, hl⟩ := h.read
 rcases h.2 with ⟨rfl, h2⟩ | ⟨g, cap, cur, rfl, _, hh, hle, _, hsz, hxs⟩
 ·refine ⟨A, c, e1, .inl ?_, hc⟩
  exact List.eq_nil_of_length_eq_zero (by rw [hl, h2, Nat.zero_mul])
 ·injection e1 with h1 _ h3
  subst h1 h3
  refine ⟨_, _, rfl, .inr ⟨g, rfl, fun j u hu => ?_⟩, hle⟩
  rw [Nat.zero_add, Blk.cell (show Blk W g cur e from hh)]
  rw [← hxs, List.getElem?_take] at hu
  split at hu
  ·simpa using hu
  ·cases hu
theorem range_part {w : World} {g k m : Nat} {xs ys : List Value} (h : w.rangeAt g 0 xs) (e : (xs.drop k).take m = ys) : w.rangeAt g k ys := fun j v hv => by
 rw [← e, List.getElem?_take] at hv
 split at hv
 ·rw [List.getElem?_drop] at hv
  have := h (k + j) v hv
  rwa [Nat.zero_add] at this
 ·cases hv
theorem size_k16 : (Tryz.prog.info? 54).map (·.size) = some 16 := by kernel_rfl
theorem size_rn12 : (Tryz.prog.info? 81).map (·.size) = some 12 := by kernel_rfl
set_option maxRecDepth 100000 in
set_option maxHeartbeats 8000000 in
theorem rnext_calls (key : List UInt8) (hkl : key.length = 16) (h : Int) (hh : isU h) (y : En) (hx : y.ev.fit) (x : Nat) (w : World) (v : Value) (hv : REnAt x w y v) :
  Calls Tryz.prog 31 #[.agg (byts key).toArray, .int .u64 h, v] w (RetNext w (y.next key h) y.ev.check) := by
 unfold RetNext
 have hsm := fit_sm hx
 have hpe := fun W hv => rentry_calls y hx x W v hv
 obtain ⟨c0, c1, c2, c3, rfl, hT⟩ := hv
 obtain ⟨A9, c9, cs9, hag, -, -⟩ := hT.open_
 have hcc : c0 = .int .i64 y.ev.term.tr.kind ∧ c1 = .string y.ev.term.tr.s ∧ c2 = .int .i64 y.ev.term.tr.n ∧ c3 = .slice A9 y.ev.term.tr.ks.length c9 := by injection hag with hag; simp at hag; exact hag
 obtain ⟨rfl, rfl, rfl, rfl⟩ := hcc
 clear hag
 generalize y.ev.term.tr.kind = tk at *
 generalize y.ev.term.tr.s = ts at *
 generalize y.ev.term.tr.n = tn at *
 generalize y.ev.term.tr.ks.length = tl at *
 have hpl := y.pack_length hsm
 have hkb := (Blk.new w (byts key).toArray 54).below (bl_alloc (bl_refl _) (.cells #[.int .i64 y.ev.kind, .string y.ev.id, .string y.ev.name, .string y.ev.label, .string y.ev.cur, .int .i64 y.ev.day, .int .i64 y.ev.value, .int .i64 tk, .string ts, .int .i64 tn, .slice A9 tl c9, .bool y.no] 81))
 have hb0 := Blk_new (w.alloc (.cells (byts key).toArray 54)) #[.int .i64 y.ev.kind, .string y.ev.id, .string y.ev.name, .string y.ev.label, .string y.ev.cur, .int .i64 y.ev.day, .int .i64 y.ev.value, .int .i64 tk, .string ts, .int .i64 tn, .slice A9 tl c9, .bool y.no] 81 (w.heap.size + 1) (by simp)
 have hbA := bl_alloc (bl_alloc (bl_refl w) (.cells (byts key).toArray 54)) (.cells #[.int .i64 y.ev.kind, .string y.ev.id, .string y.ev.name, .string y.ev.label, .string y.ev.cur, .int .i64 y.ev.day, .int .i64 y.ev.value, .int .i64 tk, .string ts, .int .i64 tn, .slice A9 tl c9, .bool y.no] 81)
 obtain ⟨f0, f1, f2, f3, f4, f5, f6, f7, f8, f9, f10, f11⟩ := hb0.twelve
 obtain ⟨W1, hW1⟩ : ∃ W1, (w.alloc (.cells (byts key).toArray 54)).alloc (.cells #[.int .i64 y.ev.kind, .string y.ev.id, .string y.ev.name, .string y.ev.label, .string y.ev.cur, .int .i64 y.ev.day, .int .i64 y.ev.value, .int .i64 tk, .string ts, .int .i64 tn, .slice A9 tl c9, .bool y.no] 81) = W1 := ⟨_, rfl⟩
 rw [hW1] at f0 f1 f2 f3 f4 f5 f6 f7 f8 f9 f10 f11 hbA hb0 hkb
 have hpe2 := hpe W1 ⟨_, _, _, _, rfl, hT.below hbA⟩
 unfold RetPk at hpe2
 have HW1 := Lib.hid hW1; have HPE := Lib.hid hpe2; have HKB := Lib.hid hkb; have HBA := Lib.hid hbA; have HKL := Lib.hid hkl
 clear hW1 hpe hpe2 hkb hbA hb0 hkl hT
 by_cases hz : y.ev.check = 0
 ·have HP : Hid (y.next key h = sipSum key (bytesI h ++ y.pack)) := by show _ = _; unfold En.next; rw [if_pos hz]
  rw [hz] at HPE ⊢
  rw [HP.out]
  clear hz HP
  generalize y.pack = l at *
  have HPL := Lib.hid hpl
  clear hpl
  go_enter Tryz.func31, Tryz.ntmps31
  go_upto_region 1 with fail
  rw [HW1.out]
  go_wp2_with fail
  refine (HPE.out).mono ?_
  rintro en w2 ⟨vb, rfl, hOb, hb2⟩
  obtain ⟨Ab, cb, rfl, hRb, -, -⟩ := hOb.read
  have HK2 := Lib.hid (HKB.out.below hb2)
  have HB2 := Lib.hid (bl_step hb2 HBA.out)
  have HR2 := Lib.hid hRb
  clear f0 f1 f2 f3 f4 f5 f6 f7 f8 f9 f10 f11 HW1 hOb hb2 HPE HKB HBA hRb
  go_upto_region 4 with fail
  have hi : (Tryz.prog.info? 54).map (·.size) = some (byts key).length := by rw [byts_length, HKL.out]; exact size_k16
  have hpl := HPL.out
  refine wp_region_noPanic ?_
  refine wp_region_held_drew (S := fun w' => w'.rangeAt w.heap.size 0 (byts key)) (by kernel_rfl) HK2.out.range (fun hHeld => ?_)
  refine wpAnyH_world (fun W => Below w2.heap.size w2 W) (bl_drew (bl_refl _)) (fun W2 hb2 => ?_)
  refine wpAnyH_lst #[false, false, false, false, false, false, false, false] (by rfl) ?_
  clear hHeld
  refine wpAnyH_named (fun A0 hA0 => ?_)
  have HA0 := Lib.hid hA0
  refine sp_in A0 [18, 19, 20, 21, 22, 23, 6, 7] 24 [(3, .pointer (some ⟨w.heap.size, 0, none⟩)), (1, .int .u64 h), (8, .slice Ab l.length cb)] (by rw [hA0]; rfl) (HK2.out.below hb2).range (by rw [hA0]; exact ⟨rfl, rfl, rfl, trivial⟩) ?_
  clear hA0
  refine sl 0 3 rfl w.heap.size 0 (byts key) _ (fun w h => h) Tryz.underlying54 hi ?_
  refine st 1 [1] rfl ?_
  refine st 3 [8] rfl ?_
  refine sr 2 (sc 2 [19] rfl (refbytes_calls h hh _) ?_)
  rintro en W3 ⟨vO, rfl, HO, hb⟩
  have hszW := (bl_step hb2 HB2.out).size
  replace hb2 := bl_step hb hb2
  refine ⟨_, rfl, (HK2.out.below hb2).range, ?_⟩
  clear hb
  refine sr 4 (so 4 rfl rfl (fun A hN hS K hK => ?_))
  refine append_anyW (w0 := w) _ _ 51 5 _ 1 1 rfl Tryz.underlying51 info_u8 rfl (by decide) _ 8 _ Ab _ cb _ (HO.mono hszW) (bl_step hb2 HB2.out) (HR2.out.below hb2) (hN.ev 20 rfl) (hN.ev 21 rfl) (by rw [byts_length, Nat.mul_one]) (byts_one _) (by omega) (by omega) ?_
  intro v1 W4 HO4 HB4 HG4
  have hk4 := (HK2.out.below hb2).grown HG4 (HO.ne_blk (HK2.out.below hb2) (by decide))
  refine hK _ _ hk4.range ?_
  clear hK hN hS K A
  obtain ⟨A4, c4, rfl, hR4, hc4, -⟩ := HO4.read
  have hby : byts (bytesI h) ++ byts l = byts (bytesI h ++ l) := by unfold byts; rw [List.map_append]
  rw [hby] at hR4
  have hln : (bytesI h ++ l).length = 8 + l.length := by rw [List.length_append, bytesI_length]
  refine sr 5 (sc 5 [18, 22] rfl (sip_calls key HKL.out A4 c4 (8 + l.length) (bytesI h ++ l) _ hln hR4 (by omega)) ?_)
  rintro en W5 ⟨rfl, hb⟩
  have hB5 := bl_step hb HB4
  refine ⟨_, rfl, (hk4.below hb).range, ?_⟩
  refine st 6 [23] rfl ?_
  refine st 7 [] rfl ?_
  refine sp_done (fun A hO hN hS => NoPanic.normal ?_)
  obtain ⟨fo, hfo⟩ := hO.lit HA0.out
  have g6 := hN.get 6 rfl
  have g7 := hN.get 7 rfl
  clear hO hN
  dsimp only [putL, List.set_cons_zero, List.set_cons_succ] at hfo
  subst hfo
  have g6 : fo 6 = .int .u64 (sipSum key (bytesI h ++ l)) := g6
  have g7 : fo 7 = .int .i64 0 := g7
  go_wp2_with fail
  go_ret2
  exact ⟨rfl, hB5⟩
 ·have HP : Hid (y.next key h = 0) := by show _ = _; unfold En.next; rw [if_neg hz]
  have hzb : (y.ev.check != 0) = true := by simp [hz]
  rw [HP.out]
  generalize y.ev.check = er at *
  clear hz HP
  go_enter Tryz.func31, Tryz.ntmps31
  go_upto_region 1 with fail
  rw [HW1.out]
  go_wp2_with fail
  refine (HPE.out).mono ?_
  rintro en w2 ⟨vb, rfl, hOb, hb2⟩
  go_wp2_with fail
  go_ret2
  exact ⟨rfl, bl_step hb2 HBA.out⟩
set_option maxRecDepth 100000 in
set_option maxHeartbeats 8000000 in
theorem rheads_calls (key : List UInt8) (hkl : key.length = 16) (l : List En) (hfit : ∀ x ∈ l, x.ev.fit) (hmax : l.length ≤ 1000) (B : Nat) (A : Option Addr) (c : Nat) (xs : List Value) (w : World) (hF : Flat w A xs) (hR : REs B w l xs) :
  Calls Tryz.prog 29 #[.agg (byts key).toArray, .slice A l.length c] w (RetOwn w 62 1 (l.length + 1) (u64s (headsR key l))) := by
 have hbs := fun (y : Int) (W : World) => bs_u64 y W
 have hkb := Blk.new w (byts key).toArray 54
 have hbA := bl_alloc (bl_refl w) (.cells (byts key).toArray 54)
 obtain ⟨W1, hW1⟩ : ∃ W1, w.alloc (.cells (byts key).toArray 54) = W1 := ⟨_, rfl⟩
 rw [hW1] at hkb hbA
 have hO1 := Own.of_blk (w0 := w) (Blk.new W1 #[.int .u64 0] 62) (xs := [.int .u64 0]) hbA.size rfl (by show 1 ≤ maxLen; decide)
 have hB1 := bl_alloc hbA (.cells #[.int .u64 0] 62)
 have hK1 := hkb.below (bl_alloc (bl_refl _) (.cells #[.int .u64 0] 62))
 obtain ⟨n, hn⟩ : ∃ n, l.length = n := ⟨_, rfl⟩
 rw [hn] at hmax ⊢
 have HN := Lib.hid hn; have HW1 := Lib.hid hW1; have HKL := Lib.hid hkl; have HF := Lib.hid hF; have HR := Lib.hid hR; have HFI := Lib.hid hfit; have HO1 := Lib.hid hO1; have HB1 := Lib.hid hB1; have HK1 := Lib.hid hK1
 clear hn hW1 hkl hF hR hfit hO1 hB1 hK1 hkb hbA
 go_enter Tryz.func29, Tryz.ntmps29
 go_upto_region 1 with fail
 rw [HW1.out]
 clear HW1
 go_wp2_with fail
 go_loopw [5, 12] (fun o i wr => ∃ j : Nat, j ≤ n ∧ i = .int .i64 j ∧ Own w wr 62 1 o (j + 1) (u64s (headsR key (l.take j))) ∧ Blk wr w.heap.size (byts key).toArray 54 ∧ Below w.heap.size w wr) (fun _ i _ => n - (intOf i).toNat)
 case atStart => exact ⟨0, Nat.zero_le _, rfl, HO1.out, HK1.out, HB1.out⟩
 case round =>
  clear HO1 HB1 HK1
  obtain ⟨j, hj, rfl, hO, hK, hB⟩ := hrel
  by_cases hlt : j < n
  ·have hjl : j < l.length := by rw [HN.out]; exact hlt
   obtain ⟨c0, c1, c2, c3, hrow, hT⟩ := HR.out.get j hjl
   have hyf := HFI.out l[j] (List.getElem_mem hjl)
   have htk := headsR_take key l j hjl
   have hhl : (headsR key (l.take j)).length = j + 1 := by rw [headsR_length, List.length_take, Nat.min_eq_left (by omega)]
   have hU : isU ((headsR key (l.take j)).getD j 0) := by
    rw [List.getD_eq_getElem?_getD, List.getElem?_eq_getElem (by omega)]
    exact headsR_isU key _ _ (List.getElem_mem _)
   have hcell : (u64s (headsR key (l.take j)))[j]? = some (.int .u64 ((headsR key (l.take j)).getD j 0)) := by
    unfold u64s
    rw [List.getElem?_map, List.getD_eq_getElem?_getD, List.getElem?_eq_getElem (by omega)]
    rfl
   obtain ⟨g, rfl, hra⟩ : ∃ g, A = some ⟨g, 0, none⟩ ∧ wr.rangeAt g 0 xs := by
    rcases HF.out.below hB with h | h
    ·rw [h] at hrow; simp at hrow
    ·exact h
   have hrow2 := range_part hra hrow
   obtain ⟨A5, c5, rfl, hfl, hc5⟩ := hO.flat
   obtain ⟨go, rfl, hro⟩ : ∃ go, A5 = some ⟨go, 0, none⟩ ∧ wr.rangeAt go 0 (u64s (headsR key (l.take j))) := by
    rcases hfl with h | h
    ·rw [h] at hcell; cases hcell
    ·exact h
   have hce := hro j _ hcell
   rw [Nat.zero_add] at hce
   generalize l[j] = y at *
   generalize (headsR key (l.take j)).getD j 0 = hd at *
   have hnx := fun W (hb : Below wr.heap.size wr W) => rnext_calls key HKL.out hd hU y hyf B W _ ⟨c0, c1, c2, c3, rfl, hT.below (bl_step hb hB)⟩
   have hj0 : (0 : Int) ≤ (j : Int) := by omega
   have hj1 : (j : Int) < (n : Int) := by omega
   have hj2 : (j : Int) < (j : Int) + 1 := by omega
   have HTK := Lib.hid htk; have HNX := Lib.hid hnx; have HO := Lib.hid hO; have HK := Lib.hid hK; have HB := Lib.hid hB
   have HRO := Lib.hid hrow2; have HCE := Lib.hid hce
   clear hrow hT hyf htk hhl hU hcell hra hrow2 hfl hro hce hnx hO hK hB
   go_upto_region 5 with fail
   have hi : (Tryz.prog.info? 54).map (·.size) = some (byts key).length := by rw [byts_length, HKL.out]; exact size_k16
   refine wp_region_noPanic ?_
   refine wp_region_held_drew (S := fun w' => w'.rangeAt w.heap.size 0 (byts key) ∧ w'.rangeAt g (j * 12) [.int .i64 y.ev.kind, .string y.ev.id, .string y.ev.name, .string y.ev.label, .string y.ev.cur, .int .i64 y.ev.day, .int .i64 y.ev.value, c0, c1, c2, c3, .bool y.no] ∧ w'.cell? ⟨go, j, none⟩ = some (.int .u64 hd)) (by kernel_rfl) ⟨HK.out.range, HRO.out, HCE.out⟩ (fun hHeld => ?_)
   refine wpAnyH_world (fun W => Below wr.heap.size wr W) (bl_drew (bl_refl _)) (fun W2 hb2 => ?_)
   refine wpAnyH_lst #[false, false, false, false, false, false, false, false, false, false, false, false, false, false, false] (by rfl) ?_
   clear hHeld
   refine wpAnyH_named (fun A0 hA0 => ?_)
   have HA0 := Lib.hid hA0
   refine sp_in A0 [15, 16, 17, 18, 19, 20, 21, 22, 23, 24, 25, 26, 27, 7, 8] 34 [(2, .pointer (some ⟨w.heap.size, 0, none⟩)), (5, .slice (some ⟨go, 0, none⟩) (j + 1) c5), (6, .int .i64 j), (1, .slice (some ⟨g, 0, none⟩) n c)] (by rw [hA0]; rfl) ⟨(HK.out.below hb2).range, rat_below HRO.out hb2, cell_below hb2 HCE.out⟩ (by rw [hA0]; exact ⟨rfl, rfl, rfl, rfl, trivial⟩) ?_
   clear hA0
   refine sl 0 2 rfl w.heap.size 0 (byts key) _ (fun w h => h.1) Tryz.underlying54 hi ?_
   refine st 1 [5] rfl ?_
   refine st 2 [6] rfl ?_
   refine st 5 [1] rfl ?_
   refine st 6 [6] rfl ?_
   refine st (v := .pointer (some ⟨go, j, none⟩)) 3 [17, 18] rfl ?_
   refine st (v := .pointer (some ⟨g, j * 12, none⟩)) 7 [21, 22] rfl ?_
   refine st (v := .int .u64 hd) 4 [19] rfl ?_
   refine sl 8 23 rfl g (j * 12) [.int .i64 y.ev.kind, .string y.ev.id, .string y.ev.name, .string y.ev.label, .string y.ev.cur, .int .i64 y.ev.day, .int .i64 y.ev.value, c0, c1, c2, c3, .bool y.no] _ (fun w h => h.2.1) Tryz.underlying81 size_rn12 ?_
   refine sr 9 (sc 9 [16, 20, 24] rfl (HNX.out _ hb2) ?_)
   rintro en W3 ⟨rfl, hb⟩
   replace hb2 := bl_step hb hb2
   refine ⟨_, rfl, ⟨(HK.out.below hb2).range, rat_below HRO.out hb2, cell_below hb2 HCE.out⟩, ?_⟩
   clear hb
   refine st 10 [25] rfl ?_
   refine st 11 [15] rfl ?_
   refine st 12 [15] rfl ?_
   refine st 13 [26] rfl ?_
   refine st 14 [27] rfl ?_
   refine sp_done (fun A hO hN hS => NoPanic.normal ?_)
   obtain ⟨fo, hfo⟩ := hO.lit HA0.out
   have g7 := hN.get 7 rfl
   have g8 := hN.get 8 rfl
   clear hO hN
   dsimp only [putL, List.set_cons_zero, List.set_cons_succ] at hfo
   subst hfo
   have g7 : fo 7 = .int .u64 (y.next key hd) := g7
   have g8 : fo 8 = .int .i64 y.ev.check := g8
   have HO6 := Lib.hid (HO.out.below hb2); have HB6 := Lib.hid (bl_step hb2 HB.out); have HK6 := Lib.hid (HK.out.below hb2)
   clear HO HB HK HRO HCE HNX hb2
   have hbs2 := fun (y : Int) (W : World) => bs_u64 y W
   go_wp2_with (at_builtin; refine append_one rfl _ _ 75 62 _ 8 rfl Tryz.underlying75 info_u64 rfl _ _ _ _ HO6.out HB6.out rfl rfl rfl (by omega) (by omega) ?_; intro v1 w7 HO7 HB7 HG7)
   go_roundw
   case rel => exact ⟨j + 1, by omega, by go_num, by rw [HTK.out]; simpa [u64s] using HO7, HK6.out.grown HG7 (HO6.out.ne_blk HK6.out (by decide)), HB7⟩
   case measure => simp [intOf]; omega
  ·obtain rfl : j = n := by omega
   rw [List.take_of_length_le (by rw [HN.out]; exact Nat.le_refl _)] at hO
   have HO := Lib.hid hO; have HB := Lib.hid hB
   clear hO hB hK
   go_wp2_with fail
   go_ret
   exact ⟨_, rfl, HO.out, HB.out⟩
theorem fit_rsame {e : Ev} (h : e.fit) : e.rsame e = true := by
 rw [Ev.rsame_eq e e h.term h.term]
 unfold Ev.same Ev.terms Ev.rest
 rcases h.term with e1 | ⟨hf, -⟩
 ·rw [e1]; simp [Tm.isNil]
 ·simp [e.term.same_self hf]
theorem size_ae8 : (Tryz.prog.info? 30).map (·.size) = some 8 := by kernel_rfl
theorem size_re11 : (Tryz.prog.info? 35).map (·.size) = some 11 := by kernel_rfl
theorem drop_rowsE (es : List En) (i : Nat) (h : i < es.length) : ((rowsE es).drop (i * 9)).take 9 = es[i].row := by
 induction es generalizing i with
 | nil => simp at h
 | cons y l ih =>
  cases i with
  | zero => rfl
  | succ i =>
   rw [Nat.succ_mul]
   exact ih i (by simpa using h)
set_option maxRecDepth 100000 in
set_option maxHeartbeats 8000000 in
theorem logs_calls (es : List En) (hfit : ∀ x ∈ es, x.ev.fit) (hmax : es.length ≤ 1000) (X : Nat) (A : Option Addr) (c : Nat) (B : Option Addr) (d : Nat) (xs : List Value) (w : World) (hE : Flat w A (rowsE es)) (hF : Flat w B xs) (hR : REs X w es xs) :
  Calls Tryz.prog 32 #[.slice A es.length c, .slice B es.length d] w fun e w' => e = .returned (.bool true) ∧ Below w.heap.size w w' := by
 obtain ⟨n, hn⟩ : ∃ n, es.length = n := ⟨_, rfl⟩
 rw [hn] at hmax ⊢
 have HN := Lib.hid hn; have HE := Lib.hid hE; have HF := Lib.hid hF; have HR := Lib.hid hR; have HFI := Lib.hid hfit
 clear hn hE hF hR hfit
 go_enter Tryz.func32, Tryz.ntmps32
 go_wp2_with fail
 go_loopw [13] (fun i wr => ∃ j : Nat, j ≤ n ∧ i = .int .i64 j ∧ Below w.heap.size w wr) (fun i _ => n - (intOf i).toNat)
 case atStart => exact ⟨0, Nat.zero_le _, rfl, bl_refl _⟩
 case round =>
  obtain ⟨j, hj, rfl, hB⟩ := hrel
  by_cases hlt : j < n
  ·have hjl : j < es.length := by rw [HN.out]; exact hlt
   obtain ⟨c0, c1, c2, c3, hrow, hT⟩ := HR.out.get j hjl
   have hyf := HFI.out es[j] (List.getElem_mem hjl)
   have hrw := drop_rowsE es j hjl
   obtain ⟨g2, rfl, hra2⟩ : ∃ g, B = some ⟨g, 0, none⟩ ∧ wr.rangeAt g 0 xs := by
    rcases HF.out.below hB with h | h
    ·rw [h] at hrow; simp at hrow
    ·exact h
   obtain ⟨g, rfl, hra⟩ : ∃ g, A = some ⟨g, 0, none⟩ ∧ wr.rangeAt g 0 (rowsE es) := by
    rcases HE.out.below hB with h | h
    ·rw [h] at hrw; simp [En.row, En.cells] at hrw
    ·exact h
   have hb9 := range_part hra hrw
   have hb12 := range_part hra2 hrow
   generalize es[j] = y at *
   have hr8 : wr.rangeAt g (j * 9) [.int .i64 y.ev.kind, .string y.ev.id, .string y.ev.name, .string y.ev.label, .string y.ev.cur, .int .i64 y.ev.day, .int .i64 y.ev.value, y.ev.term.val] := fun k v hv => hb9 k v (by
    have hk := (List.getElem?_eq_some_iff.1 hv).1
    have e1 : y.row = [.int .i64 y.ev.kind, .string y.ev.id, .string y.ev.name, .string y.ev.label, .string y.ev.cur, .int .i64 y.ev.day, .int .i64 y.ev.value, y.ev.term.val] ++ [.bool y.no] := rfl
    rw [e1, List.getElem?_append_left hk, hv])
   have hr11 : wr.rangeAt g2 (j * 12) [.int .i64 y.ev.kind, .string y.ev.id, .string y.ev.name, .string y.ev.label, .string y.ev.cur, .int .i64 y.ev.day, .int .i64 y.ev.value, c0, c1, c2, c3] := fun k v hv => hb12 k v (by
    have hk := (List.getElem?_eq_some_iff.1 hv).1
    have e1 : ([.int .i64 y.ev.kind, .string y.ev.id, .string y.ev.name, .string y.ev.label, .string y.ev.cur, .int .i64 y.ev.day, .int .i64 y.ev.value, c0, c1, c2, c3, .bool y.no] : List Value) = [.int .i64 y.ev.kind, .string y.ev.id, .string y.ev.name, .string y.ev.label, .string y.ev.cur, .int .i64 y.ev.day, .int .i64 y.ev.value, c0, c1, c2, c3] ++ [.bool y.no] := rfl
    rw [e1, List.getElem?_append_left hk, hv])
   have hc9 : wr.cell? ⟨g, j * 9 + 8, none⟩ = some (.bool y.no) := hb9 8 _ rfl
   have hc12 : wr.cell? ⟨g2, j * 12 + 11, none⟩ = some (.bool y.no) := hb12 11 _ rfl
   have hev := fun W => event_calls y.ev (fit_sm hyf).ok.term W
   unfold RetREv Ev.val at hev
   have hsm := fun x W va vb h1 h2 => revsame_calls y.ev y.ev (fit_tr hyf).1 (fit_tr hyf).1 x W va vb h1 h2
   rw [fit_rsame hyf] at hsm
   have hj0 : (0 : Int) ≤ (j : Int) := by omega
   have hj1 : (j : Int) < (n : Int) := by omega
   have hti := y.ev.term.isI (fit_sm hyf).ok.term
   have HEV := Lib.hid hev; have HSM := Lib.hid hsm; have HT := Lib.hid hT; have HB := Lib.hid hB
   have H8 := Lib.hid hr8; have H11 := Lib.hid hr11; have HC9 := Lib.hid hc9; have HC12 := Lib.hid hc12
   clear hrow hT hyf hrw hra hra2 hb9 hb12 hr8 hr11 hc9 hc12 hev hsm hB
   go_upto_region 6 with fail
   refine wp_region_noPanic ?_
   refine wp_region_held_drew (S := fun w' => w'.rangeAt g (j * 9) [.int .i64 y.ev.kind, .string y.ev.id, .string y.ev.name, .string y.ev.label, .string y.ev.cur, .int .i64 y.ev.day, .int .i64 y.ev.value, y.ev.term.val] ∧ w'.rangeAt g2 (j * 12) [.int .i64 y.ev.kind, .string y.ev.id, .string y.ev.name, .string y.ev.label, .string y.ev.cur, .int .i64 y.ev.day, .int .i64 y.ev.value, c0, c1, c2, c3] ∧ w'.cell? ⟨g, j * 9 + 8, none⟩ = some (.bool y.no) ∧ w'.cell? ⟨g2, j * 12 + 11, none⟩ = some (.bool y.no)) (by kernel_rfl) ⟨H8.out, H11.out, HC9.out, HC12.out⟩ (fun hHeld => ?_)
   refine wpAnyH_world (fun W => Below wr.heap.size wr W) (bl_drew (bl_refl _)) (fun W2 hb2 => ?_)
   refine wpAnyH_lst #[false, false, false, false, false, false, false, false, false, false, false, false, false, false, false, false, false, false, false, false, false, false, false, false, false, false] (by rfl) ?_
   clear hHeld
   refine wpAnyH_named (fun A0 hA0 => ?_)
   have HA0 := Lib.hid hA0
   refine sp_in A0 [16, 17, 18, 19, 20, 21, 22, 23, 24, 25, 26, 27, 28, 29, 30, 31, 32, 33, 34, 35, 36, 37, 38, 39, 40, 41] 43 [(0, .slice (some ⟨g, 0, none⟩) n c), (1, .slice (some ⟨g2, 0, none⟩) n d), (5, .int .i64 j)] (by rw [hA0]; rfl) ⟨rat_below H8.out hb2, rat_below H11.out hb2, cell_below hb2 HC9.out, cell_below hb2 HC12.out⟩ (by rw [hA0]; exact ⟨rfl, rfl, rfl, trivial⟩) ?_
   clear hA0
   refine st 0 [0] rfl ?_
   refine st 1 [5] rfl ?_
   refine st 5 [1] rfl ?_
   refine st 6 [5] rfl ?_
   refine st (v := .pointer (some ⟨g, j * 9, none⟩)) 2 [16, 17] rfl ?_
   refine st (v := .pointer (some ⟨g2, j * 12, none⟩)) 7 [21, 22] rfl ?_
   refine st (v := .pointer (some ⟨g, j * 9 + 8, none⟩)) 3 [18] rfl ?_
   refine st (v := .pointer (some ⟨g2, j * 12 + 11, none⟩)) 8 [23] rfl ?_
   refine st (v := .bool y.no) 4 [19] rfl ?_
   refine st (v := .bool y.no) 9 [24] rfl ?_
   refine st (v := .bool false) 10 [20, 25] rfl ?_
   refine st 11 [26] rfl ?_
   refine st 12 [0] rfl ?_
   refine st 13 [5] rfl ?_
   refine st 18 [1] rfl ?_
   refine st 19 [5] rfl ?_
   refine st (v := .pointer (some ⟨g, j * 9, none⟩)) 14 [28, 29] rfl ?_
   refine st (v := .pointer (some ⟨g2, j * 12, none⟩)) 20 [34, 35] rfl ?_
   refine st (v := .pointer (some ⟨g, j * 9, none⟩)) 15 [30] rfl ?_
   refine st (v := .pointer (some ⟨g2, j * 12, none⟩)) 21 [36] rfl ?_
   refine sl 16 31 rfl g (j * 9) [.int .i64 y.ev.kind, .string y.ev.id, .string y.ev.name, .string y.ev.label, .string y.ev.cur, .int .i64 y.ev.day, .int .i64 y.ev.value, y.ev.term.val] _ (fun w h => h.1) Tryz.underlying30 size_ae8 ?_
   refine sl 22 37 rfl g2 (j * 12) [.int .i64 y.ev.kind, .string y.ev.id, .string y.ev.name, .string y.ev.label, .string y.ev.cur, .int .i64 y.ev.day, .int .i64 y.ev.value, c0, c1, c2, c3] _ (fun w h => h.2.1) Tryz.underlying35 size_re11 ?_
   refine sr 17 (sc 17 [32] rfl (HEV.out _) ?_)
   rintro en W3 ⟨vE, rfl, hEv, hb⟩
   have hszE := hb2.size
   replace hb2 := bl_step hb hb2
   refine ⟨_, rfl, ⟨rat_below H8.out hb2, rat_below H11.out hb2, cell_below hb2 HC9.out, cell_below hb2 HC12.out⟩, ?_⟩
   obtain ⟨d0, d1, d2, d3, rfl, hTE⟩ := hEv
   clear hb
   refine sr 23 (sc 23 [33, 38] rfl (HSM.out 0 _ _ _ ⟨_, _, _, _, rfl, hTE.mono (Nat.zero_le _)⟩ ⟨_, _, _, _, rfl, (HT.out.below (bl_step hb2 HB.out)).mono (Nat.zero_le _)⟩) ?_)
   rintro en W4 ⟨rfl, hb⟩
   replace hb2 := bl_step hb hb2
   refine ⟨_, rfl, ⟨rat_below H8.out hb2, rat_below H11.out hb2, cell_below hb2 HC9.out, cell_below hb2 HC12.out⟩, ?_⟩
   clear hb
   refine st 24 [39] rfl ?_
   refine st 25 [27, 40] rfl ?_
   refine sp_done (fun A hO hN hS => NoPanic.normal ?_)
   obtain ⟨fo, hfo⟩ := hO.lit HA0.out
   have g41 := hN.get 41 rfl
   clear hO hN
   dsimp only [putL, List.set_cons_zero, List.set_cons_succ] at hfo
   subst hfo
   have g41 : fo 41 = .bool false := g41
   go_wp2_with fail
   go_roundw
   case rel => exact ⟨j + 1, by omega, by go_num, bl_step hb2 HB.out⟩
   case measure => simp [intOf]; omega
  ·obtain rfl : j = n := by omega
   have HB := Lib.hid hB
   clear hB
   go_wp2_with fail
   go_ret
   exact ⟨rfl, HB.out⟩
end Go.Proofs.YtapbkomicihkkaaGreatDoor
