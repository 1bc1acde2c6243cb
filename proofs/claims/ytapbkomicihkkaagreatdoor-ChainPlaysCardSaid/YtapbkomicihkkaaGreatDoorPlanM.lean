/- A plan's next number, as a value. -/
import Derived.Test.YtapbkomicihkkaaGreatDoorPlan5
namespace Go.Proofs.YtapbkomicihkkaaGreatDoor
open Go.RowKit
set_option linter.unusedVariables false
set_option linter.unusedSimpArgs false

theorem size_set2 (w : World) (p q : Addr) (v0 v1 : Value) : ((w.setCell p v0).setCell q v1).heap.size = w.heap.size := by simp [World.setCell]
/-- How many numbers a contract's tree so deep takes at most. -/
def cot : Nat → Nat
  | 0 => 2
  | d + 1 => 2 * cot d + 20
theorem cot_two (d : Nat) : 2 ≤ cot d := by cases d <;> simp [cot]
def TmPost (w0 : World) (g : Nat) (vN vW : Value) (i : Nat) (l : Int) (b d : Nat) (w : World) : Ending → World → Prop := fun e w' =>
  ∃ (t : Tm) (v : Value) (i' : Nat) (l' : Int) (b' : Nat), e = .returned v ∧ TrAt w.heap.size w' t.tr v ∧ t.fine ∧ Mk w0 g vN vW i' l' b' w' ∧ (b ≤ b' ∧ b' ≤ b + cot d) ∧ Made w0 g vN vW i l (cot d) d w w' t.parts i' l'
/-- How it stands ahead of the end: the tree lies in the local t. -/
structure TmMid (w0 : World) (g : Nat) (vN vW : Value) (i : Nat) (l : Int) (b d : Nat) (w : World) (r u : Nat) (t : Tm) (A : Option Addr) (c i' : Nat) (l' : Int) (b' : Nat) (W : World) : Prop where
  res : Blk W r #[.int .i64 0, .string ⟨#[]⟩, .int .i64 0, .slice none 0 0] 33
  loc : Blk W u #[.int .i64 t.tr.kind, .string t.tr.s, .int .i64 t.tr.n, .slice A t.tr.ks.length c] 33
  tr : TrAt (r + 1) W t.tr (t.tr.at_ A c)
  fine : t.fine
  maker : Mk w0 g vN vW i' l' b' W
  lab : b ≤ b' ∧ b' ≤ b + cot d
  made : Made w0 g vN vW i l (cot d) d w W t.parts i' l'
theorem TmMid.post {w0 : World} {g : Nat} {vN vW : Value} {i : Nat} {l : Int} {b d : Nat} {w : World} {r u : Nat} {t : Tm} {A : Option Addr} {c i' : Nat} {l' : Int} {b' : Nat} {W : World} (h : TmMid w0 g vN vW i l b d w r u t A c i' l' b' W) (hr : w.heap.size = r) (hrg : r ≠ g) (hr0 : w0.heap.size ≤ r) :
    TmPost w0 g vN vW i l b d w (.returned (.agg #[.int .i64 t.tr.kind, .string t.tr.s, .int .i64 t.tr.n, .slice A t.tr.ks.length c])) ((((W.setCell ⟨r, 0, none⟩ (.int .i64 t.tr.kind)).setCell ⟨r, 1, none⟩ (.string t.tr.s)).setCell ⟨r, 2, none⟩ (.int .i64 t.tr.n)).setCell ⟨r, 3, none⟩ (.slice A t.tr.ks.length c)) := by
  have hM := h.made
  exact ⟨t, _, i', l', b', rfl, (h.tr.set4 (by omega) _ _ _ _).mono (by omega), h.fine, h.maker.set4 r hrg hr0 _ _ _ _, h.lab, ⟨hM.lo, hM.hi, hM.cnt, hM.one, hM.low, gb_set4 hM.gb r (by omega) _ _ _ _⟩⟩
/-- A leaf in the local. -/
theorem mid_leaf {w0 : World} {g : Nat} {vN vW : Value} {i i' : Nat} {l : Int} {b d : Nat} {w W : World} {r u : Nat} (t : Tm) (k : Int) (s : ByteArray) (htr : t.tr = .mk k s 0 []) (hp : t.parts = 1) (hf : t.fine)
    (hres : Blk W r #[.int .i64 0, .string ⟨#[]⟩, .int .i64 0, .slice none 0 0] 33) (hloc : Blk W u #[.int .i64 k, .string s, .int .i64 0, .slice none 0 0] 33)
    (hm : Mk w0 g vN vW i' (l - 1) b W) (hi : i ≤ i' ∧ i' ≤ i + 2) (hg : w.grownBy W (some g)) : TmMid w0 g vN vW i l b d w r u t none 0 i' (l - 1) b W := by
  have hc := cot_two d
  have htA : TrAt (r + 1) W t.tr (t.tr.at_ none 0) := by rw [htr]; exact TrAt.leaf _ _ _ _ _ _
  exact ⟨hres, by rw [htr]; exact hloc, htA, hf, hm, ⟨by omega, by omega⟩, ⟨by omega, by omega, by rw [hp]; omega, fun _ => hp, fun h => by omega, hg⟩⟩
/-- A tree with parts in the local. -/
theorem mid_row {w0 : World} {g : Nat} {vN vW : Value} {i i' : Nat} {l l' : Int} {b b' d : Nat} {w W : World} {r u : Nat} (t : Tm) (k : Int) (s : ByteArray) (n : Int) (ks : List Tr) (m : Nat) (htr : t.tr = .mk k s n ks) (hm : m = ks.length) (hf : t.fine) {q : Nat} {cs : List Value}
    (hres : Blk W r #[.int .i64 0, .string ⟨#[]⟩, .int .i64 0, .slice none 0 0] 33) (hloc : Blk W u #[.int .i64 k, .string s, .int .i64 n, .slice (some ⟨q, 0, none⟩) m m] 33)
    (hrow : RowOf (r + 1) W (some ⟨q, 0, none⟩) cs) (hts : TrsAt (r + 1) W ks cs) (hmk : Mk w0 g vN vW i' l' b' W) (hb : b ≤ b' ∧ b' ≤ b + cot d) (hmade : Made w0 g vN vW i l (cot d) d w W t.parts i' l') :
    TmMid w0 g vN vW i l b d w r u t (some ⟨q, 0, none⟩) m i' l' b' W := by
  subst hm
  have htA : TrAt (r + 1) W t.tr (t.tr.at_ (some ⟨q, 0, none⟩) ks.length) := by rw [htr]; exact TrAt.mk_ hrow hts
  exact ⟨hres, by rw [htr]; exact hloc, htA, hf, hmk, hb, hmade⟩
end Go.Proofs.YtapbkomicihkkaaGreatDoor
namespace Go.Proofs.YtapbkomicihkkaaGreatDoor
open Go.RowKit
set_option linter.unusedVariables false
set_option linter.unusedSimpArgs false

/-- The plan's number i (0 behind the last one). -/
def nAt (w0 : World) (vN : Value) (i : Nat) : Int := match vN with
  | .slice (some ad) n _ => if i < n then (match w0.cell? (ad.add i) with | some (.int _ v) => v | _ => 0) else 0
  | _ => 0
/-- What the maker takes next. -/
def qOf (w0 : World) (vN : Value) (i : Nat) (l : Int) (d : Nat) (of : Int) : Int := if d = 0 ∨ l ≤ 1 then nAt w0 vN i % of % 3 else nAt w0 vN i % of
set_option maxRecDepth 100000 in
set_option maxHeartbeats 1000000 in
theorem n_det (w0 w : World) (g : Nat) (vN vW : Value) (i : Nat) (l : Int) (b : Nat) (hm : Mk w0 g vN vW i l b w) (hi : i ≤ 1000000000000) (of : Int) (h0 : 1 ≤ of ∧ of ≤ 140737488355328) :
    Calls Tryz.prog 119 #[.pointer (some ⟨g, 0, none⟩), .int .i64 of] w fun e w' => ∃ v, e = .returned (.int .i64 v) ∧ 0 ≤ v ∧ v < of ∧ Mk w0 g vN vW (i + 1) l b w' ∧ w.grownBy w' (some g) ∧ v = nAt w0 vN i % of := by
  obtain ⟨A, n, c, xs, rfl, hr, hx, hn, hv⟩ := hm.plan.nums
  have c0 := hm.blk.cell 0
  have c2 := hm.blk.cell 2
  have z2 := hm.blk.frozen 2
  have e0 : (#[Value.slice A n c, vW, .int .i64 (i : Int), .int .i64 l, .int .i64 (b : Int)] : Array Value)[0]? = some (.slice A n c) := rfl
  have e2 : (#[Value.slice A n c, vW, .int .i64 (i : Int), .int .i64 l, .int .i64 (b : Int)] : Array Value)[2]? = some (.int .i64 (i : Int)) := rfl
  rw [e0] at c0
  rw [e2] at c2
  have HM := Lib.hid hm
  clear e0 e2 hm
  have hof := h0.1
  have hmk : ∀ W, Mk w0 g (.slice A n c) vW i l b W → Mk w0 g (.slice A n c) vW (i + 1) l b (W.setCell ⟨g, 2, none⟩ (.int .i64 ((i : Int) + 1))) := fun W h =>
    ⟨by have := h.blk.set 2 (.int .i64 ((i : Int) + 1)); exact this, h.hg, bl_grown h.bel (gb_set 2 _) h.hg, h.plan⟩
  have HMK := Lib.hid hmk
  clear hmk
  have hw0 := fun (v : Int) (w : World) (hv : -9223372036854775808 ≤ v ∧ v ≤ 9223372036854775807) => within_calls v of w hv h0
  have HW0 := Lib.hid hw0
  clear hw0 h0
  by_cases hlt : i < n
  · have hxi : xs[i]? = some xs[i]! := by rw [getElem!_pos xs i (by omega)]; exact List.getElem?_eq_getElem _
    obtain ⟨ad, rfl, hc⟩ := hr i _ hxi
    obtain ⟨v, hvv, hvb⟩ := hv i _ hxi
    rw [hvv] at hc
    have hna : nAt w0 (.slice (some ad) n c) i = v := by simp [nAt, hlt, hc]
    have HNA := Lib.hid hna
    clear hna
    have hc' := cell_below HM.out.bel hc
    clear hxi hvv hv hr hc
    have hltI : (i : Int) < (n : Int) := by omega
    have h0I : (0 : Int) ≤ (i : Int) := by omega
    have HX := Lib.hid hx
    clear hx
    go_enter Tryz.func119, Tryz.ntmps119
    go_wp2_with fail
    go_quiet (fail)
    go_wp2_with fail
    go_quiet (fail)
    go_wp2_with fail
    refine (HW0.out v _ hvb).mono ?_
    rintro e w1 ⟨rfl, rfl⟩
    go_wp2_with fail
    go_ret
    refine ⟨_, rfl, Int.emod_nonneg v (by omega), Int.emod_lt_of_pos v (by omega), HMK.out _ ⟨HM.out.blk, HM.out.hg, bl_drewN HM.out.bel _, HM.out.plan⟩, gb_setW (gb_drewN (gb_refl _ _) _) _ _, by rw [HNA.out]⟩
  · have hltI : ¬ (i : Int) < (n : Int) := by omega
    have HNA : Hid (nAt w0 (.slice A n c) i = 0) := by show _ = _; cases A <;> simp [nAt, hlt]
    go_enter Tryz.func119, Tryz.ntmps119
    go_wp2_with fail
    go_quiet (fail)
    go_wp2_with fail
    refine (HW0.out 0 _ (by omega)).mono ?_
    rintro e w1 ⟨rfl, rfl⟩
    go_wp2_with fail
    go_ret
    refine ⟨_, rfl, by simp, (by show 0 % of < of; rw [Int.zero_emod]; omega), HMK.out _ ⟨HM.out.blk, HM.out.hg, bl_drewN HM.out.bel _, HM.out.plan⟩, gb_setW (gb_drewN (gb_refl _ _) _) _ _, by rw [HNA.out]; simp⟩
theorem nDigits_le10 (u : Nat) (h : u ≤ 1000000000) : Lib.nDigits u ≤ 12 := by
  have := Lib.nDigits_small (u := u / 10 / 10 / 10 / 10 / 10 / 10 / 10 / 10 / 10)
  by_cases h1 : u < 10
  · rw [Lib.nDigits_small h1]; omega
  rw [Lib.nDigits_big h1]
  by_cases h2 : u / 10 < 10
  · rw [Lib.nDigits_small h2]; omega
  rw [Lib.nDigits_big h2]
  by_cases h3 : u / 10 / 10 < 10
  · rw [Lib.nDigits_small h3]; omega
  rw [Lib.nDigits_big h3]
  by_cases h4 : u / 10 / 10 / 10 < 10
  · rw [Lib.nDigits_small h4]; omega
  rw [Lib.nDigits_big h4]
  by_cases h5 : u / 10 / 10 / 10 / 10 < 10
  · rw [Lib.nDigits_small h5]; omega
  rw [Lib.nDigits_big h5]
  by_cases h6 : u / 10 / 10 / 10 / 10 / 10 < 10
  · rw [Lib.nDigits_small h6]; omega
  rw [Lib.nDigits_big h6]
  by_cases h7 : u / 10 / 10 / 10 / 10 / 10 / 10 < 10
  · rw [Lib.nDigits_small h7]; omega
  rw [Lib.nDigits_big h7]
  by_cases h8 : u / 10 / 10 / 10 / 10 / 10 / 10 / 10 < 10
  · rw [Lib.nDigits_small h8]; omega
  rw [Lib.nDigits_big h8]
  by_cases h9 : u / 10 / 10 / 10 / 10 / 10 / 10 / 10 / 10 < 10
  · rw [Lib.nDigits_small h9]; omega
  rw [Lib.nDigits_big h9, Lib.nDigits_small (by omega)]
  omega
theorem label_size (b : Nat) (h : b + 1 ≤ 1000000000) : (itoaS ((b : Int) + 1)).size ≤ 12 := by
  have e : ((b : Int) + 1) = ((b + 1 : Nat) : Int) := by omega
  rw [e]
  unfold itoaS
  rw [Lib.itoa_nonneg, ba_size, Lib.decDigits_length]
  exact nDigits_le10 (b + 1) h
theorem ch_size (S : ByteArray) (h : S.size ≤ 12) : ((⟨#[99, 104]⟩ : ByteArray) ++ S).size ≤ 14 := by
  rw [ByteArray.size_append]
  have e2 : (⟨#[99, 104]⟩ : ByteArray).size = 2 := rfl
  omega
theorem eight {w : World} {q q' : Nat} {a b c d a' b' c' d' : Value} (h : w.cell? ⟨q, 0, none⟩ = some a ∧ w.cell? ⟨q, 1, none⟩ = some b ∧ w.cell? ⟨q, 2, none⟩ = some c ∧ w.cell? ⟨q, 3, none⟩ = some d) (h' : w.cell? ⟨q', 0, none⟩ = some a' ∧ w.cell? ⟨q', 1, none⟩ = some b' ∧ w.cell? ⟨q', 2, none⟩ = some c' ∧ w.cell? ⟨q', 3, none⟩ = some d') :
    w.cell? ⟨q, 0, none⟩ = some a ∧ w.cell? ⟨q, 1, none⟩ = some b ∧ w.cell? ⟨q, 2, none⟩ = some c ∧ w.cell? ⟨q, 3, none⟩ = some d ∧ w.cell? ⟨q', 0, none⟩ = some a' ∧ w.cell? ⟨q', 1, none⟩ = some b' ∧ w.cell? ⟨q', 2, none⟩ = some c' ∧ w.cell? ⟨q', 3, none⟩ = some d' := ⟨h.1, h.2.1, h.2.2.1, h.2.2.2, h'⟩
theorem size_set3 (w : World) (p q s : Addr) (v0 v1 v2 : Value) : (((w.setCell p v0).setCell q v1).setCell s v2).heap.size = w.heap.size := by simp [World.setCell]
theorem co_le (e : Nat) (h : e ≤ 2) : co e ≤ 14 := by
  match e, h with
  | 0, _ => decide
  | 1, _ => decide
  | 2, _ => decide
theorem four_set1 {w : World} {u q : Nat} {a b c d : Value} (hq : q ≠ u) (k : Nat) (v : Value) (h : w.cell? ⟨q, 0, none⟩ = some a ∧ w.cell? ⟨q, 1, none⟩ = some b ∧ w.cell? ⟨q, 2, none⟩ = some c ∧ w.cell? ⟨q, 3, none⟩ = some d) :
    (w.setCell ⟨u, k, none⟩ v).cell? ⟨q, 0, none⟩ = some a ∧ (w.setCell ⟨u, k, none⟩ v).cell? ⟨q, 1, none⟩ = some b ∧ (w.setCell ⟨u, k, none⟩ v).cell? ⟨q, 2, none⟩ = some c ∧ (w.setCell ⟨u, k, none⟩ v).cell? ⟨q, 3, none⟩ = some d := four_gb (gb_set k v) hq h
/-- What the walk knows of smaller depths. -/
def PtIh (w0 : World) (g : Nat) (vN vW : Value) (d : Nat) : Prop := ∀ (m : Nat), m < d → m ≤ 10 → ∀ (w : World) (i : Nat) (l : Int) (b : Nat), Mk w0 g vN vW i l b w → i + cot m ≤ 1000000000 → b + cot m ≤ 1000000000 → -100 ≤ l → l ≤ 100 →
    Calls Tryz.prog 88 #[.pointer (some ⟨g, 0, none⟩), .int .i64 m] w (TmPost w0 g vN vW i l b m w)
end Go.Proofs.YtapbkomicihkkaaGreatDoor
