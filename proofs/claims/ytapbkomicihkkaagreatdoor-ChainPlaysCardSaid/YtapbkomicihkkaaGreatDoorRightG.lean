/- A plan's contract, one that may be. -/
import Derived.Test.YtapbkomicihkkaaGreatDoorPlan1
import Derived.Lib.OthersKept
import Derived.Test.YtapbkomicihkkaaGreatDoorConv1
import Derived.Deep.RegionHeld3
import Derived.Test.YtapbkomicihkkaaGreatDoorPtA
import Derived.Test.YtapbkomicihkkaaGreatDoorPtB
import Derived.Test.YtapbkomicihkkaaGreatDoorPtC
import Derived.Test.YtapbkomicihkkaaGreatDoorPtD
import Derived.Test.YtapbkomicihkkaaGreatDoorPtE
import Derived.Test.YtapbkomicihkkaaGreatDoorPtF
namespace Go.Proofs.YtapbkomicihkkaaGreatDoor
open Go.RowKit
set_option linter.unusedVariables false
set_option linter.unusedSimpArgs false

theorem rletter_calls (r : Int) (w : World) :
  Calls Tryz.prog 109 #[.int .i32 r] w fun e w' => e = .returned (.bool (letterB r)) ∧ w = w' := by
 go_enter Tryz.func109, Tryz.ntmps109
 go_wp2_with fail
 all_goals go_ret
 all_goals
  refine ⟨ret_bool ?_, rfl⟩
  rw [Bool.eq_iff_iff]
  simp [letterB] at *
  try omega
theorem rvalid_calls (n : Int) (w : World) :
  Calls Tryz.prog 46 #[.int .i64 n] w fun e w' => e = .returned (.bool (validB n)) ∧ w = w' := by
 go_enter Tryz.func46, Tryz.ntmps46
 go_wp2_with fail
 all_goals go_ret
 all_goals
  refine ⟨ret_bool ?_, rfl⟩
  rw [Bool.eq_iff_iff]
  simp [validB] at *
  try omega
def ints (l : List Int) : List Value := l.map fun r => .int .i32 r
theorem ints_length (l : List Int) : (ints l).length = l.length := by simp [ints]
theorem info_i32 : (Tryz.prog.info? 21).map (fun i => (i.zero, i.size, i.bytes)) = some (some (.int .i32 0), 1, 4) := by kernel_rfl
theorem bs_i32 (x : Int) (W : World) : (Instr.buildSlice 178 1 #[(0, .int .i32 x)]).run Tryz.prog W = .ok (.slice (some ⟨W.heap.size, 0, none⟩) 1 1) (W.alloc (.cells #[.int .i32 x] 21)) := by kernel_rfl
theorem gb_iterAt (W : World) (k : Nat) (s : ByteArray) (p : Nat) : W.grownBy (W.iterAt k s p) (some k) :=
 ⟨rfl, rfl, rfl, by simp [World.iterAt], fun i hi hne => by
  have hk : k ≠ i := fun e => hne (by rw [e])
  show (W.heap.setIfInBounds k _)[i]? = _
  rw [Array.getElem?_setIfInBounds_ne hk]⟩
theorem iterAt_self {W : World} {k : Nat} {o : Obj} (h : W.heap[k]? = some o) (s : ByteArray) (p : Nat) : (W.iterAt k s p).heap[k]? = some (.stringIter s p) := by
 have hk : k < W.heap.size := (Array.getElem?_eq_some_iff.1 h).1
 show (W.heap.setIfInBounds k _)[k]? = _
 rw [Array.getElem?_setIfInBounds_self_of_lt hk]
theorem Own.ne_iter {w0 W : World} {e size n g : Nat} {v : Value} {xs : List Value} {s : ByteArray} {p : Nat} (h : Own w0 W e size v n xs) (hb : W.heap[g]? = some (.stringIter s p)) : v.ownBlock ≠ some g := by
 intro hv
 rcases h.2 with ⟨h1, _⟩ | ⟨g', cap, cur, h1, _, hh, _⟩
 ·rw [h1] at hv; simp [Value.ownBlock] at hv
 ·rw [h1] at hv
  simp [Value.ownBlock] at hv
  subst hv
  rw [hb] at hh
  cases hh
theorem ints_snoc (l : List Int) (x : Int) : ints l ++ [.int .i32 x] = ints (l ++ [x]) := by simp [ints]
/-- It returns runes, in a row of its own. -/
def RetInts (w : World) (l : List Int) (e : Ending) (w' : World) : Prop := ∃ v, e = .returned v ∧ Own w w' 21 1 v l.length (ints l) ∧ Below w.heap.size w w'
set_option maxRecDepth 100000 in
set_option maxHeartbeats 1000000 in
theorem rrunes_calls (s : ByteArray) (hs : s.size ≤ 1000000) (w : World) :
  Calls Tryz.prog 108 #[.string s] w (RetInts w (runesL s)) := by
 have hb1 := bs_i32
 go_enter Tryz.func108, Tryz.ntmps108
 go_wp2_with fail
 go_loopw [3] (fun v wr => ∃ (pos b : Nat) (acc : List Int), Own w wr 21 1 v acc.length (ints acc) ∧ Below w.heap.size w wr ∧ wr.heap[w.heap.size]? = some (.stringIter s pos) ∧ acc ++ runesF s b pos = runesL s ∧ s.size ≤ pos + b) (fun _ wr => s.size - wr.iterPos w.heap.size)
 case atStart => exact ⟨0, s.size, [], Own.nil _ _ _ _, bl_alloc (bl_refl w) _, by rw [World.iter_heap], rfl, by omega⟩
 case round =>
  obtain ⟨pos, b, acc, HO, HB, HI, hc, hb⟩ := hrel
  have hlen : acc.length ≤ s.size := by
   have h1 := congrArg List.length hc
   rw [List.length_append] at h1
   have h2 := runesF_length s s.size 0
   unfold runesL at h1
   omega
  have HC := Lib.hid hc
  clear hc
  by_cases hp : pos < s.size
  ·have hwd := width_pos s pos hp
   have hnx : ∀ ty, (Instr.next (.pointer (some ⟨w.heap.size, 0, none⟩)) true ty).run Tryz.prog wr = _ := fun ty => Lib.run_next_any_at wr w.heap.size s pos ty HI hp
   obtain ⟨b, rfl⟩ : ∃ c, b = c + 1 := ⟨b - 1, by omega⟩
   have hst := runesF_step s b pos hp
   have HS := Lib.hid hst
   clear hst
   have HO2 := HO.kept (gb_iterAt wr w.heap.size s (pos + (Utf8.decode s pos).2)) (.inr (HO.ne_iter HI))
   have HB2 := bl_grown HB (gb_iterAt wr w.heap.size s (pos + (Utf8.decode s pos).2)) (Nat.le_refl _)
   have HI2 := iterAt_self HI s (pos + (Utf8.decode s pos).2)
   have hIP : wr.iterPos w.heap.size = pos := by simp [World.iterPos, HI]
   clear HO HB HI
   generalize wr.iterAt w.heap.size s (pos + (Utf8.decode s pos).2) = wi at *
   have hll := ints_length acc
   generalize hr : ((Utf8.decode s pos).1 : Int) = r at *
   go_wp2_with (at_builtin; refine append_oneG (w0 := w) rfl _ _ 178 21 _ 4 rfl Tryz.underlying178 info_i32 rfl _ _ _ _ _ HO2 HB2 rfl rfl (by simp) rfl (by omega) (by omega) ?_; intro v1 w1 HO3 HB3 HG3)
   have hI3 : w1.heap[w.heap.size]? = some (.stringIter s (pos + (Utf8.decode s pos).2)) := (HG3.block _ (Array.getElem?_eq_some_iff.1 HI2).1 (fun h => HO2.ne_iter HI2 h.symm)).trans HI2
   go_roundw
   case rel =>
    refine ⟨pos + (Utf8.decode s pos).2, b, acc ++ [r], ?_, HB3, hI3, ?_, by omega⟩
    ·rw [← ints_snoc, List.length_append]; exact HO3
    ·rw [← HC.out, HS.out, ← hr]; simp
   case measure =>
    have h1 : w1.iterPos w.heap.size = pos + (Utf8.decode s pos).2 := by simp [World.iterPos, hI3]
    rw [h1, hIP]; omega
  ·have hnx : ∀ ty, (Instr.next (.pointer (some ⟨w.heap.size, 0, none⟩)) true ty).run Tryz.prog wr = _ := fun ty => Lib.run_next_end_at wr w.heap.size s pos ty HI hp
   have hend := runesF_end s b pos hp
   have hc := HC.out
   rw [hend, List.append_nil] at hc
   subst hc
   clear HC hend
   have HOX := Lib.hid HO
   clear HO
   go_wp2_with fail
   go_ret
   exact ⟨_, rfl, HOX.out, HB⟩
theorem nameF_iff : ∀ (l : List Int) (n : Nat), n ≤ 12 → (nameF n l = true ↔ (∀ r ∈ l, letterB r = true) ∧ (n = 0 → ∀ r, l.head? = some r → digitB r = false) ∧ 0 < n + l.length ∧ n + l.length ≤ 12)
 | [], n, hn => by simp [nameF]; omega
 | r :: l, n, hn => by
  unfold nameF
  by_cases h12 : n = 12
  ·subst h12
   simp
  ·have ih := nameF_iff l (n + 1) (by omega)
   cases hl : letterB r with
   | false => simp [hl]
   | true =>
    by_cases h0 : n = 0
    ·subst h0
     cases hd : digitB r with
     | true => simp [hl, hd]
     | false =>
      have e1 : (decide (12 < 0 + 1)) = false := by decide
      simp only [hl, hd, Bool.not_true, Bool.and_false, Bool.false_or, e1]
      simp only [Bool.false_eq_true, if_false]
      rw [ih]
      constructor
      ·rintro ⟨h1, _, h3, h4⟩
       refine ⟨fun x hx => ?_, fun _ x hx => ?_, by simp, by simp at h4 ⊢; omega⟩
       ·rcases List.mem_cons.1 hx with rfl | hx
        ·exact hl
        ·exact h1 x hx
       ·simp at hx; rw [← hx]; exact hd
      ·rintro ⟨h1, _, h3, h4⟩
       exact ⟨fun x hx => h1 x (List.mem_cons_of_mem _ hx), fun h => by omega, by omega, by simp at h4 ⊢; omega⟩
    ·have e0 : (n == 0) = false := by simpa using h0
     have e1 : (decide (12 < n + 1)) = false := by simp; omega
     simp only [hl, e0, Bool.not_true, Bool.false_and, Bool.false_or, e1]
     simp only [Bool.false_eq_true, if_false]
     rw [ih]
     constructor
     ·rintro ⟨h1, _, h3, h4⟩
      refine ⟨fun x hx => ?_, fun h => absurd h h0, by simp; omega, by simp at h4 ⊢; omega⟩
      rcases List.mem_cons.1 hx with rfl | hx
      ·exact hl
      ·exact h1 x hx
     ·rintro ⟨h1, _, h3, h4⟩
      exact ⟨fun x hx => h1 x (List.mem_cons_of_mem _ hx), fun h => by omega, by omega, by simp at h4 ⊢; omega⟩
theorem nameB_iff (s : ByteArray) : nameB s = true ↔ (∀ r ∈ runesL s, letterB r = true) ∧ (∀ r, (runesL s).head? = some r → digitB r = false) ∧ 0 < (runesL s).length ∧ (runesL s).length ≤ 12 := by
 unfold nameB
 rw [nameF_iff _ _ (by omega)]
 simp
theorem nameB_no_letter {s : ByteArray} {r : Int} {k : Nat} (h : (runesL s)[k]? = some r) (hl : letterB r = false) : nameB s = false := by
 cases hn : nameB s with
 | false => rfl
 | true => have := ((nameB_iff s).1 hn).1 r (List.mem_of_getElem? h); rw [hl] at this; cases this
theorem nameB_digit {s : ByteArray} {r : Int} (h : (runesL s)[0]? = some r) (hl : digitB r = true) : nameB s = false := by
 cases hn : nameB s with
 | false => rfl
 | true => have := ((nameB_iff s).1 hn).2.1 r (by rw [List.head?_eq_getElem?]; exact h); rw [hl] at this; cases this
theorem nameB_len {s : ByteArray} (h : (runesL s).length = 0 ∨ 12 < (runesL s).length) : nameB s = false := by
 cases hn : nameB s with
 | false => rfl
 | true => have := ((nameB_iff s).1 hn).2.2; omega
theorem addr_zero (a : Addr) : a.add 0 = a := by unfold Addr.add; split <;> simp_all
theorem ints_get (l : List Int) (j : Nat) (h : j < l.length) : (ints l)[j]? = some (.int .i32 l[j]) := by simp [ints, h]
set_option maxRecDepth 100000 in
set_option maxHeartbeats 1000000 in
theorem rname_calls (s : ByteArray) (hs : s.size ≤ 1000000) (w : World) :
  Calls Tryz.prog 79 #[.string s] w fun e w' => e = .returned (.bool (nameB s)) ∧ Below w.heap.size w w' := by
 have hr := rrunes_calls s hs w
 go_enter Tryz.func79, Tryz.ntmps79
 go_wp2_with fail
 refine hr.mono ?_
 intro e w1 hq
 obtain ⟨v, rfl, HO, hb⟩ := hq
 obtain ⟨A, c, rfl, HR, hc, _⟩ := HO.read
 have hll : (runesL s).length ≤ s.size := by
  have h2 := runesF_length s s.size 0
  unfold runesL; exact h2
 clear hr HO
 go_wp2_with fail
 go_loopw [9] (fun i wr => ∃ k : Nat, k ≤ (runesL s).length ∧ i = .int .i64 k ∧ (∀ r ∈ (runesL s).take k, letterB r = true) ∧ (0 < k → ∀ r, (runesL s)[0]? = some r → digitB r = false) ∧ wr = w1) (fun i _ => (runesL s).length - (intOf i).toNat)
 case atStart => exact ⟨0, Nat.zero_le _, rfl, by simp, fun h => by omega, rfl⟩
 case round =>
  obtain ⟨k, hk, rfl, hL, hD, rfl⟩ := hrel
  have HL := Lib.hid hL; have HD := Lib.hid hD
  clear hL hD
  by_cases hlt : k < (runesL s).length
  ·obtain ⟨ad, rfl, hcell⟩ := HR k _ (ints_get _ _ hlt)
   have HRR := Lib.hid HR
   clear HR
   have hxk : (runesL s)[k]? = some (runesL s)[k] := List.getElem?_eq_getElem hlt
   generalize hx : (runesL s)[k] = x at *
   have HX := Lib.hid hxk
   clear hxk hx
   have hltI : (k : Int) < ((runesL s).length : Int) := by omega
   have h0I : (0 : Int) ≤ (k : Int) := by omega
   cases hlet : letterB x with
   | false =>
    go_wp2_with fail
    refine (rletter_calls _ _).mono ?_
    rintro e wq ⟨rfl, rfl⟩
    go_wp2_with fail
    go_ret
    exact ⟨ret_bool (nameB_no_letter HX.out hlet).symm, hb⟩
   | true =>
    by_cases hk0 : k = 0
    ·subst hk0
     have hc0 : wr.cell? ad = some (.int .i32 x) := by rw [addr_zero] at hcell; exact hcell
     by_cases hd : digitB x = true
     ·have hd2 := hd
      unfold digitB at hd2
      have hd3 := of_decide_eq_true hd2
      have hd4 : (48 : Int) ≤ x := hd3.1
      have hd5 : x ≤ (57 : Int) := hd3.2
      clear hd2 hd3
      go_wp2_with fail
      refine (rletter_calls _ _).mono ?_
      rintro e wq ⟨rfl, rfl⟩
      go_wp2_with fail
      go_ret
      exact ⟨ret_bool (nameB_digit HX.out hd).symm, hb⟩
     ·have hd2 : digitB x = false := by simpa using hd
      have hd3 : ¬ (48 ≤ x ∧ x ≤ 57) := by unfold digitB at hd2; exact of_decide_eq_false hd2
      have HD2 := Lib.hid hd2
      clear hd hd2
      by_cases h48 : (48 : Int) ≤ x
      ·have h57 : ¬ x ≤ (57 : Int) := fun h => hd3 ⟨h48, h⟩
       clear hd3
       go_wp2_with fail
       refine (rletter_calls _ _).mono ?_
       rintro e wq ⟨rfl, rfl⟩
       go_wp2_with fail
       go_roundw
       case rel =>
        refine ⟨1, by omega, by go_num, fun r hr => ?_, fun _ r hr => ?_, by trivial⟩
        ·rw [List.take_one] at hr; rw [List.head?_eq_getElem?, HX.out] at hr; simp at hr; rw [hr]; exact hlet
        ·rw [HX.out] at hr; injection hr with hr; rw [← hr]; exact HD2.out
       case measure => simp [intOf]; omega
      ·clear hd3
       go_wp2_with fail
       refine (rletter_calls _ _).mono ?_
       rintro e wq ⟨rfl, rfl⟩
       go_wp2_with fail
       go_roundw
       case rel =>
        refine ⟨1, by omega, by go_num, fun r hr => ?_, fun _ r hr => ?_, by trivial⟩
        ·rw [List.take_one] at hr; rw [List.head?_eq_getElem?, HX.out] at hr; simp at hr; rw [hr]; exact hlet
        ·rw [HX.out] at hr; injection hr with hr; rw [← hr]; exact HD2.out
       case measure => simp [intOf]; omega
    ·have hk0I : ¬ (k : Int) = 0 := by omega
     go_wp2_with fail
     refine (rletter_calls _ _).mono ?_
     rintro e wq ⟨rfl, rfl⟩
     go_wp2_with fail
     go_roundw
     case rel =>
      refine ⟨k + 1, by omega, by go_num, fun r hr => ?_, fun _ => HD.out (by omega), by trivial⟩
      rw [List.take_add_one, List.mem_append] at hr
      rcases hr with hr | hr
      ·exact HL.out r hr
      ·rw [HX.out] at hr; simp at hr; rw [hr]; exact hlet
     case measure => simp [intOf]; omega
  ·obtain rfl : k = (runesL s).length := by omega
   have hall : ∀ r ∈ runesL s, letterB r = true := by have h := HL.out; rw [List.take_length] at h; exact h
   have hdd := HD.out
   have hiff := nameB_iff s
   have HA := Lib.hid hall; have HDD := Lib.hid hdd; have HIF := Lib.hid hiff
   clear hall hdd hiff HL HD
   by_cases h1 : 1 ≤ (runesL s).length
   ·have h1I : (1 : Int) ≤ ((runesL s).length : Int) := by omega
    by_cases h12 : (runesL s).length ≤ 12
    ·have h12I : ((runesL s).length : Int) ≤ 12 := by omega
     go_wp2_with fail
     go_ret
     exact ⟨ret_bool (HIF.out.2 ⟨HA.out, fun r hr => HDD.out (by omega) r (by rw [← List.head?_eq_getElem?]; exact hr), by omega, h12⟩).symm, hb⟩
    ·have h12I : ¬ ((runesL s).length : Int) ≤ 12 := by omega
     go_wp2_with fail
     go_ret
     exact ⟨ret_bool (nameB_len (.inr (by omega))).symm, hb⟩
   ·have h1I : ¬ (1 : Int) ≤ ((runesL s).length : Int) := by omega
    go_wp2_with fail
    go_ret
    exact ⟨ret_bool (nameB_len (.inl (by omega))).symm, hb⟩
mutual
def Tr.size : Tr → Nat
 | .mk _ _ _ ks => Tr.sizeAll ks + 1
def Tr.sizeAll : List Tr → Nat
 | [] => 0
 | t :: ts => t.size + Tr.sizeAll ts
end
theorem Tr.size_kid : ∀ (ks : List Tr) (i : Nat) (h : i < ks.length), ks[i].size ≤ Tr.sizeAll ks
 | t :: ts, 0, _ => by simp [Tr.sizeAll]
 | t :: ts, i + 1, h => by
  have := Tr.size_kid ts i (by simpa using h)
  simp only [List.getElem_cons_succ, Tr.sizeAll]; omega
theorem Tr.size_pos (t : Tr) : 1 ≤ t.size := by cases t; unfold Tr.size; omega
theorem Tr.len_size : ∀ (ks : List Tr), ks.length ≤ Tr.sizeAll ks
 | [] => by simp
 | t :: ts => by have := Tr.len_size ts; have := t.size_pos; simp only [List.length_cons, Tr.sizeAll]; omega
/-- What a tree's own fields may be, for the walks: a name not too long, numbers of 64 bits. -/
def nodeOk (k : Int) (s : ByteArray) (n : Int) : Prop := (-9223372036854775808 ≤ k ∧ k ≤ 9223372036854775807) ∧ s.size ≤ 1000000 ∧ (-9223372036854775808 ≤ n ∧ n ≤ 9223372036854775807)
mutual
def Tr.ok : Tr → Prop
 | .mk k s n ks => nodeOk k s n ∧ Tr.okAll ks
def Tr.okAll : List Tr → Prop
 | [] => True
 | t :: ts => t.ok ∧ Tr.okAll ts
end
theorem Tr.ok_kid : ∀ (ks : List Tr), Tr.okAll ks → ∀ (i : Nat) (h : i < ks.length), ks[i].ok
 | t :: ts, ho, 0, _ => by unfold Tr.okAll at ho; exact ho.1
 | t :: ts, ho, i + 1, h => by unfold Tr.okAll at ho; exact Tr.ok_kid ts ho.2 i (by simpa using h)
theorem TrsAt.get {x : Nat} {w : World} : ∀ {ts : List Tr} {cs : List Value}, TrsAt x w ts cs → ∀ (i : Nat) (h : i < ts.length), ∃ c0 c1 c2 c3, cs[i * 4]? = some c0 ∧ cs[i * 4 + 1]? = some c1 ∧ cs[i * 4 + 2]? = some c2 ∧ cs[i * 4 + 3]? = some c3 ∧ TrAt x w ts[i] (.agg #[c0, c1, c2, c3])
 | [], cs, _, i, h => by simp at h
 | t :: ts, cs, ht, 0, _ => by
  obtain ⟨c0, c1, c2, c3, rest, rfl, h0, _⟩ := ht.uncons
  exact ⟨c0, c1, c2, c3, rfl, rfl, rfl, rfl, h0⟩
 | t :: ts, cs, ht, i + 1, h => by
  obtain ⟨c0, c1, c2, c3, rest, rfl, _, hr⟩ := ht.uncons
  obtain ⟨d0, d1, d2, d3, h0, h1, h2, h3, hh⟩ := hr.get i (by simpa using h)
  exact ⟨d0, d1, d2, d3, by rw [show (i + 1) * 4 = i * 4 + 4 by omega]; exact h0, by rw [show (i + 1) * 4 + 1 = i * 4 + 1 + 4 by omega]; exact h1, by rw [show (i + 1) * 4 + 2 = i * 4 + 2 + 4 by omega]; exact h2, by rw [show (i + 1) * 4 + 3 = i * 4 + 3 + 4 by omega]; exact h3, hh⟩
/-- The parts of a tree in memory, one by one. -/
structure KidAt (x : Nat) (w : World) (A : Option Addr) (t : Tr) (i : Nat) (q : Nat) (c0 c1 c2 c3 : Value) : Prop where
 at_ : A = some ⟨q, 0, none⟩
 h0 : w.cell? ⟨q, i * 4, none⟩ = some c0
 h1 : w.cell? ⟨q, i * 4 + 1, none⟩ = some c1
 h2 : w.cell? ⟨q, i * 4 + 2, none⟩ = some c2
 h3 : w.cell? ⟨q, i * 4 + 3, none⟩ = some c3
 tr : TrAt x w t (.agg #[c0, c1, c2, c3])
theorem kid_at {x : Nat} {w : World} {A : Option Addr} {cs : List Value} {ts : List Tr} (hr : RowOf x w A cs) (ht : TrsAt x w ts cs) (i : Nat) (h : i < ts.length) : ∃ q c0 c1 c2 c3, KidAt x w A ts[i] i q c0 c1 c2 c3 := by
 obtain ⟨c0, c1, c2, c3, h0, h1, h2, h3, hh⟩ := ht.get i h
 rcases hr with ⟨_, rfl⟩ | ⟨b, rfl, _, hb⟩
 ·simp at h0
 ·exact ⟨b, c0, c1, c2, c3, rfl, hb _ _ h0, hb _ _ h1, hb _ _ h2, hb _ _ h3, hh⟩
theorem TrsAt.below {x : Nat} {w w' : World} {ts : List Tr} {cs : List Value} (h : TrsAt x w ts cs) (hb : Below w.heap.size w w') : TrsAt x w' ts cs := TrsAt.keep (fun _ _ h => h.below hb) ts cs h
/-- A tree's own form. -/
def ownF (k : Int) (s : ByteArray) (n : Int) : Bool :=
 if k = 1 ∨ k = 3 ∨ k = 4 ∨ k = 14 ∨ k = 13 ∨ k = 15 ∨ k = 16 ∨ k = 6 ∨ k = 8 then true
 else if k = 2 ∨ k = 5 ∨ k = 12 then nameB s else if k = 7 then dayB n else if k = 11 then validB n else false
def flagF (k : Int) (num : Bool) (i : Nat) : Bool := num || (i == 0 && (k == 6 || k == 8))
mutual
def Tr.form : Tr → Bool → Bool
 | .mk k s n ks, num => ownF k s n && (decide (11 ≤ k) == num && Tr.formAll k num 0 ks)
def Tr.formAll (k : Int) (num : Bool) : Nat → List Tr → Bool
 | _, [] => true
 | i, t :: ts => t.form (flagF k num i) && Tr.formAll k num (i + 1) ts
end
theorem Tr.formAll_true (k : Int) (num : Bool) : ∀ (ts : List Tr) (i : Nat), (∀ j (h : j < ts.length), ts[j].form (flagF k num (i + j)) = true) → Tr.formAll k num i ts = true
 | [], _, _ => by simp [Tr.formAll]
 | t :: ts, i, h => by
  unfold Tr.formAll
  rw [Bool.and_eq_true]
  exact ⟨by have h0 := h 0 (by simp); simp only [List.getElem_cons_zero, Nat.add_zero] at h0; exact h0, Tr.formAll_true k num ts (i + 1) (fun j hj => by have := h (j + 1) (by simpa using hj); simpa [show i + 1 + j = i + (j + 1) by omega] using this)⟩
theorem Tr.formAll_false (k : Int) (num : Bool) : ∀ (ts : List Tr) (i j : Nat) (h : j < ts.length), ts[j].form (flagF k num (i + j)) = false → Tr.formAll k num i ts = false
 | t :: ts, i, 0, _, hf => by unfold Tr.formAll; rw [Bool.and_eq_false_iff]; left; simp only [List.getElem_cons_zero, Nat.add_zero] at hf; exact hf
 | t :: ts, i, j + 1, h, hf => by
  unfold Tr.formAll
  rw [Bool.and_eq_false_iff]; right
  exact Tr.formAll_false k num ts (i + 1) j (by simpa using h) (by simpa [show i + 1 + j = i + (j + 1) by omega] using hf)
def RetB (w : World) (b : Bool) (e : Ending) (w' : World) : Prop := e = .returned (.bool b) ∧ Below w.heap.size w w'
set_option maxRecDepth 100000 in
set_option maxHeartbeats 2000000 in
theorem rform_calls (B : Nat) (hB : B ≤ 1000000) : ∀ (t : Tr), t.size ≤ B → t.ok → ∀ (num : Bool) (x : Nat) (w : World) (v : Value), TrAt x w t v → Calls Tryz.prog 110 #[v, .bool num] w (RetB w (t.form num)) := by
 induction B with
 | zero => intro t h; have := t.size_pos; omega
 | succ B ih =>
  intro t hsz hok num x w v ht
  obtain ⟨A, c, cs, rfl, hrow, hts⟩ := ht.open_
  clear ht
  cases t with
  | mk k s n ks =>
  unfold Tr.size at hsz
  unfold Tr.ok at hok
  simp only [Tr.kind, Tr.s, Tr.n, Tr.ks] at *
  have hlen := Tr.len_size ks
  have hF : Hid (Tr.form (.mk k s n ks) num = (ownF k s n && (decide (11 ≤ k) == num && Tr.formAll k num 0 ks))) := by show _ = _; unfold Tr.form; rfl
  have IH := Lib.hid (fun i (h : i < ks.length) => ih (by omega) ks[i] (by have := Tr.size_kid ks i h; omega) (Tr.ok_kid ks hok.2 i h))
  obtain ⟨W1, hW1⟩ : ∃ W1, w.alloc (.cells #[.int .i64 k, .string s, .int .i64 n, .slice A ks.length c] 33) = W1 := ⟨_, rfl⟩
  have hk := Blk.new w #[.int .i64 k, .string s, .int .i64 n, .slice A ks.length c] 33
  have hbA := bl_alloc (bl_refl w) (.cells #[.int .i64 k, .string s, .int .i64 n, .slice A ks.length c] 33)
  rw [hW1] at hk hbA
  obtain ⟨k0, k1, k2, k3⟩ := hk.fours
  have HW1 := Lib.hid hW1; have HK := Lib.hid hk
  have HROW := Lib.hid (hrow.below hbA); have HTS := Lib.hid (hts.below hbA)
  clear hW1 hk hrow hts ih
  unfold RetB at *
  obtain ⟨⟨hkb, hsb, hnb⟩, hoks⟩ := hok
  clear hoks
  go_enter Tryz.func110, Tryz.ntmps110
  go_upto_block 0 with (rw [HW1.out])
  go_cut [] (fun wx => ownF k s n = true ∧ Below W1.heap.size W1 wx)
  case first =>
   by_cases hA : k = 1 ∨ k = 3 ∨ k = 4 ∨ k = 14 ∨ k = 13 ∨ k = 15 ∨ k = 16 ∨ k = 6 ∨ k = 8
   ·have hO : ownF k s n = true := by unfold ownF; rw [if_pos hA]
    have HO := Lib.hid hO
    clear hO
    rcases hA with rfl | rfl | rfl | rfl | rfl | rfl | rfl | rfl | rfl
    all_goals go_wp2_with fail
    all_goals go_meet
    all_goals exact ⟨HO.out, bl_refl W1⟩
   ·by_cases hN : k = 2 ∨ k = 5 ∨ k = 12
    ·have hO : ownF k s n = nameB s := by unfold ownF; rw [if_neg hA, if_pos hN]
     have HO := Lib.hid hO
     have hnm := rname_calls s hsb W1
     clear hO hA
     cases hv : nameB s with
     | true =>
      rw [hv] at HO hnm
      rcases hN with rfl | rfl | rfl
      all_goals go_wp2_with fail
      all_goals refine hnm.mono ?_
      all_goals rintro e wq ⟨rfl, hbq⟩
      all_goals go_wp2_with fail
      all_goals go_meet
      all_goals exact ⟨HO.out, hbq⟩
     | false =>
      rw [hv] at HO hnm
      rw [HO.out, Bool.false_and] at hF
      rcases hN with rfl | rfl | rfl
      all_goals go_wp2_with fail
      all_goals refine hnm.mono ?_
      all_goals rintro e wq ⟨rfl, hbq⟩
      all_goals go_wp2_with fail
      all_goals go_ret
      all_goals exact ⟨ret_bool hF.out.symm, bl_step hbq hbA⟩
    ·by_cases h7 : k = 7
     ·have hO : ownF k s n = dayB n := by unfold ownF; rw [if_neg hA, if_neg hN, if_pos h7]
      have HO := Lib.hid hO
      clear hO hA hN
      subst h7
      by_cases hn0 : n < 0
      ·have hd : dayB n = false := by unfold dayB; simp; omega
       rw [HO.out, hd, Bool.false_and] at hF
       clear hd HO
       go_wp2_with fail
       go_ret
       exact ⟨ret_bool hF.out.symm, hbA⟩
      ·by_cases hn1 : 10000 < n
       ·have hd : dayB n = false := by unfold dayB; simp; omega
        rw [HO.out, hd, Bool.false_and] at hF
        clear hd HO
        go_wp2_with fail
        go_ret
        exact ⟨ret_bool hF.out.symm, hbA⟩
       ·have hd : dayB n = true := by unfold dayB; simp; omega
        have HD := Lib.hid (HO.out.trans hd)
        clear hd HO
        go_wp2_with fail
        go_meet
        exact ⟨HD.out, bl_refl W1⟩
     ·by_cases h11 : k = 11
      ·have hO : ownF k s n = validB n := by unfold ownF; rw [if_neg hA, if_neg hN, if_neg h7, if_pos h11]
       have HO := Lib.hid hO
       have hvl := rvalid_calls n W1
       clear hO hA hN h7
       subst h11
       cases hv : validB n with
       | true =>
        rw [hv] at HO hvl
        go_wp2_with fail
        refine hvl.mono ?_
        rintro e wq ⟨rfl, rfl⟩
        go_wp2_with fail
        go_meet
        exact ⟨HO.out, bl_refl W1⟩
       | false =>
        rw [hv] at HO hvl
        rw [HO.out, Bool.false_and] at hF
        go_wp2_with fail
        refine hvl.mono ?_
        rintro e wq ⟨rfl, rfl⟩
        go_wp2_with fail
        go_ret
        exact ⟨ret_bool hF.out.symm, hbA⟩
      ·have hO : ownF k s n = false := by unfold ownF; rw [if_neg hA, if_neg hN, if_neg h7, if_neg h11]
       rw [hO, Bool.false_and] at hF
       obtain ⟨a1, a2, a3, a4, a5, a6, a7, a8, a9⟩ : k ≠ 1 ∧ k ≠ 3 ∧ k ≠ 4 ∧ k ≠ 14 ∧ k ≠ 13 ∧ k ≠ 15 ∧ k ≠ 16 ∧ k ≠ 6 ∧ k ≠ 8 := by omega
       obtain ⟨b1, b2, b3⟩ : k ≠ 2 ∧ k ≠ 5 ∧ k ≠ 12 := by omega
       clear hO hA hN
       go_wp2_with fail
       go_ret
       exact ⟨ret_bool hF.out.symm, hbA⟩
  obtain ⟨hO, hbW⟩ := hcut
  rename World => wO
  rw [hO, Bool.true_and] at hF
  have hkW := HK.out.below hbW
  obtain ⟨k0, k1, k2, k3⟩ := hkW.fours
  have HROW2 := Lib.hid (HROW.out.below hbW); have HTS2 := Lib.hid (HTS.out.below hbW); have HKW := Lib.hid hkW; have hbO := bl_step hbW hbA
  clear hkW HROW HTS HK hO
  by_cases hd : decide (11 ≤ k) = num
  ·rw [hd, beq_self_eq_true, Bool.true_and] at hF
   by_cases h11 : 11 ≤ k
   ·have hn : num = true := by rw [← hd]; exact decide_eq_true h11
    subst hn
    clear hd
    go_wp2_with fail
    go_loopw [50] (fun i wr => ∃ j : Nat, j ≤ ks.length ∧ i = .int .i64 j ∧ Below wO.heap.size wO wr ∧ Hid (∀ m (h : m < ks.length), m < j → ks[m].form (flagF k true m) = true)) (fun i _ => ks.length - (intOf i).toNat)
    case atStart => exact ⟨0, Nat.zero_le _, rfl, bl_refl wO, Lib.hid fun m hm h => by omega⟩
    case round =>
     clear k0 k1 k2 k3
     obtain ⟨j, hj, rfl, hbR, HALL⟩ := hrel
     by_cases hlt : j < ks.length
     ·obtain ⟨q, c0, c1, c2, c3, hK⟩ := kid_at (HROW2.out.below hbR) (HTS2.out.below hbR) j hlt
      obtain ⟨rfl, h0, h1, h2, h3, hT⟩ := hK
      obtain ⟨k0, k1, k2, k3⟩ := (HKW.out.below hbR).fours
      have HT := Lib.hid hT
      clear hT
      have hltI : (j : Int) < (ks.length : Int) := by omega
      have h0I : (0 : Int) ≤ (j : Int) := by omega
      have hfl : flagF (k) true j = true := rfl
      have hih := fun x w v ht => IH.out j hlt (flagF (k) true j) x w v ht
      have hall := HALL.out
      have HFB := Lib.hid (show ks[j].form (flagF (k) true j) = ks[j].form (flagF (k) true j) from rfl)
      rw [hfl] at hih
      have HFL := Lib.hid hfl
      cases hv : ks[j].form (flagF (k) true j) with
      | true =>
       rw [hfl] at hv
       rw [hv] at hih
       have HIH := Lib.hid hih; have HV := Lib.hid hv
       clear hih hv hfl hall
       go_upto_region 28 with fail
       refine wp_region_noPanic ?_
       refine wp_region_held_drew (S := (fun w' => w'.cell? ⟨w.heap.size, 0, none⟩ = some (.int .i64 (k)) ∧ w'.cell? ⟨w.heap.size, 3, none⟩ = some (.slice (some ⟨q, 0, none⟩) ks.length c) ∧ w'.cell? ⟨q, j * 4, none⟩ = some c0 ∧ w'.cell? ⟨q, j * 4 + 1, none⟩ = some c1 ∧ w'.cell? ⟨q, j * 4 + 2, none⟩ = some c2 ∧ w'.cell? ⟨q, j * 4 + 3, none⟩ = some c3)) (by kernel_rfl) ⟨k0, k3, h0, h1, h2, h3⟩ (fun hH0 => ?_)
       refine tkx 0 rfl ?_ (hw := by kernel_rfl)
       refine tkx 1 rfl ?_ (hw := by kernel_rfl)
       refine tkx 2 rfl ?_ (hw := by kernel_rfl)
       refine tkx 3 rfl ?_ (hw := by kernel_rfl)
       refine tkx 4 rfl ?_ (hw := by kernel_rfl)
       refine tkx 5 rfl ?_ (hw := by kernel_rfl)
       refine tkx 6 rfl ?_ (hw := by kernel_rfl)
       refine tkn 7 rfl ?_ (hw := by kernel_rfl)
       refine tkn 8 rfl ?_ (hw := by kernel_rfl)
       refine tkn 9 rfl ?_ (hw := by kernel_rfl)
       refine tkn 10 rfl ?_ (hw := by kernel_rfl)
       refine tkn 11 rfl ?_ (hw := by kernel_rfl)
       refine tkn 12 rfl ?_ (hw := by kernel_rfl)
       refine tkn 13 rfl ?_ (hw := by kernel_rfl)
       refine tkn 14 rfl ?_ (hw := by kernel_rfl)
       refine tkn 15 rfl ?_ (hw := by kernel_rfl)
       refine tkn 16 rfl ?_ (hw := by kernel_rfl)
       refine tkn 17 rfl ?_ (hw := by kernel_rfl)
       refine tkn 18 rfl ?_ (hw := by kernel_rfl)
       refine tkx 19 rfl ?_ (hw := by kernel_rfl)
       refine wpAnyH_ready (rs := [20]) (by kernel_rfl) (by simp) ?_
       refine AllReadyH.cons rfl (fun K hK => ?_) AllReadyH.nil
       go_simp
       refine (HIH.out _ _ _ (HT.out.below (bl_drew (bl_refl _)))).mono ?_
       rintro e wX ⟨rfl, hb0⟩
       have hbX := bl_step hb0 (bl_drew (bl_refl wr))
       go_simp
       refine hK.out _ _ ⟨cell_below hbX k0, cell_below hbX k3, cell_below hbX h0, cell_below hbX h1, cell_below hbX h2, cell_below hbX h3⟩ (fun hH1 => ?_)
       clear hK K hH0
       (try simp only [Act.put, List.setIfInBounds_toArray, List.set_cons_zero, List.set_cons_succ])
       refine tkx 21 rfl ?_ (hw := by kernel_rfl)
       refine wpAnyH_done (by kernel_rfl) ?_ _
       refine NoPanic.normal ?_
       clear hH1
       go_wp2_with fail
       go_roundw
       case rel =>
        refine ⟨j + 1, by omega, by go_num, bl_step hbX hbR, Lib.hid fun m hm hmj => ?_⟩
        by_cases e : m = j
        ·subst e; rw [HFL.out]; exact HV.out
        ·exact HALL.out m hm (by omega)
       case measure => simp [intOf]; omega
      | false =>
       have hff := Tr.formAll_false (k) true ks 0 j hlt (by rw [Nat.zero_add]; exact hv)
       rw [hff] at hF
       rw [hfl] at hv
       rw [hv] at hih
       have HIH := Lib.hid hih
       clear hih hv hfl hall hff
       go_upto_region 28 with fail
       refine wp_region_noPanic ?_
       refine wp_region_held_drew (S := (fun w' => w'.cell? ⟨w.heap.size, 0, none⟩ = some (.int .i64 (k)) ∧ w'.cell? ⟨w.heap.size, 3, none⟩ = some (.slice (some ⟨q, 0, none⟩) ks.length c) ∧ w'.cell? ⟨q, j * 4, none⟩ = some c0 ∧ w'.cell? ⟨q, j * 4 + 1, none⟩ = some c1 ∧ w'.cell? ⟨q, j * 4 + 2, none⟩ = some c2 ∧ w'.cell? ⟨q, j * 4 + 3, none⟩ = some c3)) (by kernel_rfl) ⟨k0, k3, h0, h1, h2, h3⟩ (fun hH0 => ?_)
       refine tkx 0 rfl ?_ (hw := by kernel_rfl)
       refine tkx 1 rfl ?_ (hw := by kernel_rfl)
       refine tkx 2 rfl ?_ (hw := by kernel_rfl)
       refine tkx 3 rfl ?_ (hw := by kernel_rfl)
       refine tkx 4 rfl ?_ (hw := by kernel_rfl)
       refine tkx 5 rfl ?_ (hw := by kernel_rfl)
       refine tkx 6 rfl ?_ (hw := by kernel_rfl)
       refine tkn 7 rfl ?_ (hw := by kernel_rfl)
       refine tkn 8 rfl ?_ (hw := by kernel_rfl)
       refine tkn 9 rfl ?_ (hw := by kernel_rfl)
       refine tkn 10 rfl ?_ (hw := by kernel_rfl)
       refine tkn 11 rfl ?_ (hw := by kernel_rfl)
       refine tkn 12 rfl ?_ (hw := by kernel_rfl)
       refine tkn 13 rfl ?_ (hw := by kernel_rfl)
       refine tkn 14 rfl ?_ (hw := by kernel_rfl)
       refine tkn 15 rfl ?_ (hw := by kernel_rfl)
       refine tkn 16 rfl ?_ (hw := by kernel_rfl)
       refine tkn 17 rfl ?_ (hw := by kernel_rfl)
       refine tkn 18 rfl ?_ (hw := by kernel_rfl)
       refine tkx 19 rfl ?_ (hw := by kernel_rfl)
       refine wpAnyH_ready (rs := [20]) (by kernel_rfl) (by simp) ?_
       refine AllReadyH.cons rfl (fun K hK => ?_) AllReadyH.nil
       go_simp
       refine (HIH.out _ _ _ (HT.out.below (bl_drew (bl_refl _)))).mono ?_
       rintro e wX ⟨rfl, hb0⟩
       have hbX := bl_step hb0 (bl_drew (bl_refl wr))
       go_simp
       refine hK.out _ _ ⟨cell_below hbX k0, cell_below hbX k3, cell_below hbX h0, cell_below hbX h1, cell_below hbX h2, cell_below hbX h3⟩ (fun hH1 => ?_)
       clear hK K hH0
       (try simp only [Act.put, List.setIfInBounds_toArray, List.set_cons_zero, List.set_cons_succ])
       refine tkx 21 rfl ?_ (hw := by kernel_rfl)
       refine wpAnyH_done (by kernel_rfl) ?_ _
       refine NoPanic.normal ?_
       clear hH1
       go_wp2_with fail
       go_ret
       exact ⟨ret_bool hF.out.symm, bl_step hbX (bl_step hbR hbO)⟩
     ·obtain rfl : j = ks.length := by omega
      have hall := Tr.formAll_true k true ks 0 (fun m hm => by rw [Nat.zero_add]; exact HALL.out m hm hm)
      rw [hall] at hF
      clear hall HALL
      go_wp2_with fail
      go_ret
      exact ⟨ret_bool hF.out.symm, bl_step hbR hbO⟩
   ·have hn : num = false := by rw [← hd]; exact decide_eq_false h11
    subst hn
    clear hd
    go_wp2_with fail
    go_loopw [50] (fun i wr => ∃ j : Nat, j ≤ ks.length ∧ i = .int .i64 j ∧ Below wO.heap.size wO wr ∧ Hid (∀ m (h : m < ks.length), m < j → ks[m].form (flagF k false m) = true)) (fun i _ => ks.length - (intOf i).toNat)
    case atStart => exact ⟨0, Nat.zero_le _, rfl, bl_refl wO, Lib.hid fun m hm h => by omega⟩
    case round =>
     clear k0 k1 k2 k3
     obtain ⟨j, hj, rfl, hbR, HALL⟩ := hrel
     by_cases hlt : j < ks.length
     ·obtain ⟨q, c0, c1, c2, c3, hK⟩ := kid_at (HROW2.out.below hbR) (HTS2.out.below hbR) j hlt
      obtain ⟨rfl, h0, h1, h2, h3, hT⟩ := hK
      obtain ⟨k0, k1, k2, k3⟩ := (HKW.out.below hbR).fours
      have HT := Lib.hid hT
      clear hT
      have hltI : (j : Int) < (ks.length : Int) := by omega
      have h0I : (0 : Int) ≤ (j : Int) := by omega
      by_cases hj0 : j = 0
      ·have HJ := Lib.hid hj0
       have hjb : ((j : Int) == 0) = true := by rw [hj0]; rfl
       clear hj0
       by_cases h6 : k = 6
       ·subst h6
        have hfl : flagF (6) false j = true := (by unfold flagF; simp [HJ.out])
        have hih := fun x w v ht => IH.out j hlt (flagF (6) false j) x w v ht
        have hall := HALL.out
        have HFB := Lib.hid (show ks[j].form (flagF (6) false j) = ks[j].form (flagF (6) false j) from rfl)
        rw [hfl] at hih
        have HFL := Lib.hid hfl
        cases hv : ks[j].form (flagF (6) false j) with
        | true =>
         rw [hfl] at hv
         rw [hv] at hih
         have HIH := Lib.hid hih; have HV := Lib.hid hv
         clear hih hv hfl hall
         go_upto_region 28 with fail
         refine wp_region_noPanic ?_
         refine wp_region_held_drew (S := (fun w' => w'.cell? ⟨w.heap.size, 0, none⟩ = some (.int .i64 (6)) ∧ w'.cell? ⟨w.heap.size, 3, none⟩ = some (.slice (some ⟨q, 0, none⟩) ks.length c) ∧ w'.cell? ⟨q, j * 4, none⟩ = some c0 ∧ w'.cell? ⟨q, j * 4 + 1, none⟩ = some c1 ∧ w'.cell? ⟨q, j * 4 + 2, none⟩ = some c2 ∧ w'.cell? ⟨q, j * 4 + 3, none⟩ = some c3)) (by kernel_rfl) ⟨k0, k3, h0, h1, h2, h3⟩ (fun hH0 => ?_)
         refine tkx 0 rfl ?_ (hw := by kernel_rfl)
         refine tkx 1 rfl ?_ (hw := by kernel_rfl)
         refine tkx 2 rfl ?_ (hw := by kernel_rfl)
         refine tkx 3 rfl ?_ (hw := by kernel_rfl)
         refine tkx 4 rfl ?_ (hw := by kernel_rfl)
         refine tkx 5 rfl ?_ (hw := by kernel_rfl)
         refine tkx 6 rfl ?_ (hw := by kernel_rfl)
         refine tkx 7 rfl ?_ (hw := by kernel_rfl)
         refine tkx 8 rfl ?_ (hw := by kernel_rfl)
         refine tkx 9 rfl ?_ (hw := by kernel_rfl)
         refine tkx 10 rfl ?_ (hw := by kernel_rfl)
         refine tkx 11 rfl ?_ (hw := by kernel_rfl)
         refine tkx 12 rfl ?_ (hw := by kernel_rfl)
         refine tkx 13 rfl ?_ (hw := by kernel_rfl)
         refine tkn 14 rfl ?_ (hw := by kernel_rfl)
         refine tkn 15 rfl ?_ (hw := by kernel_rfl)
         refine tkn 16 rfl ?_ (hw := by kernel_rfl)
         refine tkx 17 rfl ?_ (hw := by kernel_rfl)
         refine tkx 18 rfl ?_ (hw := by kernel_rfl)
         refine tkx 19 rfl ?_ (hw := by kernel_rfl)
         refine wpAnyH_ready (rs := [20]) (by kernel_rfl) (by simp) ?_
         refine AllReadyH.cons rfl (fun K hK => ?_) AllReadyH.nil
         go_simp
         refine (HIH.out _ _ _ (HT.out.below (bl_drew (bl_refl _)))).mono ?_
         rintro e wX ⟨rfl, hb0⟩
         have hbX := bl_step hb0 (bl_drew (bl_refl wr))
         go_simp
         refine hK.out _ _ ⟨cell_below hbX k0, cell_below hbX k3, cell_below hbX h0, cell_below hbX h1, cell_below hbX h2, cell_below hbX h3⟩ (fun hH1 => ?_)
         clear hK K hH0
         (try simp only [Act.put, List.setIfInBounds_toArray, List.set_cons_zero, List.set_cons_succ])
         refine tkx 21 rfl ?_ (hw := by kernel_rfl)
         refine wpAnyH_done (by kernel_rfl) ?_ _
         refine NoPanic.normal ?_
         clear hH1
         go_wp2_with fail
         go_roundw
         case rel =>
          refine ⟨j + 1, by omega, by go_num, bl_step hbX hbR, Lib.hid fun m hm hmj => ?_⟩
          by_cases e : m = j
          ·subst e; rw [HFL.out]; exact HV.out
          ·exact HALL.out m hm (by omega)
         case measure => simp [intOf]; omega
        | false =>
         have hff := Tr.formAll_false (6) false ks 0 j hlt (by rw [Nat.zero_add]; exact hv)
         rw [hff] at hF
         rw [hfl] at hv
         rw [hv] at hih
         have HIH := Lib.hid hih
         clear hih hv hfl hall hff
         go_upto_region 28 with fail
         refine wp_region_noPanic ?_
         refine wp_region_held_drew (S := (fun w' => w'.cell? ⟨w.heap.size, 0, none⟩ = some (.int .i64 (6)) ∧ w'.cell? ⟨w.heap.size, 3, none⟩ = some (.slice (some ⟨q, 0, none⟩) ks.length c) ∧ w'.cell? ⟨q, j * 4, none⟩ = some c0 ∧ w'.cell? ⟨q, j * 4 + 1, none⟩ = some c1 ∧ w'.cell? ⟨q, j * 4 + 2, none⟩ = some c2 ∧ w'.cell? ⟨q, j * 4 + 3, none⟩ = some c3)) (by kernel_rfl) ⟨k0, k3, h0, h1, h2, h3⟩ (fun hH0 => ?_)
         refine tkx 0 rfl ?_ (hw := by kernel_rfl)
         refine tkx 1 rfl ?_ (hw := by kernel_rfl)
         refine tkx 2 rfl ?_ (hw := by kernel_rfl)
         refine tkx 3 rfl ?_ (hw := by kernel_rfl)
         refine tkx 4 rfl ?_ (hw := by kernel_rfl)
         refine tkx 5 rfl ?_ (hw := by kernel_rfl)
         refine tkx 6 rfl ?_ (hw := by kernel_rfl)
         refine tkx 7 rfl ?_ (hw := by kernel_rfl)
         refine tkx 8 rfl ?_ (hw := by kernel_rfl)
         refine tkx 9 rfl ?_ (hw := by kernel_rfl)
         refine tkx 10 rfl ?_ (hw := by kernel_rfl)
         refine tkx 11 rfl ?_ (hw := by kernel_rfl)
         refine tkx 12 rfl ?_ (hw := by kernel_rfl)
         refine tkx 13 rfl ?_ (hw := by kernel_rfl)
         refine tkn 14 rfl ?_ (hw := by kernel_rfl)
         refine tkn 15 rfl ?_ (hw := by kernel_rfl)
         refine tkn 16 rfl ?_ (hw := by kernel_rfl)
         refine tkx 17 rfl ?_ (hw := by kernel_rfl)
         refine tkx 18 rfl ?_ (hw := by kernel_rfl)
         refine tkx 19 rfl ?_ (hw := by kernel_rfl)
         refine wpAnyH_ready (rs := [20]) (by kernel_rfl) (by simp) ?_
         refine AllReadyH.cons rfl (fun K hK => ?_) AllReadyH.nil
         go_simp
         refine (HIH.out _ _ _ (HT.out.below (bl_drew (bl_refl _)))).mono ?_
         rintro e wX ⟨rfl, hb0⟩
         have hbX := bl_step hb0 (bl_drew (bl_refl wr))
         go_simp
         refine hK.out _ _ ⟨cell_below hbX k0, cell_below hbX k3, cell_below hbX h0, cell_below hbX h1, cell_below hbX h2, cell_below hbX h3⟩ (fun hH1 => ?_)
         clear hK K hH0
         (try simp only [Act.put, List.setIfInBounds_toArray, List.set_cons_zero, List.set_cons_succ])
         refine tkx 21 rfl ?_ (hw := by kernel_rfl)
         refine wpAnyH_done (by kernel_rfl) ?_ _
         refine NoPanic.normal ?_
         clear hH1
         go_wp2_with fail
         go_ret
         exact ⟨ret_bool hF.out.symm, bl_step hbX (bl_step hbR hbO)⟩
       ·have h6b : (k == 6) = false := by simpa using h6
        by_cases h8 : k = 8
        ·subst h8
         have hfl : flagF (8) false j = true := (by unfold flagF; simp [HJ.out])
         have hih := fun x w v ht => IH.out j hlt (flagF (8) false j) x w v ht
         have hall := HALL.out
         have HFB := Lib.hid (show ks[j].form (flagF (8) false j) = ks[j].form (flagF (8) false j) from rfl)
         rw [hfl] at hih
         have HFL := Lib.hid hfl
         cases hv : ks[j].form (flagF (8) false j) with
         | true =>
          rw [hfl] at hv
          rw [hv] at hih
          have HIH := Lib.hid hih; have HV := Lib.hid hv
          clear hih hv hfl hall
          go_upto_region 28 with fail
          refine wp_region_noPanic ?_
          refine wp_region_held_drew (S := (fun w' => w'.cell? ⟨w.heap.size, 0, none⟩ = some (.int .i64 (8)) ∧ w'.cell? ⟨w.heap.size, 3, none⟩ = some (.slice (some ⟨q, 0, none⟩) ks.length c) ∧ w'.cell? ⟨q, j * 4, none⟩ = some c0 ∧ w'.cell? ⟨q, j * 4 + 1, none⟩ = some c1 ∧ w'.cell? ⟨q, j * 4 + 2, none⟩ = some c2 ∧ w'.cell? ⟨q, j * 4 + 3, none⟩ = some c3)) (by kernel_rfl) ⟨k0, k3, h0, h1, h2, h3⟩ (fun hH0 => ?_)
          refine tkx 0 rfl ?_ (hw := by kernel_rfl)
          refine tkx 1 rfl ?_ (hw := by kernel_rfl)
          refine tkx 2 rfl ?_ (hw := by kernel_rfl)
          refine tkx 3 rfl ?_ (hw := by kernel_rfl)
          refine tkx 4 rfl ?_ (hw := by kernel_rfl)
          refine tkx 5 rfl ?_ (hw := by kernel_rfl)
          refine tkx 6 rfl ?_ (hw := by kernel_rfl)
          refine tkx 7 rfl ?_ (hw := by kernel_rfl)
          refine tkx 8 rfl ?_ (hw := by kernel_rfl)
          refine tkx 9 rfl ?_ (hw := by kernel_rfl)
          refine tkx 10 rfl ?_ (hw := by kernel_rfl)
          refine tkx 11 rfl ?_ (hw := by kernel_rfl)
          refine tkx 12 rfl ?_ (hw := by kernel_rfl)
          refine tkx 13 rfl ?_ (hw := by kernel_rfl)
          refine tkx 14 rfl ?_ (hw := by kernel_rfl)
          refine tkx 15 rfl ?_ (hw := by kernel_rfl)
          refine tkx 16 rfl ?_ (hw := by kernel_rfl)
          refine tkx 17 rfl ?_ (hw := by kernel_rfl)
          refine tkx 18 rfl ?_ (hw := by kernel_rfl)
          refine tkx 19 rfl ?_ (hw := by kernel_rfl)
          refine wpAnyH_ready (rs := [20]) (by kernel_rfl) (by simp) ?_
          refine AllReadyH.cons rfl (fun K hK => ?_) AllReadyH.nil
          go_simp
          refine (HIH.out _ _ _ (HT.out.below (bl_drew (bl_refl _)))).mono ?_
          rintro e wX ⟨rfl, hb0⟩
          have hbX := bl_step hb0 (bl_drew (bl_refl wr))
          go_simp
          refine hK.out _ _ ⟨cell_below hbX k0, cell_below hbX k3, cell_below hbX h0, cell_below hbX h1, cell_below hbX h2, cell_below hbX h3⟩ (fun hH1 => ?_)
          clear hK K hH0
          (try simp only [Act.put, List.setIfInBounds_toArray, List.set_cons_zero, List.set_cons_succ])
          refine tkx 21 rfl ?_ (hw := by kernel_rfl)
          refine wpAnyH_done (by kernel_rfl) ?_ _
          refine NoPanic.normal ?_
          clear hH1
          go_wp2_with fail
          go_roundw
          case rel =>
           refine ⟨j + 1, by omega, by go_num, bl_step hbX hbR, Lib.hid fun m hm hmj => ?_⟩
           by_cases e : m = j
           ·subst e; rw [HFL.out]; exact HV.out
           ·exact HALL.out m hm (by omega)
          case measure => simp [intOf]; omega
         | false =>
          have hff := Tr.formAll_false (8) false ks 0 j hlt (by rw [Nat.zero_add]; exact hv)
          rw [hff] at hF
          rw [hfl] at hv
          rw [hv] at hih
          have HIH := Lib.hid hih
          clear hih hv hfl hall hff
          go_upto_region 28 with fail
          refine wp_region_noPanic ?_
          refine wp_region_held_drew (S := (fun w' => w'.cell? ⟨w.heap.size, 0, none⟩ = some (.int .i64 (8)) ∧ w'.cell? ⟨w.heap.size, 3, none⟩ = some (.slice (some ⟨q, 0, none⟩) ks.length c) ∧ w'.cell? ⟨q, j * 4, none⟩ = some c0 ∧ w'.cell? ⟨q, j * 4 + 1, none⟩ = some c1 ∧ w'.cell? ⟨q, j * 4 + 2, none⟩ = some c2 ∧ w'.cell? ⟨q, j * 4 + 3, none⟩ = some c3)) (by kernel_rfl) ⟨k0, k3, h0, h1, h2, h3⟩ (fun hH0 => ?_)
          refine tkx 0 rfl ?_ (hw := by kernel_rfl)
          refine tkx 1 rfl ?_ (hw := by kernel_rfl)
          refine tkx 2 rfl ?_ (hw := by kernel_rfl)
          refine tkx 3 rfl ?_ (hw := by kernel_rfl)
          refine tkx 4 rfl ?_ (hw := by kernel_rfl)
          refine tkx 5 rfl ?_ (hw := by kernel_rfl)
          refine tkx 6 rfl ?_ (hw := by kernel_rfl)
          refine tkx 7 rfl ?_ (hw := by kernel_rfl)
          refine tkx 8 rfl ?_ (hw := by kernel_rfl)
          refine tkx 9 rfl ?_ (hw := by kernel_rfl)
          refine tkx 10 rfl ?_ (hw := by kernel_rfl)
          refine tkx 11 rfl ?_ (hw := by kernel_rfl)
          refine tkx 12 rfl ?_ (hw := by kernel_rfl)
          refine tkx 13 rfl ?_ (hw := by kernel_rfl)
          refine tkx 14 rfl ?_ (hw := by kernel_rfl)
          refine tkx 15 rfl ?_ (hw := by kernel_rfl)
          refine tkx 16 rfl ?_ (hw := by kernel_rfl)
          refine tkx 17 rfl ?_ (hw := by kernel_rfl)
          refine tkx 18 rfl ?_ (hw := by kernel_rfl)
          refine tkx 19 rfl ?_ (hw := by kernel_rfl)
          refine wpAnyH_ready (rs := [20]) (by kernel_rfl) (by simp) ?_
          refine AllReadyH.cons rfl (fun K hK => ?_) AllReadyH.nil
          go_simp
          refine (HIH.out _ _ _ (HT.out.below (bl_drew (bl_refl _)))).mono ?_
          rintro e wX ⟨rfl, hb0⟩
          have hbX := bl_step hb0 (bl_drew (bl_refl wr))
          go_simp
          refine hK.out _ _ ⟨cell_below hbX k0, cell_below hbX k3, cell_below hbX h0, cell_below hbX h1, cell_below hbX h2, cell_below hbX h3⟩ (fun hH1 => ?_)
          clear hK K hH0
          (try simp only [Act.put, List.setIfInBounds_toArray, List.set_cons_zero, List.set_cons_succ])
          refine tkx 21 rfl ?_ (hw := by kernel_rfl)
          refine wpAnyH_done (by kernel_rfl) ?_ _
          refine NoPanic.normal ?_
          clear hH1
          go_wp2_with fail
          go_ret
          exact ⟨ret_bool hF.out.symm, bl_step hbX (bl_step hbR hbO)⟩
        ·have h8b : (k == 8) = false := by simpa using h8
         have hfl : flagF (k) false j = false := (by unfold flagF; simp [h6, h8])
         have hih := fun x w v ht => IH.out j hlt (flagF (k) false j) x w v ht
         have hall := HALL.out
         have HFB := Lib.hid (show ks[j].form (flagF (k) false j) = ks[j].form (flagF (k) false j) from rfl)
         rw [hfl] at hih
         have HFL := Lib.hid hfl
         cases hv : ks[j].form (flagF (k) false j) with
         | true =>
          rw [hfl] at hv
          rw [hv] at hih
          have HIH := Lib.hid hih; have HV := Lib.hid hv
          clear hih hv hfl hall
          go_upto_region 28 with fail
          refine wp_region_noPanic ?_
          refine wp_region_held_drew (S := (fun w' => w'.cell? ⟨w.heap.size, 0, none⟩ = some (.int .i64 (k)) ∧ w'.cell? ⟨w.heap.size, 3, none⟩ = some (.slice (some ⟨q, 0, none⟩) ks.length c) ∧ w'.cell? ⟨q, j * 4, none⟩ = some c0 ∧ w'.cell? ⟨q, j * 4 + 1, none⟩ = some c1 ∧ w'.cell? ⟨q, j * 4 + 2, none⟩ = some c2 ∧ w'.cell? ⟨q, j * 4 + 3, none⟩ = some c3)) (by kernel_rfl) ⟨k0, k3, h0, h1, h2, h3⟩ (fun hH0 => ?_)
          refine tkx 0 rfl ?_ (hw := by kernel_rfl)
          refine tkx 1 rfl ?_ (hw := by kernel_rfl)
          refine tkx 2 rfl ?_ (hw := by kernel_rfl)
          refine tkx 3 rfl ?_ (hw := by kernel_rfl)
          refine tkx 4 rfl ?_ (hw := by kernel_rfl)
          refine tkx 5 rfl ?_ (hw := by kernel_rfl)
          refine tkx 6 rfl ?_ (hw := by kernel_rfl)
          refine tkx 7 rfl ?_ (hw := by kernel_rfl)
          refine tkx 8 rfl ?_ (hw := by kernel_rfl)
          refine tkx 9 rfl ?_ (hw := by kernel_rfl)
          refine tkx 10 rfl ?_ (hw := by kernel_rfl)
          refine tkx 11 rfl ?_ (hw := by kernel_rfl)
          refine tkx 12 rfl ?_ (hw := by kernel_rfl)
          refine tkx 13 rfl ?_ (hw := by kernel_rfl)
          refine tkx 14 rfl ?_ (hw := by kernel_rfl)
          refine tkx 15 rfl ?_ (hw := by kernel_rfl)
          refine tkx 16 rfl ?_ (hw := by kernel_rfl)
          refine tkx 17 rfl ?_ (hw := by kernel_rfl)
          refine tkx 18 rfl ?_ (hw := by kernel_rfl)
          refine tkx 19 rfl ?_ (hw := by kernel_rfl)
          refine wpAnyH_ready (rs := [20]) (by kernel_rfl) (by simp) ?_
          refine AllReadyH.cons rfl (fun K hK => ?_) AllReadyH.nil
          go_simp
          refine (HIH.out _ _ _ (HT.out.below (bl_drew (bl_refl _)))).mono ?_
          rintro e wX ⟨rfl, hb0⟩
          have hbX := bl_step hb0 (bl_drew (bl_refl wr))
          go_simp
          refine hK.out _ _ ⟨cell_below hbX k0, cell_below hbX k3, cell_below hbX h0, cell_below hbX h1, cell_below hbX h2, cell_below hbX h3⟩ (fun hH1 => ?_)
          clear hK K hH0
          (try simp only [Act.put, List.setIfInBounds_toArray, List.set_cons_zero, List.set_cons_succ])
          refine tkx 21 rfl ?_ (hw := by kernel_rfl)
          refine wpAnyH_done (by kernel_rfl) ?_ _
          refine NoPanic.normal ?_
          clear hH1
          go_wp2_with fail
          go_roundw
          case rel =>
           refine ⟨j + 1, by omega, by go_num, bl_step hbX hbR, Lib.hid fun m hm hmj => ?_⟩
           by_cases e : m = j
           ·subst e; rw [HFL.out]; exact HV.out
           ·exact HALL.out m hm (by omega)
          case measure => simp [intOf]; omega
         | false =>
          have hff := Tr.formAll_false (k) false ks 0 j hlt (by rw [Nat.zero_add]; exact hv)
          rw [hff] at hF
          rw [hfl] at hv
          rw [hv] at hih
          have HIH := Lib.hid hih
          clear hih hv hfl hall hff
          go_upto_region 28 with fail
          refine wp_region_noPanic ?_
          refine wp_region_held_drew (S := (fun w' => w'.cell? ⟨w.heap.size, 0, none⟩ = some (.int .i64 (k)) ∧ w'.cell? ⟨w.heap.size, 3, none⟩ = some (.slice (some ⟨q, 0, none⟩) ks.length c) ∧ w'.cell? ⟨q, j * 4, none⟩ = some c0 ∧ w'.cell? ⟨q, j * 4 + 1, none⟩ = some c1 ∧ w'.cell? ⟨q, j * 4 + 2, none⟩ = some c2 ∧ w'.cell? ⟨q, j * 4 + 3, none⟩ = some c3)) (by kernel_rfl) ⟨k0, k3, h0, h1, h2, h3⟩ (fun hH0 => ?_)
          refine tkx 0 rfl ?_ (hw := by kernel_rfl)
          refine tkx 1 rfl ?_ (hw := by kernel_rfl)
          refine tkx 2 rfl ?_ (hw := by kernel_rfl)
          refine tkx 3 rfl ?_ (hw := by kernel_rfl)
          refine tkx 4 rfl ?_ (hw := by kernel_rfl)
          refine tkx 5 rfl ?_ (hw := by kernel_rfl)
          refine tkx 6 rfl ?_ (hw := by kernel_rfl)
          refine tkx 7 rfl ?_ (hw := by kernel_rfl)
          refine tkx 8 rfl ?_ (hw := by kernel_rfl)
          refine tkx 9 rfl ?_ (hw := by kernel_rfl)
          refine tkx 10 rfl ?_ (hw := by kernel_rfl)
          refine tkx 11 rfl ?_ (hw := by kernel_rfl)
          refine tkx 12 rfl ?_ (hw := by kernel_rfl)
          refine tkx 13 rfl ?_ (hw := by kernel_rfl)
          refine tkx 14 rfl ?_ (hw := by kernel_rfl)
          refine tkx 15 rfl ?_ (hw := by kernel_rfl)
          refine tkx 16 rfl ?_ (hw := by kernel_rfl)
          refine tkx 17 rfl ?_ (hw := by kernel_rfl)
          refine tkx 18 rfl ?_ (hw := by kernel_rfl)
          refine tkx 19 rfl ?_ (hw := by kernel_rfl)
          refine wpAnyH_ready (rs := [20]) (by kernel_rfl) (by simp) ?_
          refine AllReadyH.cons rfl (fun K hK => ?_) AllReadyH.nil
          go_simp
          refine (HIH.out _ _ _ (HT.out.below (bl_drew (bl_refl _)))).mono ?_
          rintro e wX ⟨rfl, hb0⟩
          have hbX := bl_step hb0 (bl_drew (bl_refl wr))
          go_simp
          refine hK.out _ _ ⟨cell_below hbX k0, cell_below hbX k3, cell_below hbX h0, cell_below hbX h1, cell_below hbX h2, cell_below hbX h3⟩ (fun hH1 => ?_)
          clear hK K hH0
          (try simp only [Act.put, List.setIfInBounds_toArray, List.set_cons_zero, List.set_cons_succ])
          refine tkx 21 rfl ?_ (hw := by kernel_rfl)
          refine wpAnyH_done (by kernel_rfl) ?_ _
          refine NoPanic.normal ?_
          clear hH1
          go_wp2_with fail
          go_ret
          exact ⟨ret_bool hF.out.symm, bl_step hbX (bl_step hbR hbO)⟩
      ·have hjb : ((j : Int) == 0) = false := by simpa using hj0
       have hfl : flagF (k) false j = false := (by unfold flagF; simp [hj0])
       have hih := fun x w v ht => IH.out j hlt (flagF (k) false j) x w v ht
       have hall := HALL.out
       have HFB := Lib.hid (show ks[j].form (flagF (k) false j) = ks[j].form (flagF (k) false j) from rfl)
       rw [hfl] at hih
       have HFL := Lib.hid hfl
       cases hv : ks[j].form (flagF (k) false j) with
       | true =>
        rw [hfl] at hv
        rw [hv] at hih
        have HIH := Lib.hid hih; have HV := Lib.hid hv
        clear hih hv hfl hall
        go_upto_region 28 with fail
        refine wp_region_noPanic ?_
        refine wp_region_held_drew (S := (fun w' => w'.cell? ⟨w.heap.size, 0, none⟩ = some (.int .i64 (k)) ∧ w'.cell? ⟨w.heap.size, 3, none⟩ = some (.slice (some ⟨q, 0, none⟩) ks.length c) ∧ w'.cell? ⟨q, j * 4, none⟩ = some c0 ∧ w'.cell? ⟨q, j * 4 + 1, none⟩ = some c1 ∧ w'.cell? ⟨q, j * 4 + 2, none⟩ = some c2 ∧ w'.cell? ⟨q, j * 4 + 3, none⟩ = some c3)) (by kernel_rfl) ⟨k0, k3, h0, h1, h2, h3⟩ (fun hH0 => ?_)
        refine tkx 0 rfl ?_ (hw := by kernel_rfl)
        refine tkx 1 rfl ?_ (hw := by kernel_rfl)
        refine tkx 2 rfl ?_ (hw := by kernel_rfl)
        refine tkx 3 rfl ?_ (hw := by kernel_rfl)
        refine tkx 4 rfl ?_ (hw := by kernel_rfl)
        refine tkx 5 rfl ?_ (hw := by kernel_rfl)
        refine tkx 6 rfl ?_ (hw := by kernel_rfl)
        refine tkx 7 rfl ?_ (hw := by kernel_rfl)
        refine tkx 8 rfl ?_ (hw := by kernel_rfl)
        refine tkx 9 rfl ?_ (hw := by kernel_rfl)
        refine tkn 10 rfl ?_ (hw := by kernel_rfl)
        refine tkn 11 rfl ?_ (hw := by kernel_rfl)
        refine tkn 12 rfl ?_ (hw := by kernel_rfl)
        refine tkn 13 rfl ?_ (hw := by kernel_rfl)
        refine tkn 14 rfl ?_ (hw := by kernel_rfl)
        refine tkn 15 rfl ?_ (hw := by kernel_rfl)
        refine tkn 16 rfl ?_ (hw := by kernel_rfl)
        refine tkn 17 rfl ?_ (hw := by kernel_rfl)
        refine tkx 18 rfl ?_ (hw := by kernel_rfl)
        refine tkx 19 rfl ?_ (hw := by kernel_rfl)
        refine wpAnyH_ready (rs := [20]) (by kernel_rfl) (by simp) ?_
        refine AllReadyH.cons rfl (fun K hK => ?_) AllReadyH.nil
        go_simp
        refine (HIH.out _ _ _ (HT.out.below (bl_drew (bl_refl _)))).mono ?_
        rintro e wX ⟨rfl, hb0⟩
        have hbX := bl_step hb0 (bl_drew (bl_refl wr))
        go_simp
        refine hK.out _ _ ⟨cell_below hbX k0, cell_below hbX k3, cell_below hbX h0, cell_below hbX h1, cell_below hbX h2, cell_below hbX h3⟩ (fun hH1 => ?_)
        clear hK K hH0
        (try simp only [Act.put, List.setIfInBounds_toArray, List.set_cons_zero, List.set_cons_succ])
        refine tkx 21 rfl ?_ (hw := by kernel_rfl)
        refine wpAnyH_done (by kernel_rfl) ?_ _
        refine NoPanic.normal ?_
        clear hH1
        go_wp2_with fail
        go_roundw
        case rel =>
         refine ⟨j + 1, by omega, by go_num, bl_step hbX hbR, Lib.hid fun m hm hmj => ?_⟩
         by_cases e : m = j
         ·subst e; rw [HFL.out]; exact HV.out
         ·exact HALL.out m hm (by omega)
        case measure => simp [intOf]; omega
       | false =>
        have hff := Tr.formAll_false (k) false ks 0 j hlt (by rw [Nat.zero_add]; exact hv)
        rw [hff] at hF
        rw [hfl] at hv
        rw [hv] at hih
        have HIH := Lib.hid hih
        clear hih hv hfl hall hff
        go_upto_region 28 with fail
        refine wp_region_noPanic ?_
        refine wp_region_held_drew (S := (fun w' => w'.cell? ⟨w.heap.size, 0, none⟩ = some (.int .i64 (k)) ∧ w'.cell? ⟨w.heap.size, 3, none⟩ = some (.slice (some ⟨q, 0, none⟩) ks.length c) ∧ w'.cell? ⟨q, j * 4, none⟩ = some c0 ∧ w'.cell? ⟨q, j * 4 + 1, none⟩ = some c1 ∧ w'.cell? ⟨q, j * 4 + 2, none⟩ = some c2 ∧ w'.cell? ⟨q, j * 4 + 3, none⟩ = some c3)) (by kernel_rfl) ⟨k0, k3, h0, h1, h2, h3⟩ (fun hH0 => ?_)
        refine tkx 0 rfl ?_ (hw := by kernel_rfl)
        refine tkx 1 rfl ?_ (hw := by kernel_rfl)
        refine tkx 2 rfl ?_ (hw := by kernel_rfl)
        refine tkx 3 rfl ?_ (hw := by kernel_rfl)
        refine tkx 4 rfl ?_ (hw := by kernel_rfl)
        refine tkx 5 rfl ?_ (hw := by kernel_rfl)
        refine tkx 6 rfl ?_ (hw := by kernel_rfl)
        refine tkx 7 rfl ?_ (hw := by kernel_rfl)
        refine tkx 8 rfl ?_ (hw := by kernel_rfl)
        refine tkx 9 rfl ?_ (hw := by kernel_rfl)
        refine tkn 10 rfl ?_ (hw := by kernel_rfl)
        refine tkn 11 rfl ?_ (hw := by kernel_rfl)
        refine tkn 12 rfl ?_ (hw := by kernel_rfl)
        refine tkn 13 rfl ?_ (hw := by kernel_rfl)
        refine tkn 14 rfl ?_ (hw := by kernel_rfl)
        refine tkn 15 rfl ?_ (hw := by kernel_rfl)
        refine tkn 16 rfl ?_ (hw := by kernel_rfl)
        refine tkn 17 rfl ?_ (hw := by kernel_rfl)
        refine tkx 18 rfl ?_ (hw := by kernel_rfl)
        refine tkx 19 rfl ?_ (hw := by kernel_rfl)
        refine wpAnyH_ready (rs := [20]) (by kernel_rfl) (by simp) ?_
        refine AllReadyH.cons rfl (fun K hK => ?_) AllReadyH.nil
        go_simp
        refine (HIH.out _ _ _ (HT.out.below (bl_drew (bl_refl _)))).mono ?_
        rintro e wX ⟨rfl, hb0⟩
        have hbX := bl_step hb0 (bl_drew (bl_refl wr))
        go_simp
        refine hK.out _ _ ⟨cell_below hbX k0, cell_below hbX k3, cell_below hbX h0, cell_below hbX h1, cell_below hbX h2, cell_below hbX h3⟩ (fun hH1 => ?_)
        clear hK K hH0
        (try simp only [Act.put, List.setIfInBounds_toArray, List.set_cons_zero, List.set_cons_succ])
        refine tkx 21 rfl ?_ (hw := by kernel_rfl)
        refine wpAnyH_done (by kernel_rfl) ?_ _
        refine NoPanic.normal ?_
        clear hH1
        go_wp2_with fail
        go_ret
        exact ⟨ret_bool hF.out.symm, bl_step hbX (bl_step hbR hbO)⟩
     ·obtain rfl : j = ks.length := by omega
      have hall := Tr.formAll_true k false ks 0 (fun m hm => by rw [Nat.zero_add]; exact HALL.out m hm hm)
      rw [hall] at hF
      clear hall HALL
      go_wp2_with fail
      go_ret
      exact ⟨ret_bool hF.out.symm, bl_step hbR hbO⟩
  ·have hdd : (decide (11 ≤ k) == num) = false := by simpa using hd
   rw [hdd, Bool.false_and] at hF
   clear hdd
   by_cases h11 : 11 ≤ k
   ·have hn : num = false := by cases num with | false => rfl | true => exact absurd (decide_eq_true h11) hd
    subst hn
    clear hd
    go_wp2_with fail
    go_ret
    exact ⟨ret_bool hF.out.symm, hbO⟩
   ·have hn : num = true := by cases num with | true => rfl | false => exact absurd (decide_eq_false h11) hd
    subst hn
    clear hd
    go_wp2_with fail
    go_ret
    exact ⟨ret_bool hF.out.symm, hbO⟩
mutual
def Tr.nodes : Tr → Nat
 | .mk k _ _ ks => if k = 0 then 0 else 1 + Tr.nodesAll ks
def Tr.nodesAll : List Tr → Nat
 | [] => 0
 | t :: ts => t.nodes + Tr.nodesAll ts
end
mutual
def Tr.deep : Tr → Nat
 | .mk k _ _ ks => if k = 0 then 0 else 1 + Tr.deepAll ks
def Tr.deepAll : List Tr → Nat
 | [] => 0
 | t :: ts => max t.deep (Tr.deepAll ts)
end
mutual
theorem Tr.nodes_size : ∀ t : Tr, t.nodes ≤ t.size
 | .mk k s n ks => by have := Tr.nodesAll_size ks; unfold Tr.nodes Tr.size; split <;> omega
theorem Tr.nodesAll_size : ∀ ks : List Tr, Tr.nodesAll ks ≤ Tr.sizeAll ks
 | [] => by simp [Tr.nodesAll]
 | t :: ts => by have := t.nodes_size; have := Tr.nodesAll_size ts; simp only [Tr.nodesAll, Tr.sizeAll]; omega
end
mutual
theorem Tr.deep_size : ∀ t : Tr, t.deep ≤ t.size
 | .mk k s n ks => by have := Tr.deepAll_size ks; unfold Tr.deep Tr.size; split <;> omega
theorem Tr.deepAll_size : ∀ ks : List Tr, Tr.deepAll ks ≤ Tr.sizeAll ks
 | [] => by simp [Tr.deepAll]
 | t :: ts => by have := t.deep_size; have := Tr.deepAll_size ts; simp only [Tr.deepAll, Tr.sizeAll]; omega
end
theorem Tr.nodesAll_snoc (t : Tr) : ∀ l : List Tr, Tr.nodesAll (l ++ [t]) = Tr.nodesAll l + t.nodes
 | [] => by simp [Tr.nodesAll]
 | x :: l => by have := Tr.nodesAll_snoc t l; simp only [List.cons_append, Tr.nodesAll]; omega
theorem Tr.deepAll_snoc (t : Tr) : ∀ l : List Tr, Tr.deepAll (l ++ [t]) = max (Tr.deepAll l) t.deep
 | [] => by simp [Tr.deepAll]
 | x :: l => by have := Tr.deepAll_snoc t l; simp only [List.cons_append, Tr.deepAll]; omega
theorem Tr.sizeAll_take : ∀ (l : List Tr) (j : Nat), Tr.sizeAll (l.take j) ≤ Tr.sizeAll l
 | [], j => by simp [Tr.sizeAll]
 | x :: l, 0 => by simp [Tr.sizeAll]
 | x :: l, j + 1 => by have := Tr.sizeAll_take l j; simp only [List.take_succ_cons, Tr.sizeAll]; omega
def RetN2 (w : World) (n d : Nat) (e : Ending) (w' : World) : Prop := e = .returned (.tuple #[.int .i64 (n : Int), .int .i64 (d : Int)]) ∧ Below w.heap.size w w'
set_option maxRecDepth 100000 in
set_option maxHeartbeats 4000000 in
theorem rsize_calls (B : Nat) (hB : B ≤ 1000000) : ∀ (t : Tr), t.size ≤ B → t.ok → ∀ (x : Nat) (w : World) (v : Value), TrAt x w t v → Calls Tryz.prog 111 #[v] w (RetN2 w t.nodes t.deep) := by
 induction B with
 | zero => intro t h; have := t.size_pos; omega
 | succ B ih =>
  intro t hsz hok x w v ht
  obtain ⟨A, c, cs, rfl, hrow, hts⟩ := ht.open_
  clear ht
  cases t with
  | mk k s n ks =>
  unfold Tr.size at hsz
  unfold Tr.ok at hok
  simp only [Tr.kind, Tr.s, Tr.n, Tr.ks] at *
  have hlen := Tr.len_size ks
  have hst := Tr.sizeAll_take ks
  have IH := Lib.hid (fun i (h : i < ks.length) => ih (by omega) ks[i] (by have := Tr.size_kid ks i h; omega) (Tr.ok_kid ks hok.2 i h))
  obtain ⟨W1, hW1⟩ : ∃ W1, w.alloc (.cells #[.int .i64 k, .string s, .int .i64 n, .slice A ks.length c] 33) = W1 := ⟨_, rfl⟩
  have hk := Blk.new w #[.int .i64 k, .string s, .int .i64 n, .slice A ks.length c] 33
  have hbA := bl_alloc (bl_refl w) (.cells #[.int .i64 k, .string s, .int .i64 n, .slice A ks.length c] 33)
  rw [hW1] at hk hbA
  obtain ⟨k0, k1, k2, k3⟩ := hk.fours
  have HW1 := Lib.hid hW1; have HK := Lib.hid hk
  have HROW := Lib.hid (hrow.below hbA); have HTS := Lib.hid (hts.below hbA)
  clear hW1 hk hrow hts ih hok
  unfold RetN2 at *
  by_cases hk0 : k = 0
  ·subst hk0
   have hN : Tr.nodes (.mk 0 s n ks) = 0 := by unfold Tr.nodes; rw [if_pos rfl]
   have hD : Tr.deep (.mk 0 s n ks) = 0 := by unfold Tr.deep; rw [if_pos rfl]
   rw [hN, hD]
   clear hN hD hst
   go_enter Tryz.func111, Tryz.ntmps111
   go_wp2_with (rw [HW1.out])
   go_ret2
   exact ⟨rfl, hbA⟩
  ·have hN : Tr.nodes (.mk k s n ks) = 1 + Tr.nodesAll ks := by unfold Tr.nodes; rw [if_neg hk0]
   have hD : Tr.deep (.mk k s n ks) = 1 + Tr.deepAll ks := by unfold Tr.deep; rw [if_neg hk0]
   rw [hN, hD]
   have hkb : (k == 0) = false := by simpa using hk0
   have HST := Lib.hid hst
   clear hN hD hst
   go_enter Tryz.func111, Tryz.ntmps111
   go_upto_region 4 with (rw [HW1.out])
   go_wp2_with fail
   go_loopw [4, 5, 15] (fun nn dd i wr => ∃ j : Nat, j ≤ ks.length ∧ i = .int .i64 j ∧ nn = .int .i64 ((1 + Tr.nodesAll (ks.take j) : Nat) : Int) ∧ dd = .int .i64 ((Tr.deepAll (ks.take j) : Nat) : Int) ∧ Below W1.heap.size W1 wr) (fun _ _ i _ => ks.length - (intOf i).toNat)
   case atStart => exact ⟨0, Nat.zero_le _, rfl, by simp [Tr.nodesAll], by simp [Tr.deepAll], bl_refl W1⟩
   case round =>
    clear k0 k1 k2 k3
    obtain ⟨j, hj, rfl, rfl, rfl, hbR⟩ := hrel
    by_cases hlt : j < ks.length
    ·obtain ⟨q, c0, c1, c2, c3, hK⟩ := kid_at (HROW.out.below hbR) (HTS.out.below hbR) j hlt
     obtain ⟨rfl, h0, h1, h2, h3, hT⟩ := hK
     obtain ⟨k0, k1, k2, k3⟩ := (HK.out.below hbR).fours
     have hih := IH.out j hlt x wr _ hT
     have ht1 := Lib.hid (take_snoc' ks j hlt)
     have b1 := HST.out j
     have b2 := Tr.nodesAll_size (ks.take j)
     have b3 := Tr.deepAll_size (ks.take j)
     have b4 := Tr.size_kid ks j hlt
     have b5 := ks[j].nodes_size
     have b6 := ks[j].deep_size
     have hs1 := Lib.hid (Tr.nodesAll_snoc ks[j] (ks.take j)); have hs2 := Lib.hid (Tr.deepAll_snoc ks[j] (ks.take j))
     generalize ks[j].nodes = y1 at *
     generalize ks[j].deep = y2 at *
     generalize Tr.nodesAll (ks.take j) = z1 at *
     generalize Tr.deepAll (ks.take j) = z2 at *
     have HIH := Lib.hid hih
     clear hih hT
     have hltI : (j : Int) < (ks.length : Int) := by omega
     have h0I : (0 : Int) ≤ (j : Int) := by omega
     go_wp2_with fail
     refine HIH.out.mono ?_
     rintro e wX ⟨rfl, hb0⟩
     go_wp2_with fail
     go_roundw
     case rel =>
      refine ⟨j + 1, by omega, by go_num, ?_, ?_, bl_step hb0 hbR⟩
      ·rw [ht1.out, hs1.out]; go_num
      ·rw [ht1.out, hs2.out]; go_num
     case measure => simp [intOf]; omega
    ·obtain rfl : j = ks.length := by omega
     rw [List.take_length]
     have b2 := Tr.nodesAll_size ks
     have b3 := Tr.deepAll_size ks
     go_wp2_with fail
     go_ret2
     refine ⟨?_, bl_step hbR hbA⟩
     congr 3 <;> go_num

mutual
def Tr.labels : Tr → List ByteArray
 | .mk k s _ ks => (if k = 5 then [s] else []) ++ Tr.labelsAll ks
def Tr.labelsAll : List Tr → List ByteArray
 | [] => []
 | t :: ts => t.labels ++ Tr.labelsAll ts
end
mutual
theorem Tr.labels_size : ∀ t : Tr, t.labels.length ≤ t.size
 | .mk k s n ks => by have := Tr.labelsAll_size ks; unfold Tr.labels Tr.size; split <;> simp <;> omega
theorem Tr.labelsAll_size : ∀ ks : List Tr, (Tr.labelsAll ks).length ≤ Tr.sizeAll ks
 | [] => by simp [Tr.labelsAll]
 | t :: ts => by have := t.labels_size; have := Tr.labelsAll_size ts; simp only [Tr.labelsAll, Tr.sizeAll, List.length_append]; omega
end
theorem Tr.labelsAll_snoc (t : Tr) : ∀ l : List Tr, Tr.labelsAll (l ++ [t]) = Tr.labelsAll l ++ t.labels
 | [] => by simp [Tr.labelsAll]
 | x :: l => by have := Tr.labelsAll_snoc t l; simp only [List.cons_append, Tr.labelsAll, this, List.append_assoc]
/-- What is gathered ahead of part j. -/
def labTo (k : Int) (s : ByteArray) (ks : List Tr) (j : Nat) : List ByteArray := (if k = 5 then [s] else []) ++ Tr.labelsAll (ks.take j)
theorem labTo_le (k : Int) (s : ByteArray) (ks : List Tr) (j : Nat) : (labTo k s ks j).length ≤ Tr.sizeAll ks + 1 := by
 have := Tr.labelsAll_size (ks.take j)
 have := Tr.sizeAll_take ks j
 unfold labTo
 split <;> simp <;> omega
theorem labTo_step (k : Int) (s : ByteArray) (ks : List Tr) (j : Nat) (h : j < ks.length) : labTo k s ks (j + 1) = labTo k s ks j ++ ks[j].labels := by
 unfold labTo
 rw [take_snoc' ks j h, Tr.labelsAll_snoc, List.append_assoc]
theorem labTo_all (k : Int) (s : ByteArray) (n : Int) (ks : List Tr) : labTo k s ks ks.length = Tr.labels (.mk k s n ks) := by
 unfold labTo Tr.labels; rw [List.take_length]
set_option maxRecDepth 100000 in
set_option maxHeartbeats 4000000 in
theorem rlabels_calls (B : Nat) (hB : B ≤ 1000000) : ∀ (t : Tr), t.size ≤ B → t.ok → ∀ (x : Nat) (w : World) (v : Value), TrAt x w t v → Calls Tryz.prog 112 #[v] w (RetStrs w t.labels) := by
 induction B with
 | zero => intro t h; have := t.size_pos; omega
 | succ B ih =>
  intro t hsz hok x w v ht
  obtain ⟨A, c, cs, rfl, hrow, hts⟩ := ht.open_
  clear ht
  cases t with
  | mk k s n ks =>
  unfold Tr.size at hsz
  unfold Tr.ok at hok
  simp only [Tr.kind, Tr.s, Tr.n, Tr.ks] at *
  have hlen := Tr.len_size ks
  have IH := Lib.hid (fun i (h : i < ks.length) => ih (by omega) ks[i] (by have := Tr.size_kid ks i h; omega) (Tr.ok_kid ks hok.2 i h))
  obtain ⟨W1, hW1⟩ : ∃ W1, w.alloc (.cells #[.int .i64 k, .string s, .int .i64 n, .slice A ks.length c] 33) = W1 := ⟨_, rfl⟩
  have hk := Blk.new w #[.int .i64 k, .string s, .int .i64 n, .slice A ks.length c] 33
  have hbA := bl_alloc (bl_refl w) (.cells #[.int .i64 k, .string s, .int .i64 n, .slice A ks.length c] 33)
  rw [hW1] at hk hbA
  obtain ⟨k0, k1, k2, k3⟩ := hk.fours
  have HW1 := Lib.hid hW1; have HK := Lib.hid hk
  have HROW := Lib.hid hrow; have HTS := Lib.hid hts
  clear hW1 hk hrow hts ih hok
  have hbs := bs_str
  go_enter Tryz.func112, Tryz.ntmps112
  go_upto_if 7 with (rw [HW1.out])
  go_cut [3] (fun v wx => Own w wx 9 1 v (labTo k s ks 0).length (strs (labTo k s ks 0)) ∧ Below w.heap.size w wx ∧ Blk wx w.heap.size #[.int .i64 k, .string s, .int .i64 n, .slice A ks.length c] 33)
  case first =>
   by_cases hk5 : k = 5
   ·subst hk5
    have hl0 : labTo 5 s ks 0 = [s] := by unfold labTo; simp [Tr.labelsAll]
    have HL0 := Lib.hid hl0
    clear hl0
    go_wp2_with (at_builtin; refine append_oneG (w0 := w) rfl _ _ 23 9 _ 16 rfl Tryz.underlying23 info_str rfl _ 0 [] _ _ (Own.nil _ _ _ _) hbA rfl rfl (by simp) rfl (by omega) (by omega) ?_; intro v1 w3 HO1 HB1 HG1)
    have hk3 := HK.out.grown HG1 (by simp [Value.ownBlock])
    go_meet
    rw [HL0.out]
    exact ⟨by simpa [strs] using HO1, HB1, hk3⟩
   ·have hkb : (k == 5) = false := by simpa using hk5
    have hl0 : labTo k s ks 0 = [] := by unfold labTo; rw [if_neg hk5]; simp [Tr.labelsAll]
    have HL0 := Lib.hid hl0
    clear hl0
    go_wp2_with fail
    go_meet
    rw [HL0.out]
    exact ⟨Own.nil _ _ _ _, hbA, HK.out⟩
  clear k0 k1 k2 k3
  obtain ⟨HO1, HB1, hk3⟩ := hcut
  obtain ⟨k0, k1, k2, k3⟩ := hk3.fours
  have HO9 := Lib.hid HO1; have HK9 := Lib.hid hk3
  clear HO1 hk3
  go_wp2_with fail
  go_loopw [3, 16] (fun v i wr => ∃ j : Nat, j ≤ ks.length ∧ i = .int .i64 j ∧ Own w wr 9 1 v (labTo k s ks j).length (strs (labTo k s ks j)) ∧ Below w.heap.size w wr ∧ Blk wr w.heap.size #[.int .i64 (k), .string s, .int .i64 n, .slice A ks.length c] 33) (fun _ i _ => ks.length - (intOf i).toNat)
  case atStart => exact ⟨0, Nat.zero_le _, rfl, HO9.out, HB1, HK9.out⟩
  case round =>
   (try clear k0 k1 k2 k3)
   obtain ⟨j, hj, rfl, HO, hbR, hkR⟩ := hrel
   have hlm := labTo_le (k) s ks j
   by_cases hlt : j < ks.length
   ·obtain ⟨q, c0, c1, c2, c3, hK⟩ := kid_at (HROW.out.below hbR) (HTS.out.below hbR) j hlt
    obtain ⟨rfl, h0, h1, h2, h3, hT⟩ := hK
    obtain ⟨k0, k1, k2, k3⟩ := hkR.fours
    have hih := IH.out j hlt x wr _ hT
    have HL1 := Lib.hid (labTo_step (k) s ks j hlt)
    have b4 := Tr.size_kid ks j hlt
    have b5 := ks[j].labels_size
    generalize ks[j].labels = yl at *
    generalize labTo (k) s ks j = cl at *
    have hll := strs_length cl
    have HIH := Lib.hid hih; have HKR := Lib.hid hkR
    clear hih hT hkR
    have hltI : (j : Int) < (ks.length : Int) := by omega
    have h0I : (0 : Int) ≤ (j : Int) := by omega
    obtain ⟨A0, d0, rfl, _, hd0, _⟩ := HO.read
    go_wp2_with fail
    refine HIH.out.mono ?_
    intro e w5 hq
    obtain ⟨v5, rfl, HO5, HB5⟩ := hq
    have HOk := HO.below HB5
    have HBk := bl_step HB5 hbR
    have HKR5 := HKR.out.below HB5
    obtain ⟨A5, c5, rfl, hrd5, _, hl5⟩ := HO5.read
    clear HO HO5
    go_wp2_with (at_builtin; refine append_any (w0 := w) rfl _ _ 23 9 _ 1 16 rfl Tryz.underlying23 info_str rfl (by decide) _ _ _ A5 _ c5 (strs yl) HOk HBk hrd5 rfl rfl (by omega) (strs_one yl) (by omega) (by omega) ?_; intro v6 w6 HO6 HB6 HG6)
    have HKR6 := HKR5.grown HG6 (HOk.ne_blk HKR5 (by decide))
    go_roundw
    case rel =>
     refine ⟨j + 1, by omega, by go_num, ?_, HB6, HKR6⟩
     rw [HL1.out, strs_append, List.length_append]
     exact HO6
    case measure => simp [intOf]; omega
   ·obtain rfl : j = ks.length := by omega
    rw [labTo_all (k) s n ks] at HO
    have HO2 := Lib.hid HO
    clear HO hkR
    go_wp2_with fail
    go_ret
    exact ⟨_, rfl, HO2.out, hbR⟩

def Tr.check (t : Tr) (num : Bool) : Int := if t.form num then (if 60 < t.nodes ∨ 12 < t.deep then 5 else if dupL t.labels then 4 else 0) else 2
set_option maxRecDepth 100000 in
set_option maxHeartbeats 4000000 in
theorem rcheck_calls (t : Tr) (hs : t.size ≤ 1000000) (hok : t.ok) (num : Bool) (x : Nat) (w : World) (v : Value) (ht : TrAt x w t v) :
  Calls Tryz.prog 80 #[v, .bool num] w fun e w' => e = .returned (.int .i64 (t.check num)) ∧ Below w.heap.size w w' := by
 obtain ⟨A, c, cs, rfl, -, -⟩ := ht.open_
 obtain ⟨W1, hW1⟩ : ∃ W1, w.alloc (.cells #[.int .i64 t.kind, .string t.s, .int .i64 t.n, .slice A t.ks.length c] 33) = W1 := ⟨_, rfl⟩
 have hk := Blk.new w #[.int .i64 t.kind, .string t.s, .int .i64 t.n, .slice A t.ks.length c] 33
 have hbA := bl_alloc (bl_refl w) (.cells #[.int .i64 t.kind, .string t.s, .int .i64 t.n, .slice A t.ks.length c] 33)
 rw [hW1] at hk hbA
 obtain ⟨k0, k1, k2, k3⟩ := hk.fours
 have hT1 := ht.below hbA
 have hff := rform_calls 1000000 (Nat.le_refl _) t hs hok num x W1 _ hT1
 have hsz := t.nodes_size
 have hdz := t.deep_size
 have hlz := t.labels_size
 have hC : Hid (t.check num = if t.form num then (if 60 < t.nodes ∨ 12 < t.deep then 5 else if dupL t.labels then 4 else 0) else 2) := rfl
 have HW1 := Lib.hid hW1; have HT1 := Lib.hid hT1; have HK := Lib.hid hk
 clear hW1 hk ht hT1
 unfold RetB at hff
 go_enter Tryz.func80, Tryz.ntmps80
 cases hf : t.form num with
 | false =>
  rw [hf] at hff hC
  go_wp2_with (rw [HW1.out])
  refine hff.mono ?_
  rintro e w2 ⟨rfl, hb2⟩
  go_wp2_with fail
  go_ret
  exact ⟨ret_int (by rw [hC.out]; rfl), bl_step hb2 hbA⟩
 | true =>
  rw [hf] at hff hC
  go_wp2_with (rw [HW1.out])
  refine hff.mono ?_
  rintro e w2 ⟨rfl, hb2⟩
  have HT2 := Lib.hid (HT1.out.below hb2)
  have hbl2 := bl_step hb2 hbA
  have hk2 := HK.out.below hb2
  clear k0 k1 k2 k3 hff HT1 HK
  obtain ⟨k0, k1, k2, k3⟩ := hk2.fours
  have hsc := rsize_calls 1000000 (Nat.le_refl _) t hs hok x w2 _ HT2.out
  unfold RetN2 at hsc
  go_wp2_with fail
  refine (hsc).mono ?_
  rintro e w3 ⟨rfl, hb3⟩
  have HT3 := Lib.hid (HT2.out.below hb3)
  have hbl3 := bl_step hb3 hbl2
  have hk3 := hk2.below hb3
  clear k0 k1 k2 k3 hsc HT2 hk2
  obtain ⟨k0, k1, k2, k3⟩ := hk3.fours
  generalize hnn : t.nodes = nn at *
  generalize hdd : t.deep = dd at *
  have HNN := Lib.hid hnn; have HDD := Lib.hid hdd
  clear hnn hdd
  by_cases hn : 60 < nn
  ·have hnI : (60 : Int) < (nn : Int) := by omega
   go_wp2_with fail
   go_ret
   exact ⟨ret_int (by rw [hC.out]; simp [hn]), hbl3⟩
  ·have hnI : ¬ (60 : Int) < (nn : Int) := by omega
   by_cases hd : 12 < dd
   ·have hdI : (12 : Int) < (dd : Int) := by omega
    go_wp2_with fail
    go_ret
    exact ⟨ret_int (by rw [hC.out]; simp [hd]), hbl3⟩
   ·have hdI : ¬ (12 : Int) < (dd : Int) := by omega
    have hC2 : Hid (t.check num = if dupL t.labels then 4 else 0) := by show _ = _; rw [hC.out]; simp [hn, hd]
    have hlb := rlabels_calls 1000000 (Nat.le_refl _) t hs hok x w3 _ HT3.out
    go_wp2_with fail
    refine (hlb).mono ?_
    intro e w4 hq
    obtain ⟨v, rfl, HO, hb4⟩ := hq
    have hbl4 := bl_step hb4 hbl3
    obtain ⟨A2, c2, rfl, HR, hcc, _⟩ := HO.read
    have HRD := Lib.hid HR
    clear k0 k1 k2 k3 hlb HT3 hk3 HO HR hb4
    generalize hl : t.labels = l at *
    have HL := Lib.hid hl
    clear hl
    go_wp2_with fail
    go_loopw [29] (fun i wr => ∃ a : Nat, a ≤ l.length ∧ i = .int .i64 a ∧ Hid (∀ j, j < a → anyTo (eqTo l (strAt l j)) j = false) ∧ Below w4.heap.size w4 wr) (fun i _ => l.length - (intOf i).toNat)
    case atStart => exact ⟨0, Nat.zero_le _, rfl, Lib.hid (fun j hj => by omega), bl_refl w4⟩
    case round =>
     obtain ⟨a, ha, rfl, hno, hba⟩ := hrel
     by_cases hlt : a < l.length
     ·have hltI : (a : Int) < (l.length : Int) := by omega
      have h0I : (0 : Int) ≤ (a : Int) := by omega
      go_wp2_with fail
      go_loopw [9] (fun k wr2 => ∃ b : Nat, b ≤ a ∧ k = .int .i64 b ∧ Hid (∀ j, j < b → eqTo l (strAt l a) j = false) ∧ Below w4.heap.size w4 wr2) (fun k _ => a - (intOf k).toNat)
      case atStart => exact ⟨0, Nat.zero_le _, rfl, Lib.hid (fun j hj => by omega), hba⟩
      case round =>
       obtain ⟨b, hb, rfl, hnb, hbb⟩ := hrel
       by_cases hlb : b < a
       ·have hlbI : (b : Int) < (a : Int) := by omega
        have h0b : (0 : Int) ≤ (b : Int) := by omega
        have hlb2 : (b : Int) < (l.length : Int) := by omega
        obtain ⟨ad, rfl, hca⟩ := HRD.out a _ (strAt_val l a hlt)
        obtain ⟨ad2, e2, hcb⟩ := HRD.out b _ (strAt_val l b (by omega))
        injection e2 with e2
        subst e2
        have hca2 := cell_below hbb hca
        have hcb2 := cell_below hbb hcb
        have HEQ : Hid (eqTo l (strAt l a) b = ((strAt l a).toList == (strAt l b).toList)) := rfl
        clear hca hcb
        generalize hsa : strAt l a = sa at *
        generalize hsb : strAt l b = sb at *
        have HSA := Lib.hid hsa; have HSB := Lib.hid hsb
        clear hsa hsb
        cases hz : (sa.toList == sb.toList) with
        | true =>
         go_wp2_with fail
         go_quiet (fail)
         go_wp2_with fail
         go_ret
         have hz2 := HEQ.out.trans hz
         refine ⟨ret_int ?_, bl_drewN (bl_step hbb hbl4) _⟩
         rw [hC2.out, if_pos]
         exact anyTo_true hlt (by rw [HSA.out]; exact anyTo_true hlb hz2)
        | false =>
         go_wp2_with fail
         go_quiet (fail)
         go_wp2_with fail
         go_roundw
         case rel =>
          refine ⟨b + 1, by omega, by go_num, Lib.hid (fun j hj => ?_), bl_drewN hbb _⟩
          by_cases e : j = b
          ·subst e; exact HEQ.out.trans hz
          ·exact hnb.out j (by omega)
         case measure => simp [intOf]; omega
       ·obtain rfl : b = a := by omega
        go_wp2_with fail
        go_roundw
        case rel =>
         refine ⟨b + 1, by omega, by go_num, Lib.hid (fun j hj => ?_), hbb⟩
         by_cases e : j = b
         ·subst e; exact anyTo_false hnb.out
         ·exact hno.out j (by omega)
        case measure => simp [intOf]; omega
     ·obtain rfl : a = l.length := by omega
      go_wp2_with fail
      go_ret
      refine ⟨ret_int ?_, bl_step hba hbl4⟩
      rw [hC2.out, if_neg]
      unfold dupL
      rw [anyTo_false hno.out]; simp
theorem ownF_two (s : ByteArray) (n : Int) : ownF 2 s n = nameB s := by unfold ownF; rw [if_neg (by decide), if_pos (by decide)]
theorem ownF_five (s : ByteArray) (n : Int) : ownF 5 s n = nameB s := by unfold ownF; rw [if_neg (by decide), if_pos (by decide)]
theorem ownF_12 (s : ByteArray) (n : Int) : ownF 12 s n = nameB s := by unfold ownF; rw [if_neg (by decide), if_pos (by decide)]
theorem ownF_7 (s : ByteArray) (n : Int) : ownF 7 s n = dayB n := by unfold ownF; rw [if_neg (by decide), if_neg (by decide), if_pos rfl]
theorem ownF_11 (s : ByteArray) (n : Int) : ownF 11 s n = validB n := by unfold ownF; rw [if_neg (by decide), if_neg (by decide), if_neg (by decide), if_pos rfl]
theorem ownF_any (k : Int) (s : ByteArray) (n : Int) (h : k = 1 ∨ k = 3 ∨ k = 4 ∨ k = 14 ∨ k = 13 ∨ k = 15 ∨ k = 16 ∨ k = 6 ∨ k = 8) : ownF k s n = true := by unfold ownF; rw [if_pos h]
theorem Ob.tr_form : ∀ (o : Ob), o.tr.form true = o.form
 | .const n => by unfold Ob.tr Tr.form; rw [ownF_11]; simp [Tr.formAll, Ob.form]
 | .fix s => by unfold Ob.tr Tr.form; rw [ownF_12]; simp [Tr.formAll, Ob.form]
 | .neg o => by unfold Ob.tr Tr.form; rw [ownF_any _ _ _ (by decide)]; simp [Tr.formAll, Ob.form, flagF, o.tr_form]
 | .add l r => by unfold Ob.tr Tr.form; rw [ownF_any _ _ _ (by decide)]; simp [Tr.formAll, Ob.form, flagF, l.tr_form, r.tr_form]
 | .mul l r => by unfold Ob.tr Tr.form; rw [ownF_any _ _ _ (by decide)]; simp [Tr.formAll, Ob.form, flagF, l.tr_form, r.tr_form]
 | .max l r => by unfold Ob.tr Tr.form; rw [ownF_any _ _ _ (by decide)]; simp [Tr.formAll, Ob.form, flagF, l.tr_form, r.tr_form]
 | .odd _ => by unfold Ob.tr Tr.form ownF; simp [Ob.form]
theorem Tm.tr_form : ∀ (o : Tm), o.tr.form false = o.form
 | .zero => by unfold Tm.tr Tr.form; rw [ownF_any _ _ _ (by decide)]; simp [Tr.formAll, Tm.form]
 | .one s => by unfold Tm.tr Tr.form; rw [ownF_two]; simp [Tr.formAll, Tm.form]
 | .give t => by unfold Tm.tr Tr.form; rw [ownF_any _ _ _ (by decide)]; simp [Tr.formAll, Tm.form, flagF, t.tr_form]
 | .and l r => by unfold Tm.tr Tr.form; rw [ownF_any _ _ _ (by decide)]; simp [Tr.formAll, Tm.form, flagF, l.tr_form, r.tr_form]
 | .or s l r => by unfold Tm.tr Tr.form; rw [ownF_five]; simp [Tr.formAll, Tm.form, flagF, l.tr_form, r.tr_form]
 | .scale o t => by unfold Tm.tr Tr.form; rw [ownF_any _ _ _ (by decide)]; simp [Tr.formAll, Tm.form, flagF, o.tr_form, t.tr_form]
 | .when_ n t => by unfold Tm.tr Tr.form; rw [ownF_7]; simp [Tr.formAll, Tm.form, flagF, t.tr_form]
 | .if_ o l r => by unfold Tm.tr Tr.form; rw [ownF_any _ _ _ (by decide)]; simp [Tr.formAll, Tm.form, flagF, o.tr_form, l.tr_form, r.tr_form]
 | .odd _ => by unfold Tm.tr Tr.form ownF; simp [Tm.form]
theorem Ob.tr_nodes : ∀ (o : Ob), o.tr.nodes = o.nodes
 | .const n => by simp [Ob.tr, Tr.nodes, Tr.nodesAll, Ob.nodes]
 | .fix s => by simp [Ob.tr, Tr.nodes, Tr.nodesAll, Ob.nodes]
 | .neg o => by simp [Ob.tr, Tr.nodes, Tr.nodesAll, Ob.nodes, o.tr_nodes]; try omega
 | .add l r => by simp [Ob.tr, Tr.nodes, Tr.nodesAll, Ob.nodes, l.tr_nodes, r.tr_nodes]; try omega
 | .mul l r => by simp [Ob.tr, Tr.nodes, Tr.nodesAll, Ob.nodes, l.tr_nodes, r.tr_nodes]; try omega
 | .max l r => by simp [Ob.tr, Tr.nodes, Tr.nodesAll, Ob.nodes, l.tr_nodes, r.tr_nodes]; try omega
 | .odd _ => by simp [Ob.tr, Tr.nodes, Ob.nodes]
theorem Tm.tr_nodes : ∀ (o : Tm), o.tr.nodes = o.nodes
 | .zero => by simp [Tm.tr, Tr.nodes, Tr.nodesAll, Tm.nodes]
 | .one s => by simp [Tm.tr, Tr.nodes, Tr.nodesAll, Tm.nodes]
 | .give t => by simp [Tm.tr, Tr.nodes, Tr.nodesAll, Tm.nodes, t.tr_nodes]; try omega
 | .and l r => by simp [Tm.tr, Tr.nodes, Tr.nodesAll, Tm.nodes, l.tr_nodes, r.tr_nodes]; try omega
 | .or s l r => by simp [Tm.tr, Tr.nodes, Tr.nodesAll, Tm.nodes, l.tr_nodes, r.tr_nodes]; try omega
 | .scale o t => by simp [Tm.tr, Tr.nodes, Tr.nodesAll, Tm.nodes, o.tr_nodes, t.tr_nodes]; try omega
 | .when_ n t => by simp [Tm.tr, Tr.nodes, Tr.nodesAll, Tm.nodes, t.tr_nodes]; try omega
 | .if_ o l r => by simp [Tm.tr, Tr.nodes, Tr.nodesAll, Tm.nodes, o.tr_nodes, l.tr_nodes, r.tr_nodes]; try omega
 | .odd _ => by simp [Tm.tr, Tr.nodes, Tm.nodes]
theorem Ob.tr_deep : ∀ (o : Ob), o.tr.deep = o.deep
 | .const n => by simp [Ob.tr, Tr.deep, Tr.deepAll, Ob.deep]
 | .fix s => by simp [Ob.tr, Tr.deep, Tr.deepAll, Ob.deep]
 | .neg o => by simp [Ob.tr, Tr.deep, Tr.deepAll, Ob.deep, o.tr_deep]; try (first | omega | exact Nat.add_comm _ _)
 | .add l r => by simp [Ob.tr, Tr.deep, Tr.deepAll, Ob.deep, l.tr_deep, r.tr_deep]; try (first | omega | exact Nat.add_comm _ _)
 | .mul l r => by simp [Ob.tr, Tr.deep, Tr.deepAll, Ob.deep, l.tr_deep, r.tr_deep]; try (first | omega | exact Nat.add_comm _ _)
 | .max l r => by simp [Ob.tr, Tr.deep, Tr.deepAll, Ob.deep, l.tr_deep, r.tr_deep]; try (first | omega | exact Nat.add_comm _ _)
 | .odd _ => by simp [Ob.tr, Tr.deep, Ob.deep]
theorem Tm.tr_deep : ∀ (o : Tm), o.tr.deep = o.deep
 | .zero => by simp [Tm.tr, Tr.deep, Tr.deepAll, Tm.deep]
 | .one s => by simp [Tm.tr, Tr.deep, Tr.deepAll, Tm.deep]
 | .give t => by simp [Tm.tr, Tr.deep, Tr.deepAll, Tm.deep, t.tr_deep]; try (first | omega | exact Nat.add_comm _ _)
 | .and l r => by simp [Tm.tr, Tr.deep, Tr.deepAll, Tm.deep, l.tr_deep, r.tr_deep]; try (first | omega | exact Nat.add_comm _ _)
 | .or s l r => by simp [Tm.tr, Tr.deep, Tr.deepAll, Tm.deep, l.tr_deep, r.tr_deep]; try (first | omega | exact Nat.add_comm _ _)
 | .scale o t => by simp [Tm.tr, Tr.deep, Tr.deepAll, Tm.deep, o.tr_deep, t.tr_deep]; try (first | omega | exact Nat.add_comm _ _)
 | .when_ n t => by simp [Tm.tr, Tr.deep, Tr.deepAll, Tm.deep, t.tr_deep]; try (first | omega | exact Nat.add_comm _ _)
 | .if_ o l r => by simp [Tm.tr, Tr.deep, Tr.deepAll, Tm.deep, o.tr_deep, l.tr_deep, r.tr_deep]; try (first | omega | exact Nat.add_comm _ _)
 | .odd _ => by simp [Tm.tr, Tr.deep, Tm.deep]
theorem Ob.tr_labels : ∀ (o : Ob), o.tr.labels = []
 | .const n => by simp [Ob.tr, Tr.labels, Tr.labelsAll]
 | .fix s => by simp [Ob.tr, Tr.labels, Tr.labelsAll]
 | .neg o => by simp [Ob.tr, Tr.labels, Tr.labelsAll, o.tr_labels]
 | .add l r => by simp [Ob.tr, Tr.labels, Tr.labelsAll, l.tr_labels, r.tr_labels]
 | .mul l r => by simp [Ob.tr, Tr.labels, Tr.labelsAll, l.tr_labels, r.tr_labels]
 | .max l r => by simp [Ob.tr, Tr.labels, Tr.labelsAll, l.tr_labels, r.tr_labels]
 | .odd _ => by simp [Ob.tr, Tr.labels, Tr.labelsAll]
theorem Tm.tr_labels : ∀ (o : Tm), o.tr.labels = o.labels
 | .zero => by simp [Tm.tr, Tr.labels, Tr.labelsAll, Tm.labels]
 | .one s => by simp [Tm.tr, Tr.labels, Tr.labelsAll, Tm.labels]
 | .give t => by simp [Tm.tr, Tr.labels, Tr.labelsAll, Tm.labels, t.tr_labels]
 | .and l r => by simp [Tm.tr, Tr.labels, Tr.labelsAll, Tm.labels, l.tr_labels, r.tr_labels]
 | .or s l r => by simp [Tm.tr, Tr.labels, Tr.labelsAll, Tm.labels, l.tr_labels, r.tr_labels]
 | .scale o t => by simp [Tm.tr, Tr.labels, Tr.labelsAll, Tm.labels, o.tr_labels, t.tr_labels]
 | .when_ n t => by simp [Tm.tr, Tr.labels, Tr.labelsAll, Tm.labels, t.tr_labels]
 | .if_ o l r => by simp [Tm.tr, Tr.labels, Tr.labelsAll, Tm.labels, o.tr_labels, l.tr_labels, r.tr_labels]
 | .odd _ => by simp [Tm.tr, Tr.labels, Tr.labelsAll, Tm.labels]
theorem Tm.tr_check (t : Tm) : t.tr.check false = t.check := by
 unfold Tr.check Tm.check
 rw [t.tr_form, t.tr_nodes, t.tr_deep, t.tr_labels]
/-- A number has no labels: it checks as the tree. -/
theorem Ob.tr_check (t : Ob) : t.tr.check true = t.check := by
 unfold Tr.check Ob.check
 rw [t.tr_form, t.tr_nodes, t.tr_deep, t.tr_labels]
 rfl
theorem Ob.tr_size : ∀ (o : Ob), o.fine → o.tr.size = o.parts
 | .const n, _ => by simp [Ob.tr, Tr.size, Tr.sizeAll, Ob.parts]
 | .fix s, _ => by simp [Ob.tr, Tr.size, Tr.sizeAll, Ob.parts]
 | .neg o, h => by simp [Ob.tr, Tr.size, Tr.sizeAll, Ob.parts, o.tr_size h]; try omega
 | .add l r, h => by simp [Ob.tr, Tr.size, Tr.sizeAll, Ob.parts, l.tr_size h.1, r.tr_size h.2]; try omega
 | .mul l r, h => by simp [Ob.tr, Tr.size, Tr.sizeAll, Ob.parts, l.tr_size h.1, r.tr_size h.2]; try omega
 | .max l r, h => by simp [Ob.tr, Tr.size, Tr.sizeAll, Ob.parts, l.tr_size h.1, r.tr_size h.2]; try omega
 | .odd _, h => h.elim
theorem Tm.tr_size : ∀ (o : Tm), o.fine → o.tr.size = o.parts
 | .zero, _ => by simp [Tm.tr, Tr.size, Tr.sizeAll, Tm.parts]
 | .one s, _ => by simp [Tm.tr, Tr.size, Tr.sizeAll, Tm.parts]
 | .give t, h => by simp [Tm.tr, Tr.size, Tr.sizeAll, Tm.parts, t.tr_size h]; try omega
 | .and l r, h => by simp [Tm.tr, Tr.size, Tr.sizeAll, Tm.parts, l.tr_size h.1, r.tr_size h.2]; try omega
 | .or s l r, h => by simp [Tm.tr, Tr.size, Tr.sizeAll, Tm.parts, l.tr_size h.2.1, r.tr_size h.2.2]; try omega
 | .scale o t, h => by simp [Tm.tr, Tr.size, Tr.sizeAll, Tm.parts, o.tr_size h.1, t.tr_size h.2]; try omega
 | .when_ n t, h => by simp [Tm.tr, Tr.size, Tr.sizeAll, Tm.parts, t.tr_size h.2]; try omega
 | .if_ o l r, h => by simp [Tm.tr, Tr.size, Tr.sizeAll, Tm.parts, o.tr_size h.1, l.tr_size h.2.1, r.tr_size h.2.2]; try omega
 | .odd _, h => h.elim
theorem nodeOk_small (k : Int) (s : ByteArray) (n : Int) (hk : 0 ≤ k ∧ k ≤ 20) (hs : s.size ≤ 14) (hn : -1000000000000 ≤ n ∧ n ≤ 1000000000000) : nodeOk k s n := ⟨by omega, by omega, by omega⟩
theorem Ob.tr_ok : ∀ (o : Ob), o.fine → o.tr.ok
 | .const n, h => by unfold Ob.tr Tr.ok Tr.okAll; exact ⟨nodeOk_small _ _ _ (by omega) (by decide) h, trivial⟩
 | .fix s, h => by unfold Ob.tr Tr.ok Tr.okAll; exact ⟨nodeOk_small _ _ _ (by omega) h (by omega), trivial⟩
 | .neg o, h => by unfold Ob.tr Tr.ok Tr.okAll Tr.okAll; exact ⟨nodeOk_small _ _ _ (by omega) (by decide) (by omega), o.tr_ok h, trivial⟩
 | .add l r, h => by unfold Ob.tr Tr.ok Tr.okAll Tr.okAll Tr.okAll; exact ⟨nodeOk_small _ _ _ (by omega) (by decide) (by omega), l.tr_ok h.1, r.tr_ok h.2, trivial⟩
 | .mul l r, h => by unfold Ob.tr Tr.ok Tr.okAll Tr.okAll Tr.okAll; exact ⟨nodeOk_small _ _ _ (by omega) (by decide) (by omega), l.tr_ok h.1, r.tr_ok h.2, trivial⟩
 | .max l r, h => by unfold Ob.tr Tr.ok Tr.okAll Tr.okAll Tr.okAll; exact ⟨nodeOk_small _ _ _ (by omega) (by decide) (by omega), l.tr_ok h.1, r.tr_ok h.2, trivial⟩
 | .odd _, h => h.elim
theorem Tm.tr_ok : ∀ (o : Tm), o.fine → o.tr.ok
 | .zero, h => by unfold Tm.tr Tr.ok Tr.okAll; exact ⟨nodeOk_small _ _ _ (by omega) (by decide) (by omega), trivial⟩
 | .one s, h => by unfold Tm.tr Tr.ok Tr.okAll; exact ⟨nodeOk_small _ _ _ (by omega) h (by omega), trivial⟩
 | .give t, h => by unfold Tm.tr Tr.ok Tr.okAll Tr.okAll; exact ⟨nodeOk_small _ _ _ (by omega) (by decide) (by omega), t.tr_ok h, trivial⟩
 | .and l r, h => by unfold Tm.tr Tr.ok Tr.okAll Tr.okAll Tr.okAll; exact ⟨nodeOk_small _ _ _ (by omega) (by decide) (by omega), l.tr_ok h.1, r.tr_ok h.2, trivial⟩
 | .or s l r, h => by unfold Tm.tr Tr.ok Tr.okAll Tr.okAll Tr.okAll; exact ⟨nodeOk_small _ _ _ (by omega) h.1 (by omega), l.tr_ok h.2.1, r.tr_ok h.2.2, trivial⟩
 | .scale o t, h => by unfold Tm.tr Tr.ok Tr.okAll Tr.okAll Tr.okAll; exact ⟨nodeOk_small _ _ _ (by omega) (by decide) (by omega), o.tr_ok h.1, t.tr_ok h.2, trivial⟩
 | .when_ n t, h => by unfold Tm.tr Tr.ok Tr.okAll Tr.okAll; exact ⟨nodeOk_small _ _ _ (by omega) (by decide) (by have := h.1; omega), t.tr_ok h.2, trivial⟩
 | .if_ o l r, h => by unfold Tm.tr Tr.ok Tr.okAll Tr.okAll Tr.okAll Tr.okAll; exact ⟨nodeOk_small _ _ _ (by omega) (by decide) (by omega), o.tr_ok h.1, l.tr_ok h.2.1, r.tr_ok h.2.2, trivial⟩
 | .odd _, h => h.elim
theorem qOf_range (w0 : World) (vN : Value) (i : Nat) (l : Int) (d : Nat) : 0 ≤ qOf w0 vN i l d 13 ∧ qOf w0 vN i l d 13 < 13 := by
 unfold qOf
 split <;> omega
theorem pterm_calls (w0 : World) (g : Nat) (vN vW : Value) : ∀ (d : Nat), d ≤ 10 → ∀ (w : World) (i : Nat) (l : Int) (b : Nat), Mk w0 g vN vW i l b w → i + cot d ≤ 1000000000 → b + cot d ≤ 1000000000 → -100 ≤ l → l ≤ 100 →
  Calls Tryz.prog 88 #[.pointer (some ⟨g, 0, none⟩), .int .i64 d] w (TmPost w0 g vN vW i l b d w) := by
 intro d
 induction d using Nat.strongRecOn with
 | _ d ih =>
  intro hd w i l b hm hi hb hl0 hl1
  obtain ⟨h0, h1⟩ := qOf_range w0 vN i l d
  have hih : PtIh w0 g vN vW d := ih
  by_cases ha : qOf w0 vN i l d 13 ≤ 2
  ·exact pterm_a w0 g vN vW d hih hd w i l b hm hi hb hl0 hl1 (by omega)
  by_cases hb' : qOf w0 vN i l d 13 = 3 ∨ qOf w0 vN i l d 13 = 4 ∨ qOf w0 vN i l d 13 = 11
  ·exact pterm_b w0 g vN vW d hih hd w i l b hm hi hb hl0 hl1 hb'
  by_cases hc : qOf w0 vN i l d 13 = 5 ∨ qOf w0 vN i l d 13 = 6
  ·exact pterm_c w0 g vN vW d hih hd w i l b hm hi hb hl0 hl1 hc
  by_cases hdd : qOf w0 vN i l d 13 = 7 ∨ qOf w0 vN i l d 13 = 8
  ·exact pterm_d w0 g vN vW d hih hd w i l b hm hi hb hl0 hl1 hdd
  by_cases he : qOf w0 vN i l d 13 = 9 ∨ qOf w0 vN i l d 13 = 10
  ·exact pterm_e w0 g vN vW d hih hd w i l b hm hi hb hl0 hl1 he
  exact pterm_f w0 g vN vW d hih hd w i l b hm hi hb hl0 hl1 (by omega)
/-- What a plan gives as a contract's tree. -/
def GivesTr (w : World) (e : Ending) (w' : World) : Prop := ∃ (t : Tm) (v : Value), e = .returned v ∧ TrAt w.heap.size w' t.tr v ∧ t.fine ∧ t.parts ≤ 34 ∧ Below w.heap.size w w'
set_option maxRecDepth 100000 in
set_option maxHeartbeats 2000000 in
theorem pcontract_calls (w : World) (vN vW : Value) (hp : PlanAt w vN vW) : Calls Tryz.prog 60 #[.agg #[vN, vW]] w (GivesTr w) := by
 obtain ⟨⟨A, n, c, xs, rfl, hn⟩, ⟨A', n', c', xs', rfl, hn'⟩⟩ := id hp
 clear hn hn'
 have hbM := bl_alloc (bl_alloc (bl_alloc (bl_refl w) (.cells #[.slice A n c, .slice A' n' c'] 25)) (.cells #[.int .i64 0, .string ⟨#[]⟩, .int .i64 0, .slice none 0 0] 33)) (.cells #[.slice A n c, .slice A' n' c', .int .i64 0, .int .i64 24, .int .i64 0] 186)
 have hsz1 := alloc_size w (.cells #[.slice A n c, .slice A' n' c'] 25)
 have hsz2 := alloc_size (w.alloc (.cells #[.slice A n c, .slice A' n' c'] 25)) (.cells #[.int .i64 0, .string ⟨#[]⟩, .int .i64 0, .slice none 0 0] 33)
 have hkM := Blk_new ((w.alloc (.cells #[.slice A n c, .slice A' n' c'] 25)).alloc (.cells #[.int .i64 0, .string ⟨#[]⟩, .int .i64 0, .slice none 0 0] 33)) #[.slice A n c, .slice A' n' c', .int .i64 0, .int .i64 24, .int .i64 0] 186 (w.heap.size + 1 + 1) (by omega)
 have hkR := (Blk_new (w.alloc (.cells #[.slice A n c, .slice A' n' c'] 25)) #[.int .i64 0, .string ⟨#[]⟩, .int .i64 0, .slice none 0 0] 33 (w.heap.size + 1) (by omega)).below (bl_alloc (bl_refl _) (.cells #[.slice A n c, .slice A' n' c', .int .i64 0, .int .i64 24, .int .i64 0] 186))
 have hszM := alloc_size ((w.alloc (.cells #[.slice A n c, .slice A' n' c'] 25)).alloc (.cells #[.int .i64 0, .string ⟨#[]⟩, .int .i64 0, .slice none 0 0] 33)) (.cells #[.slice A n c, .slice A' n' c', .int .i64 0, .int .i64 24, .int .i64 0] 186)
 have hsM : w.heap.size + 1 + 1 < (((w.alloc (.cells #[.slice A n c, .slice A' n' c'] 25)).alloc (.cells #[.int .i64 0, .string ⟨#[]⟩, .int .i64 0, .slice none 0 0] 33)).alloc (.cells #[.slice A n c, .slice A' n' c', .int .i64 0, .int .i64 24, .int .i64 0] 186)).heap.size := by omega
 have hM : Mk w (w.heap.size + 1 + 1) (.slice A n c) (.slice A' n' c') 0 24 0 (((w.alloc (.cells #[.slice A n c, .slice A' n' c'] 25)).alloc (.cells #[.int .i64 0, .string ⟨#[]⟩, .int .i64 0, .slice none 0 0] 33)).alloc (.cells #[.slice A n c, .slice A' n' c', .int .i64 0, .int .i64 24, .int .i64 0] 186)) := ⟨hkM, by omega, hbM, hp⟩
 have hr : Calls Tryz.prog 88 #[.pointer (some ⟨w.heap.size + 1 + 1, 0, none⟩), .int .i64 5] (((w.alloc (.cells #[.slice A n c, .slice A' n' c'] 25)).alloc (.cells #[.int .i64 0, .string ⟨#[]⟩, .int .i64 0, .slice none 0 0] 33)).alloc (.cells #[.slice A n c, .slice A' n' c', .int .i64 0, .int .i64 24, .int .i64 0] 186)) (TmPost w (w.heap.size + 1 + 1) (.slice A n c) (.slice A' n' c') 0 24 0 5 (((w.alloc (.cells #[.slice A n c, .slice A' n' c'] 25)).alloc (.cells #[.int .i64 0, .string ⟨#[]⟩, .int .i64 0, .slice none 0 0] 33)).alloc (.cells #[.slice A n c, .slice A' n' c', .int .i64 0, .int .i64 24, .int .i64 0] 186))) := pterm_calls w (w.heap.size + 1 + 1) (.slice A n c) (.slice A' n' c') 5 (by omega) _ 0 24 0 hM (by decide) (by decide) (by omega) (by omega)
 unfold TmPost at hr
 have HR := Lib.hid hr; have HK := Lib.hid hkR; have HS := Lib.hid hsM
 clear hr hkR hsz1 hsz2 hszM hsM hkM hbM hM hp
 go_enter Tryz.func60, Tryz.ntmps60
 go_wp2_with fail
 refine HR.out.mono ?_
 rintro e w2 ⟨t, v, i2, l2, b2, rfl, hT, hf, hm2, -, hmd⟩
 obtain ⟨A3, c3, cs3, rfl, -, -⟩ := hT.open_
 have hk2 := HK.out.grown hmd.gb (fun e => by injection e with e; omega)
 obtain ⟨⟨k0, k1, k2, k3⟩, ⟨y0, y1, y2, y3⟩⟩ := hk2.four
 have hsz := hmd.gb.size
 have HK2 := Lib.hid hk2; have HMD := Lib.hid hmd; have HM2 := Lib.hid hm2; have HT := Lib.hid hT; have HZ := Lib.hid hsz
 clear hk2 hmd hm2 hT hsz HR HK
 go_wp2_with fail
 (try simp only [Exit.inBlock, Exit.then])
 refine bodyPost_ret (results_T rfl _ _ (w.heap.size + 1) _ _ _ _ _ rfl (HK2.out.set4 _ _ _ _)) rfl ?_
 have h1 := HMD.out.cnt; have h2 := HMD.out.low (by omega); have hs := HS.out
 exact ⟨t, _, rfl, (HT.out.set4 (r := w.heap.size + 1) (by omega) _ _ _ _).mono (by omega), hf, by omega, bl_grown HM2.out.bel (gb4 _ _ _ _ _ _) (by omega)⟩
/-- What a plan gives as the tree of a contract that may be. -/
def GivesR (w : World) (e : Ending) (w' : World) : Prop := ∃ (t : Tm) (v : Value), e = .returned v ∧ TrAt w.heap.size w' t.tr v ∧ t.fine ∧ t.parts ≤ 34 ∧ t.check = 0 ∧ Below w.heap.size w w'
def oneUsd : Tm := .one ⟨#[117, 115, 100]⟩
theorem oneUsd_check : oneUsd.check = 0 := by decide +kernel
set_option maxRecDepth 100000 in
set_option maxHeartbeats 2000000 in
theorem rright_calls (w : World) (vN vW : Value) (hp : PlanAt w vN vW) : Calls Tryz.prog 59 #[.agg #[vN, vW]] w (GivesR w) := by
 obtain ⟨⟨A, n, c, xs, rfl, hn⟩, ⟨A', n', c', xs', rfl, hn'⟩⟩ := id hp
 clear hn hn'
 obtain ⟨W1, hW1⟩ : ∃ W1, (w.alloc (.cells #[.slice A n c, .slice A' n' c'] 25)).alloc (.cells #[.int .i64 0, .string ⟨#[]⟩, .int .i64 0, .slice none 0 0] 33) = W1 := ⟨_, rfl⟩
 have hb1 := bl_alloc (bl_alloc (bl_refl w) (.cells #[.slice A n c, .slice A' n' c'] 25)) (.cells #[.int .i64 0, .string ⟨#[]⟩, .int .i64 0, .slice none 0 0] 33)
 have hkP := (Blk.new w #[.slice A n c, .slice A' n' c'] 25).below (bl_alloc (bl_refl _) (.cells #[.int .i64 0, .string ⟨#[]⟩, .int .i64 0, .slice none 0 0] 33))
 have hkR := Blk_new (w.alloc (.cells #[.slice A n c, .slice A' n' c'] 25)) #[.int .i64 0, .string ⟨#[]⟩, .int .i64 0, .slice none 0 0] 33 (w.heap.size + 1) (alloc_size _ _).symm
 have hs1 := alloc_size (w.alloc (.cells #[.slice A n c, .slice A' n' c'] 25)) (.cells #[.int .i64 0, .string ⟨#[]⟩, .int .i64 0, .slice none 0 0] 33)
 have hs0 := alloc_size w (.cells #[.slice A n c, .slice A' n' c'] 25)
 rw [hW1] at hb1 hkP hkR hs1
 have HS1 := Lib.hid (show w.heap.size + 1 < W1.heap.size by omega)
 have p0 := hkP.cell 0
 have p1 := hkP.cell 1
 have hn := pcontract_calls W1 _ _ (hp.below hb1)
 unfold GivesTr at hn
 have HW1 := Lib.hid hW1; have HKR := Lib.hid hkR
 clear hW1 hkP hkR hs1 hs0 hp
 go_enter Tryz.func59, Tryz.ntmps59
 go_wp2_with (rw [HW1.out])
 refine hn.mono ?_
 rintro e w2 ⟨t, v, rfl, hT, hf, hparts, hb2⟩
 have hbl := bl_step hb2 hb1
 have hkR2 := HKR.out.below hb2
 obtain ⟨A3, c3, cs3, rfl, -, -⟩ := hT.open_
 obtain ⟨W3, hW3⟩ : ∃ W3, w2.alloc (.cells #[.int .i64 t.tr.kind, .string t.tr.s, .int .i64 t.tr.n, .slice A3 t.tr.ks.length c3] 33) = W3 := ⟨_, rfl⟩
 have hb3 := bl_alloc (bl_refl w2) (.cells #[.int .i64 t.tr.kind, .string t.tr.s, .int .i64 t.tr.n, .slice A3 t.tr.ks.length c3] 33)
 have hkT := Blk.new w2 #[.int .i64 t.tr.kind, .string t.tr.s, .int .i64 t.tr.n, .slice A3 t.tr.ks.length c3] 33
 rw [hW3] at hb3 hkT
 have hT3 := hT.below hb3
 have hc := rcheck_calls t.tr (by rw [t.tr_size hf]; omega) (t.tr_ok hf) false _ W3 _ hT3
 rw [t.tr_check] at hc
 obtain ⟨⟨k0, k1, k2, k3⟩, _⟩ := hkT.four
 have hblW := bl_step hb3 hbl
 have hkR3 := hkR2.below hb3
 have HW3 := Lib.hid hW3; have HC := Lib.hid hc; have HT3 := Lib.hid hT3; have HKT := Lib.hid hkT; have HKR3 := Lib.hid hkR3
 clear hn hW3 hc hT hT3 hkT hkR2 hkR3 hb2 hb3 p0 p1 HKR hbl
 go_wp2_with (rw [HW3.out])
 refine HC.out.mono ?_
 rintro e w4 ⟨rfl, hb4⟩
 have hk4 := HKT.out.below hb4
 have hr4 := HKR3.out.below hb4
 have HB4 := Lib.hid (bl_step hb4 hblW); have HT4 := Lib.hid (HT3.out.below hb4); have HR4 := Lib.hid hr4
 clear k0 k1 k2 k3
 obtain ⟨⟨k0, k1, k2, k3⟩, _⟩ := hk4.four
 obtain ⟨⟨m0, m1, m2, m3⟩, ⟨x0, x1, x2, x3⟩⟩ := hr4.four
 clear hk4 hr4 HC hblW HT3 HKT HKR3 hb4
 generalize hck : t.check = ck at *
 have HCK := Lib.hid hck
 clear hck
 by_cases h0 : ck = 0
 ·subst h0
  go_wp2_with fail
  (try simp only [Exit.inBlock, Exit.then])
  refine bodyPost_ret (results_T rfl _ _ (w.heap.size + 1) _ _ _ _ _ rfl (HR4.out.set4 _ _ _ _)) rfl ?_
  have hs := HS1.out
  exact ⟨t, _, rfl, (HT4.out.set4 (r := w.heap.size + 1) (by omega) _ _ _ _).mono (by omega), hf, hparts, HCK.out, bl_grown HB4.out (gb4 _ _ _ _ _ _) (by omega)⟩
 ·have h0b : (ck == 0) = false := by simpa using h0
  go_wp2_with fail
  (try simp only [Exit.inBlock, Exit.then])
  refine bodyPost_ret (results_T rfl _ _ (w.heap.size + 1) _ _ _ _ _ rfl (HR4.out.set4 _ _ _ _)) rfl ?_
  exact ⟨oneUsd, _, rfl, TrAt.leaf _ _ _ _ _ _, show (3 : Nat) ≤ 14 by decide, show (1 : Nat) ≤ 34 by decide, oneUsd_check, bl_grown HB4.out (gb4 _ _ _ _ _ _) (by omega)⟩
end Go.Proofs.YtapbkomicihkkaaGreatDoor
