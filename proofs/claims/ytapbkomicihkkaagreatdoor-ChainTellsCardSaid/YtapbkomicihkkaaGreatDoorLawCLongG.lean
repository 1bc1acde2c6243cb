/- ChainLong: the walk. -/
import Derived.Test.YtapbkomicihkkaaGreatDoorChnB
import Derived.Test.YtapbkomicihkkaaGreatDoorEventG
namespace Go.Proofs.YtapbkomicihkkaaGreatDoor
open Go.RowKit
set_option linter.unusedVariables false
set_option linter.unusedSimpArgs false

def key1 : List UInt8 := [1, 0, 0, 0, 0, 0, 0, 0, 0, 0, 0, 0, 0, 0, 0, 0]
theorem passE_small : passE.small := ⟨passE_ok, by decide, by decide, by decide, by decide, by decide⟩
theorem Ch.new_ok (key : List UInt8) (hk : key.length = 16) : (Ch.mk key [] [0]).ok :=
  { key := hk
    len := rfl
    es := fun x hx => (by cases hx)
    hs := fun h hh => (by
      obtain rfl : h = 0 := by simpa using hh
      exact ⟨by decide, by decide⟩)
    max := (by show 0 ≤ 64; omega) }
def passN : En := ⟨passE, false⟩
theorem bl_gb {w W w' : World} {g : Nat} (h : Below w.heap.size w W) (hg : w.heap.size ≤ g) (k : W.grownBy w' (some g)) : Below w.heap.size w w' := bl_grown h k hg
set_option maxRecDepth 100000 in
set_option maxHeartbeats 4000000 in
theorem wakes13_calls (w : World) (ht : TabOk w) :
    Calls Tryz.prog 27 #[] w fun e w' => e = .returned (.bool true) ∧ Below w.heap.size w w' := by
  have hnw := cnew_calls w key1 rfl w (Nat.le_refl _)
  unfold RetCh at hnw
  have ho := Ch.new_ok key1 rfl
  have hhd := fun g W hW => chead_calls w g ⟨key1, [], [0]⟩ ho W hW
  have had := fun g W hW ht => cadd_calls w g ⟨key1, [], [0]⟩ ho passN passE_small W hW ht
  have ha : Ch.add ⟨key1, [], [0]⟩ passN = (⟨key1, [passN], [0, passN.next key1 0]⟩, 0) := by
    unfold Ch.add
    rw [if_neg (by show ¬ 64 ≤ 0; omega), if_pos (show passN.ev.check = 0 from passE_check)]
    rfl
  have ho2 := Ch.add_ok ho passN passE_small
  rw [ha] at ho2
  have hln := fun g W hW => clen_calls w g ⟨key1, [passN], [0, passN.next key1 0]⟩ ho2 W hW
  unfold RetAdd at had
  simp only [ha] at had
  have hka : (byts key1).toArray = #[.int .u8 1, .int .u8 0, .int .u8 0, .int .u8 0, .int .u8 0, .int .u8 0, .int .u8 0, .int .u8 0, .int .u8 0, .int .u8 0, .int .u8 0, .int .u8 0, .int .u8 0, .int .u8 0, .int .u8 0, .int .u8 0] := rfl
  have hpn : passN.val = .agg #[.int .i64 1, .string ⟨#[]⟩, .string ⟨#[]⟩, .string ⟨#[]⟩, .string ⟨#[]⟩, .int .i64 0, .int .i64 0, .nilIface, .bool false] := rfl
  rw [hka] at hnw
  rw [hpn] at had
  have hH : (Ch.mk key1 [] [0]).head = 0 := rfl
  rw [hH] at hhd
  have HNW := Lib.hid hnw; have HHD := Lib.hid hhd; have HAD := Lib.hid had; have HLN := Lib.hid hln; have HT := Lib.hid ht
  clear hnw hhd had hln ht ha ho ho2 hka hpn hH
  go_enter Tryz.func27, Tryz.ntmps27
  go_wp2_with fail
  refine (HNW.out).mono ?_
  rintro en w1 ⟨g, rfl, hC, hg, hb⟩
  have HC := Lib.hid hC; have HB := Lib.hid hb; have HG := Lib.hid hg
  clear hC hb hg
  go_wp2_with fail
  refine (HHD.out g _ HC.out).mono ?_
  rintro en w2 ⟨rfl, hb⟩
  have hC := HC.out.below hb
  have hB := bl_step hb HB.out
  clear hb
  go_wp2_with fail
  refine (HAD.out g _ hC (HT.out.below hB)).mono ?_
  rintro en w3 ⟨rfl, hC3, hg3, -⟩
  have hB3 := bl_gb hB HG.out hg3
  clear hC hB hg3
  go_wp2_with fail
  refine (HLN.out g _ hC3).mono ?_
  rintro en w4 ⟨rfl, hb⟩
  have hB4 := bl_step hb hB3
  go_wp2_with fail
  go_ret
  exact ⟨rfl, hB4⟩
end Go.Proofs.YtapbkomicihkkaaGreatDoor
namespace Go.Proofs.YtapbkomicihkkaaGreatDoor
open Go.RowKit
set_option linter.unusedVariables false
set_option linter.unusedSimpArgs false

/-- The event of a day. -/
def dayE (i : Nat) : Ev := ⟨5, noS, noS, noS, noS, (i : Int), 0, .odd .nilIface⟩
theorem dayE_check : ∀ i, i < 64 → (dayE i).check = 0 := by decide +kernel
theorem dayE_small (i : Nat) (h : i < 64) : (dayE i).small :=
  ⟨⟨by unfold IsInt64; show _ ≤ (5 : Int) ∧ (5 : Int) < _; decide, by unfold IsInt64; show _ ≤ (i : Int) ∧ (i : Int) < _; omega, by unfold IsInt64; show _ ≤ (0 : Int) ∧ (0 : Int) < _; decide, .inl rfl⟩, by show Tm.meas (.odd .nilIface) ≤ _; decide, by show noS.size ≤ _; decide, by show noS.size ≤ _; decide, by show noS.size ≤ _; decide, by show noS.size ≤ _; decide⟩
/-- The entry of a day. -/
def dayN (i : Nat) : En := ⟨dayE i, (i : Int).tmod 3 == 0⟩
/-- The chain of so many days. -/
def chL (key : List UInt8) : Nat → Ch
  | 0 => ⟨key, [], [0]⟩
  | k + 1 => ((chL key k).add (dayN k)).1
structure ChL (key : List UInt8) (k : Nat) : Prop where
  ok : (chL key k).ok
  keyE : (chL key k).key = key
  es : (chL key k).es = (List.range k).map dayN
theorem chL_len {key : List UInt8} {k : Nat} (h : ChL key k) : (chL key k).es.length = k := by rw [h.es]; simp
theorem chL_all (key : List UInt8) (hk : key.length = 16) : ∀ k, k ≤ 64 → ChL key k
  | 0, _ => ⟨Ch.new_ok key hk, rfl, rfl⟩
  | k + 1, h => by
    have ih := chL_all key hk k (by omega)
    have hl := chL_len ih
    have ha : (chL key k).add (dayN k) = (⟨(chL key k).key, (chL key k).es ++ [dayN k], (chL key k).hs ++ [(dayN k).next (chL key k).key (chL key k).head]⟩, 0) := by
      unfold Ch.add
      rw [if_neg (by rw [hl]; omega), if_pos (show (dayN k).ev.check = 0 from dayE_check k (by omega))]
    refine ⟨Ch.add_ok ih.ok _ (dayE_small k (by omega)), ?_, ?_⟩
    · show ((chL key k).add (dayN k)).1.key = key
      rw [ha]; exact ih.keyE
    · show ((chL key k).add (dayN k)).1.es = _
      rw [ha]
      show (chL key k).es ++ [dayN k] = _
      rw [ih.es, List.range_succ, List.map_append]; rfl
theorem chL_add (key : List UInt8) (hk : key.length = 16) (k : Nat) (h : k < 64) : (chL key k).add (dayN k) = (chL key (k + 1), 0) ∧ ∃ z, (chL key (k + 1)).hs = (chL key k).hs ++ [z] := by
  have ih := chL_all key hk k (by omega)
  have hl := chL_len ih
  have ha : (chL key k).add (dayN k) = (⟨(chL key k).key, (chL key k).es ++ [dayN k], (chL key k).hs ++ [(dayN k).next (chL key k).key (chL key k).head]⟩, 0) := by
    unfold Ch.add
    rw [if_neg (by rw [hl]; omega), if_pos (show (dayN k).ev.check = 0 from dayE_check k (by omega))]
  refine ⟨Prod.ext rfl (by rw [ha]), _, by show ((chL key k).add (dayN k)).1.hs = _; rw [ha]⟩
theorem chL_full (key : List UInt8) (hk : key.length = 16) (x : En) : (chL key 64).add x = (chL key 64, 5) := by
  unfold Ch.add
  rw [if_pos (by rw [chL_len (chL_all key hk 64 (by omega))]; omega)]
theorem chL_head (key : List UInt8) (hk : key.length = 16) (n : Nat) : ∀ k, k ≤ 64 → n ≤ k → (chL key k).hs.getD n 0 = (chL key n).head
  | 0, _, h => by
    obtain rfl : n = 0 := by omega
    rfl
  | k + 1, hk64, h => by
    by_cases e : n = k + 1
    · subst e
      unfold Ch.head
      rw [chL_len (chL_all key hk (k + 1) hk64)]
    · have ih := chL_head key hk n k (by omega) (by omega)
      obtain ⟨-, z, hz⟩ := chL_add key hk k (by omega)
      have hl := (chL_all key hk k (by omega)).ok.len
      rw [chL_len (chL_all key hk k (by omega))] at hl
      rw [hz, ← ih, List.getD_eq_getElem?_getD, List.getD_eq_getElem?_getD, List.getElem?_append_left (by omega)]
/-- The heads that the law keeps. -/
def headsL (key : List UInt8) (k : Nat) : List Int := (List.range k).map fun j => (chL key j).head
theorem headsL_succ (key : List UInt8) (k : Nat) : headsL key (k + 1) = headsL key k ++ [(chL key k).head] := by
  unfold headsL; rw [List.range_succ, List.map_append]; rfl
theorem rowsE_get : ∀ (l : List En) (m j : Nat) (x : En), l[m]? = some x → j < 9 → (rowsE l)[m * 9 + j]? = x.row[j]?
  | [], m, j, x, h, _ => by simp at h
  | y :: l, 0, j, x, h, hj => by
    obtain rfl : y = x := by simpa using h
    unfold rowsE
    rw [List.flatMap_cons, Nat.zero_mul, Nat.zero_add, List.getElem?_append_left (by rw [y.row_length]; exact hj)]
  | y :: l, m + 1, j, x, h, hj => by
    unfold rowsE
    rw [List.flatMap_cons, List.getElem?_append_right (by rw [y.row_length]; omega), y.row_length, show (m + 1) * 9 + j - 9 = m * 9 + j by omega]
    exact rowsE_get l m j x (by simpa using h) hj
theorem ChAt.blk {w0 W : World} {g : Nat} {c : Ch} (h : ChAt w0 W g c) : ∃ cs, Blk W g cs 101 := by
  obtain ⟨vl, vh, h1, -⟩ := h
  exact ⟨_, h1⟩
end Go.Proofs.YtapbkomicihkkaaGreatDoor
namespace Go.Proofs.YtapbkomicihkkaaGreatDoor
open Go.RowKit
set_option linter.unusedVariables false
set_option linter.unusedSimpArgs false

theorem dayN_val (k : Nat) : (dayN k).val = .agg #[.int .i64 5, .string ⟨#[]⟩, .string ⟨#[]⟩, .string ⟨#[]⟩, .string ⟨#[]⟩, .int .i64 (k : Int), .int .i64 0, .nilIface, .bool ((k : Int).tmod 3 == 0)] := rfl
theorem passN_val : passN.val = .agg #[.int .i64 1, .string ⟨#[]⟩, .string ⟨#[]⟩, .string ⟨#[]⟩, .string ⟨#[]⟩, .int .i64 0, .int .i64 0, .nilIface, .bool false] := rfl
theorem days_get (key : List UInt8) (hk : key.length = 16) (m : Nat) (hm : m < 64) : (rowsE (chL key 64).es)[m * 9 + 5]? = some (.int .i64 (m : Int)) ∧ (rowsE (chL key 64).es)[m * 9 + 8]? = some (.bool ((m : Int).tmod 3 == 0)) := by
  have he := (chL_all key hk 64 (by omega)).es
  have hx : (chL key 64).es[m]? = some (dayN m) := by rw [he]; simp [hm]
  exact ⟨(rowsE_get _ m 5 _ hx (by omega)).trans rfl, (rowsE_get _ m 8 _ hx (by omega)).trans rfl⟩
theorem ChAt.kept {wk W W1 : World} {g : Nat} {c : Ch} {r : Option Nat} (h : ChAt wk W g c) (hg : W.grownBy W1 r) (h1 : r ≠ some g) (h2 : ∀ b, r = some b → b < wk.heap.size) : ChAt wk W1 g c := by
  obtain ⟨vl, vh, k1, k2, k3, k4⟩ := h
  have ne : ∀ {v : Value} {e size n : Nat} {xs : List Value}, Own wk W e size v n xs → v.ownBlock = none ∨ v.ownBlock ≠ r := fun {v e size n xs} ho => by
    cases hv : v.ownBlock with
    | none => exact .inl rfl
    | some b => exact .inr (fun e => by have := Own.at_base ho b hv; have := h2 b e.symm; omega)
  exact ⟨vl, vh, k1.grown hg h1, k2.kept hg (ne k2), k3.kept hg (ne k3), Nat.le_trans k4 hg.size⟩
theorem Own.blkOf {w0 W : World} {e size n : Nat} {v : Value} {xs : List Value} (h : Own w0 W e size v n xs) (hn : 0 < n) :
    ∃ g cap, v = .slice (some ⟨g, 0, none⟩) n cap ∧ w0.heap.size ≤ g ∧ g < W.heap.size ∧ n ≤ cap ∧ (∀ j u, xs[j]? = some u → W.cell? ⟨g, j, none⟩ = some u) ∧ (∀ j, W.frozen? ⟨g, j, none⟩ = false) := by
  rcases h.2 with ⟨rfl, h0⟩ | ⟨g, cap, cur, rfl, hb, hh, hle, _, hsz, hxs⟩
  · omega
  · have hk : Blk W g cur e := hh
    refine ⟨g, cap, rfl, hb, hk.lt, hle, fun j u hu => ?_, fun j => hk.frozen j⟩
    rw [hk.cell]
    rw [← hxs, List.getElem?_take] at hu
    split at hu
    · simpa using hu
    · cases hu
end Go.Proofs.YtapbkomicihkkaaGreatDoor
