/- ChainLong: the walk. -/
import Derived.Test.YtapbkomicihkkaaDoorEvent3
import Derived.Test.YtapbkomicihkkaaDoorChn6
namespace Go.Proofs.YtapbkomicihkkaaDoor
open Go.RowKit
set_option linter.unusedVariables false
set_option linter.unusedSimpArgs false

def noS : ByteArray := ⟨#[]⟩
def passE : Ev := ⟨1, noS, noS, noS, noS, 0, 0, .odd .nilIface⟩
def zeroE : Ev := ⟨0, noS, noS, noS, noS, 0, 0, .odd .nilIface⟩
theorem passE_ok : passE.ok := ⟨by unfold IsInt64; decide, by unfold IsInt64; decide, by unfold IsInt64; decide, .inl rfl⟩
theorem zeroE_ok : zeroE.ok := ⟨by unfold IsInt64; decide, by unfold IsInt64; decide, by unfold IsInt64; decide, .inl rfl⟩
theorem passE_check : passE.check = 0 := by decide +kernel
theorem zeroE_check : zeroE.check = 1 := by decide +kernel
end Go.Proofs.YtapbkomicihkkaaDoor
namespace Go.Proofs.YtapbkomicihkkaaDoor
open Go.RowKit
set_option linter.unusedVariables false
set_option linter.unusedSimpArgs false

def key1 : List UInt8 := [1, 0, 0, 0, 0, 0, 0, 0, 0, 0, 0, 0, 0, 0, 0, 0]
theorem passE_small : passE.small := ⟨passE_ok, by decide, by decide, by decide, by decide, by decide⟩
theorem Ch.new_ok (key : List UInt8) (hk : key.length = 16) : (Ch.mk key [] [0]).ok :=
  { key := hk
    len := rfl
    es := fun x hx => (by cases hx)
    hs := fun h hh => (by
      obtain rfl : h = 0 := by simpa using hh
      exact ⟨by decide, by decide⟩)
    max := (by show 0 ≤ 64; omega) }
def passN : En := ⟨passE, false⟩
theorem bl_gb {w W w' : World} {g : Nat} (h : Below w.heap.size w W) (hg : w.heap.size ≤ g) (k : W.grownBy w' (some g)) : Below w.heap.size w w' := bl_grown h k hg
set_option maxRecDepth 100000 in
set_option maxHeartbeats 4000000 in
theorem wakes13_calls (w : World) (ht : TabOk w) :
    Calls Tryd.prog 21 #[] w fun e w' => e = .returned (.bool true) ∧ Below w.heap.size w w' := by
  have hnw := cnew_calls w key1 rfl w (Nat.le_refl _)
  unfold RetCh at hnw
  have ho := Ch.new_ok key1 rfl
  have hhd := fun g W hW => chead_calls w g ⟨key1, [], [0]⟩ ho W hW
  have had := fun g W hW ht => cadd_calls w g ⟨key1, [], [0]⟩ ho passN passE_small W hW ht
  have ha : Ch.add ⟨key1, [], [0]⟩ passN = (⟨key1, [passN], [0, passN.next key1 0]⟩, 0) := by
    unfold Ch.add
    rw [if_neg (by show ¬ 64 ≤ 0; omega), if_pos (show passN.ev.check = 0 from passE_check)]
    rfl
  have ho2 := Ch.add_ok ho passN passE_small
  rw [ha] at ho2
  have hln := fun g W hW => clen_calls w g ⟨key1, [passN], [0, passN.next key1 0]⟩ ho2 W hW
  unfold RetAdd at had
  simp only [ha] at had
  have hka : (byts key1).toArray = #[.int .u8 1, .int .u8 0, .int .u8 0, .int .u8 0, .int .u8 0, .int .u8 0, .int .u8 0, .int .u8 0, .int .u8 0, .int .u8 0, .int .u8 0, .int .u8 0, .int .u8 0, .int .u8 0, .int .u8 0, .int .u8 0] := rfl
  have hpn : passN.val = .agg #[.int .i64 1, .string ⟨#[]⟩, .string ⟨#[]⟩, .string ⟨#[]⟩, .string ⟨#[]⟩, .int .i64 0, .int .i64 0, .nilIface, .bool false] := rfl
  rw [hka] at hnw
  rw [hpn] at had
  have hH : (Ch.mk key1 [] [0]).head = 0 := rfl
  rw [hH] at hhd
  have HNW := Lib.hid hnw; have HHD := Lib.hid hhd; have HAD := Lib.hid had; have HLN := Lib.hid hln; have HT := Lib.hid ht
  clear hnw hhd had hln ht ha ho ho2 hka hpn hH
  go_enter Tryd.func21, Tryd.ntmps21
  go_wp2_with fail
  refine (HNW.out).mono ?_
  rintro en w1 ⟨g, rfl, hC, hg, hb⟩
  have HC := Lib.hid hC; have HB := Lib.hid hb; have HG := Lib.hid hg
  clear hC hb hg
  go_wp2_with fail
  refine (HHD.out g _ HC.out).mono ?_
  rintro en w2 ⟨rfl, hb⟩
  have hC := HC.out.below hb
  have hB := bl_step hb HB.out
  clear hb
  go_wp2_with fail
  refine (HAD.out g _ hC (HT.out.below hB)).mono ?_
  rintro en w3 ⟨rfl, hC3, hg3, -⟩
  have hB3 := bl_gb hB HG.out hg3
  clear hC hB hg3
  go_wp2_with fail
  refine (HLN.out g _ hC3).mono ?_
  rintro en w4 ⟨rfl, hb⟩
  have hB4 := bl_step hb hB3
  go_wp2_with fail
  go_ret
  exact ⟨rfl, hB4⟩
end Go.Proofs.YtapbkomicihkkaaDoor
namespace Go.Proofs.YtapbkomicihkkaaDoor
open Go.RowKit
set_option linter.unusedVariables false
set_option linter.unusedSimpArgs false

/-- The event of a day. -/
def dayE (i : Nat) : Ev := ⟨5, noS, noS, noS, noS, (i : Int), 0, .odd .nilIface⟩
theorem dayE_check : ∀ i, i < 64 → (dayE i).check = 0 := by decide +kernel
theorem dayE_small (i : Nat) (h : i < 64) : (dayE i).small :=
  ⟨⟨by unfold IsInt64; show _ ≤ (5 : Int) ∧ (5 : Int) < _; decide, by unfold IsInt64; show _ ≤ (i : Int) ∧ (i : Int) < _; omega, by unfold IsInt64; show _ ≤ (0 : Int) ∧ (0 : Int) < _; decide, .inl rfl⟩, by show Tm.meas (.odd .nilIface) ≤ _; decide, by show noS.size ≤ _; decide, by show noS.size ≤ _; decide, by show noS.size ≤ _; decide, by show noS.size ≤ _; decide⟩
/-- The entry of a day. -/
def dayN (i : Nat) : En := ⟨dayE i, (i : Int).tmod 3 == 0⟩
/-- The chain of so many days. -/
def chL (key : List UInt8) : Nat → Ch
  | 0 => ⟨key, [], [0]⟩
  | k + 1 => ((chL key k).add (dayN k)).1
structure ChL (key : List UInt8) (k : Nat) : Prop where
  ok : (chL key k).ok
  keyE : (chL key k).key = key
  es : (chL key k).es = (List.range k).map dayN
theorem chL_len {key : List UInt8} {k : Nat} (h : ChL key k) : (chL key k).es.length = k := by rw [h.es]; simp
theorem chL_all (key : List UInt8) (hk : key.length = 16) : ∀ k, k ≤ 64 → ChL key k
  | 0, _ => ⟨Ch.new_ok key hk, rfl, rfl⟩
  | k + 1, h => by
    have ih := chL_all key hk k (by omega)
    have hl := chL_len ih
    have ha : (chL key k).add (dayN k) = (⟨(chL key k).key, (chL key k).es ++ [dayN k], (chL key k).hs ++ [(dayN k).next (chL key k).key (chL key k).head]⟩, 0) := by
      unfold Ch.add
      rw [if_neg (by rw [hl]; omega), if_pos (show (dayN k).ev.check = 0 from dayE_check k (by omega))]
    refine ⟨Ch.add_ok ih.ok _ (dayE_small k (by omega)), ?_, ?_⟩
    · show ((chL key k).add (dayN k)).1.key = key
      rw [ha]; exact ih.keyE
    · show ((chL key k).add (dayN k)).1.es = _
      rw [ha]
      show (chL key k).es ++ [dayN k] = _
      rw [ih.es, List.range_succ, List.map_append]; rfl
theorem chL_add (key : List UInt8) (hk : key.length = 16) (k : Nat) (h : k < 64) : (chL key k).add (dayN k) = (chL key (k + 1), 0) ∧ ∃ z, (chL key (k + 1)).hs = (chL key k).hs ++ [z] := by
  have ih := chL_all key hk k (by omega)
  have hl := chL_len ih
  have ha : (chL key k).add (dayN k) = (⟨(chL key k).key, (chL key k).es ++ [dayN k], (chL key k).hs ++ [(dayN k).next (chL key k).key (chL key k).head]⟩, 0) := by
    unfold Ch.add
    rw [if_neg (by rw [hl]; omega), if_pos (show (dayN k).ev.check = 0 from dayE_check k (by omega))]
  refine ⟨Prod.ext rfl (by rw [ha]), _, by show ((chL key k).add (dayN k)).1.hs = _; rw [ha]⟩
theorem chL_full (key : List UInt8) (hk : key.length = 16) (x : En) : (chL key 64).add x = (chL key 64, 5) := by
  unfold Ch.add
  rw [if_pos (by rw [chL_len (chL_all key hk 64 (by omega))]; omega)]
theorem chL_head (key : List UInt8) (hk : key.length = 16) (n : Nat) : ∀ k, k ≤ 64 → n ≤ k → (chL key k).hs.getD n 0 = (chL key n).head
  | 0, _, h => by
    obtain rfl : n = 0 := by omega
    rfl
  | k + 1, hk64, h => by
    by_cases e : n = k + 1
    · subst e
      unfold Ch.head
      rw [chL_len (chL_all key hk (k + 1) hk64)]
    · have ih := chL_head key hk n k (by omega) (by omega)
      obtain ⟨-, z, hz⟩ := chL_add key hk k (by omega)
      have hl := (chL_all key hk k (by omega)).ok.len
      rw [chL_len (chL_all key hk k (by omega))] at hl
      rw [hz, ← ih, List.getD_eq_getElem?_getD, List.getD_eq_getElem?_getD, List.getElem?_append_left (by omega)]
/-- The heads that the law keeps. -/
def headsL (key : List UInt8) (k : Nat) : List Int := (List.range k).map fun j => (chL key j).head
theorem headsL_succ (key : List UInt8) (k : Nat) : headsL key (k + 1) = headsL key k ++ [(chL key k).head] := by
  unfold headsL; rw [List.range_succ, List.map_append]; rfl
theorem rowsE_get : ∀ (l : List En) (m j : Nat) (x : En), l[m]? = some x → j < 9 → (rowsE l)[m * 9 + j]? = x.row[j]?
  | [], m, j, x, h, _ => by simp at h
  | y :: l, 0, j, x, h, hj => by
    obtain rfl : y = x := by simpa using h
    unfold rowsE
    rw [List.flatMap_cons, Nat.zero_mul, Nat.zero_add, List.getElem?_append_left (by rw [y.row_length]; exact hj)]
  | y :: l, m + 1, j, x, h, hj => by
    unfold rowsE
    rw [List.flatMap_cons, List.getElem?_append_right (by rw [y.row_length]; omega), y.row_length, show (m + 1) * 9 + j - 9 = m * 9 + j by omega]
    exact rowsE_get l m j x (by simpa using h) hj
theorem ChAt.blk {w0 W : World} {g : Nat} {c : Ch} (h : ChAt w0 W g c) : ∃ cs, Blk W g cs 106 := by
  obtain ⟨vl, vh, h1, -⟩ := h
  exact ⟨_, h1⟩
end Go.Proofs.YtapbkomicihkkaaDoor
namespace Go.Proofs.YtapbkomicihkkaaDoor
open Go.RowKit
set_option linter.unusedVariables false
set_option linter.unusedSimpArgs false

theorem dayN_val (k : Nat) : (dayN k).val = .agg #[.int .i64 5, .string ⟨#[]⟩, .string ⟨#[]⟩, .string ⟨#[]⟩, .string ⟨#[]⟩, .int .i64 (k : Int), .int .i64 0, .nilIface, .bool ((k : Int).tmod 3 == 0)] := rfl
theorem passN_val : passN.val = .agg #[.int .i64 1, .string ⟨#[]⟩, .string ⟨#[]⟩, .string ⟨#[]⟩, .string ⟨#[]⟩, .int .i64 0, .int .i64 0, .nilIface, .bool false] := rfl
theorem days_get (key : List UInt8) (hk : key.length = 16) (m : Nat) (hm : m < 64) : (rowsE (chL key 64).es)[m * 9 + 5]? = some (.int .i64 (m : Int)) ∧ (rowsE (chL key 64).es)[m * 9 + 8]? = some (.bool ((m : Int).tmod 3 == 0)) := by
  have he := (chL_all key hk 64 (by omega)).es
  have hx : (chL key 64).es[m]? = some (dayN m) := by rw [he]; simp [hm]
  exact ⟨(rowsE_get _ m 5 _ hx (by omega)).trans rfl, (rowsE_get _ m 8 _ hx (by omega)).trans rfl⟩
theorem ChAt.kept {wk W W1 : World} {g : Nat} {c : Ch} {r : Option Nat} (h : ChAt wk W g c) (hg : W.grownBy W1 r) (h1 : r ≠ some g) (h2 : ∀ b, r = some b → b < wk.heap.size) : ChAt wk W1 g c := by
  obtain ⟨vl, vh, k1, k2, k3, k4⟩ := h
  have ne : ∀ {v : Value} {e size n : Nat} {xs : List Value}, Own wk W e size v n xs → v.ownBlock = none ∨ v.ownBlock ≠ r := fun {v e size n xs} ho => by
    cases hv : v.ownBlock with
    | none => exact .inl rfl
    | some b => exact .inr (fun e => by have := Own.at_base ho b hv; have := h2 b e.symm; omega)
  exact ⟨vl, vh, k1.grown hg h1, k2.kept hg (ne k2), k3.kept hg (ne k3), Nat.le_trans k4 hg.size⟩
theorem Own.blkOf {w0 W : World} {e size n : Nat} {v : Value} {xs : List Value} (h : Own w0 W e size v n xs) (hn : 0 < n) :
    ∃ g cap, v = .slice (some ⟨g, 0, none⟩) n cap ∧ w0.heap.size ≤ g ∧ g < W.heap.size ∧ n ≤ cap ∧ (∀ j u, xs[j]? = some u → W.cell? ⟨g, j, none⟩ = some u) ∧ (∀ j, W.frozen? ⟨g, j, none⟩ = false) := by
  rcases h.2 with ⟨rfl, h0⟩ | ⟨g, cap, cur, rfl, hb, hh, hle, _, hsz, hxs⟩
  · omega
  · have hk : Blk W g cur e := hh
    refine ⟨g, cap, rfl, hb, hk.lt, hle, fun j u hu => ?_, fun j => hk.frozen j⟩
    rw [hk.cell]
    rw [← hxs, List.getElem?_take] at hu
    split at hu
    · simpa using hu
    · cases hu
set_option maxRecDepth 100000 in
set_option maxHeartbeats 4000000 in
theorem chainLong_calls (A : Option Addr) (c l : Nat) (k : List UInt8) (n : Int) (w : World) (hl : k.length = l) (hr : Rd w A (byts k)) (hn : -9223372036854775808 ≤ n ∧ n ≤ 9223372036854775807) (ht : TabOk w) :
    Calls Tryd.prog 5 #[.slice A l c, .int .i64 n] w fun e w' => e = .returned (.bool true) ∧ Below w.heap.size w w' := by
  have HR := Lib.hid hr
  have HL := Lib.hid hl
  have HT := Lib.hid ht
  clear hr hl ht
  go_enter Tryd.func5, Tryd.ntmps5
  obtain ⟨X, hX⟩ : ∃ X, byts (k.take 16) = X := ⟨_, rfl⟩
  have HX := Lib.hid hX
  clear hX
  go_wp2_with (refine wpList_copy_splice (o := ⟨some 16, _, _, _, _, _⟩) rfl (.tmp 14) (.tmp 15) 74 74 rfl 5 Tryd.underlying74 (by kernel_rfl) _ A _ _ l c rfl rfl w.heap.size 0 zeros16 76 (Blk.new w zeros16.toArray 76) X ?c1 ?c2 ?c3 ?c4 w.heap.size w (bl_alloc (bl_refl w) _) (Nat.le_refl _) ?c5)
  case c1 => rw [← HX.out, byts_length, List.length_take, HL.out]; exact Nat.min_comm _ _
  case c2 =>
    intro hp
    have hrd : Rd (w.alloc (.cells zeros16.toArray 76)) A X := by
      rw [← HX.out, byts_take]
      exact (HR.out.below (bl_alloc (bl_refl w) _)).take 16
    obtain ⟨y, hy⟩ : ∃ y, X[0]? = some y := ⟨X[0], by simp [hp]⟩
    obtain ⟨ad, e, _⟩ := hrd 0 y hy
    refine ⟨ad, e, ?_⟩
    intro j v hv
    obtain ⟨ad', e', hc⟩ := hrd j v hv
    rw [e] at e'; cases e'
    exact hc
  case c3 => rw [← HX.out, byts_length, List.length_take]; simp only [zeros16, Nat.zero_add, List.length_cons, List.length_nil]; exact Nat.min_le_left _ _
  case c4 => rw [← HX.out]; exact byts_one _
  intro w2 HG hB
  have hK : Blk w2 w.heap.size (byts (keyOf k)).toArray 76 := by
    have := HG.out
    rw [← HX.out, key_splice] at this
    exact this
  clear HG HX HR HL
  have hkl := keyOf_length k
  generalize keyOf k = key at hkl hK
  have hi : (Tryd.prog.info? 76).map (·.size) = some (byts key).toArray.size := by rw [List.size_toArray, byts_length, hkl]; kernel_rfl
  have hnw := cnew_calls w key hkl w2 hB.size
  unfold RetCh at hnw
  have HI := Lib.hid hi; have HK := Lib.hid hK; have HKL := Lib.hid hkl; have HNW := Lib.hid hnw; have HB := Lib.hid hB
  clear hi hK hkl hnw hB
  go_upto_region 3 with fail
  go_wp2_with (first | (refine wpList_load_row rfl 76 _ rfl w.heap.size rfl 76 _ (0, 0) _ HK.out Tryd.underlying76 rfl HI.out ?_) | (go_at_call 15; refine HNW.out.mono ?_; rintro en w3 ⟨g, rfl, hC, hg, hb⟩))
  have HC := Lib.hid (show ChAt w w3 g (chL key 0) from hC); have HBB := Lib.hid (bl_step hb HB.out); have HG := Lib.hid (Nat.le_trans HB.out.size hg)
  clear hC hb hg HNW HK HI HB
  go_loopw [7, 8] (fun v i wr => ∃ j : Nat, j ≤ 64 ∧ i = .int .i64 j ∧ Own w wr 80 1 v j (u64s (headsL key j)) ∧ (∃ wk, ChAt wk wr g (chL key j) ∧ (∀ b, v.ownBlock = some b → b < wk.heap.size)) ∧ Below w.heap.size w wr) (fun _ i _ => 64 - (intOf i).toNat)
  case atStart => exact ⟨0, by omega, rfl, Own.nil _ _ _ _, ⟨w, HC.out, fun b e => by cases e⟩, HBB.out⟩
  case round =>
    clear HC HBB
    obtain ⟨j, hj, rfl, hO, ⟨wk, hC, hsep⟩, hB⟩ := hrel
    by_cases hlt : j < 64
    · have hcl := chL_all key HKL.out j hj
      have hhd := fun W hW => chead_calls wk g (chL key j) hcl.ok W hW
      have had := fun w0 W hW ht => cadd_calls w0 g (chL key j) hcl.ok (dayN j) (dayE_small j hlt) W hW ht
      unfold RetAdd at had
      rw [(chL_add key HKL.out j hlt).1, dayN_val] at had
      have hsc := headsL_succ key j
      obtain ⟨hd, hhe⟩ : ∃ hd, (chL key j).head = hd := ⟨_, rfl⟩
      rw [hhe] at hhd hsc
      have HHD := Lib.hid hhd; have HAD := Lib.hid had; have HSC := Lib.hid hsc; have HC := Lib.hid hC; have HSEP := Lib.hid hsep; have HO := Lib.hid hO; have HB := Lib.hid hB
      clear hhd had hsc hC hsep hO hB hhe hcl
      have hbs := fun (x : Int) (W : World) => bs_u64 x W
      go_wp2_with fail
      refine (HHD.out _ HC.out).mono ?_
      rintro en w4 ⟨rfl, hb⟩
      have hO4 := HO.out.below hb
      have hC4 := HC.out.below hb
      have hB4 := bl_step hb HB.out
      clear hb HO HC HB HHD
      have HO4 := Lib.hid hO4; have HC4 := Lib.hid hC4; have HB4 := Lib.hid hB4
      clear hO4 hC4 hB4
      go_upto_region 11 with (at_builtin; refine append_one rfl _ _ 79 80 _ 8 rfl Tryd.underlying79 info_u64 rfl _ _ _ _ HO4.out HB4.out rfl rfl rfl (by omega) (by omega) ?_; intro v1 w5 HO5 HB5 HG5)
      have hgne := HO4.out.ne_blk HC4.out.blk.choose_spec (by decide)
      have hC5 := HC4.out.kept HG5 hgne HSEP.out
      have HB5' := Lib.hid HB5; have HO5' := Lib.hid HO5; have HC5 := Lib.hid hC5
      clear HG5 hC5 hgne HB5 HO5 HO4 HC4 HB4
      go_wp2_with fail
      refine (HAD.out wk _ HC5.out (HT.out.below HB5'.out)).mono ?_
      rintro en w6 ⟨rfl, -, hg6, hnew⟩
      have hO6 := HO5'.out.kept hg6 (.inr (HO5'.out.ne_blk HC5.out.blk.choose_spec (by decide)))
      have hB6 := bl_gb HB5'.out HG.out hg6
      have HO6 := Lib.hid hO6; have HB6 := Lib.hid hB6; have HN6 := Lib.hid (hnew (by first | exact trivial | rfl))
      have hlt5 : ∀ b, v1.ownBlock = some b → b < w5.heap.size := fun b e => (World.ownsRow.lt HO5'.out b e).2
      have HLT := Lib.hid hlt5
      clear hO6 hB6 hnew hg6 hlt5
      go_wp2_with fail
      go_roundw
      case rel => exact ⟨j + 1, by omega, by go_num, by rw [HSC.out]; unfold u64s; rw [List.map_append]; exact HO6.out, ⟨w5, HN6.out, HLT.out⟩, HB6.out⟩
      case measure => simp [intOf]; omega
    · obtain rfl : j = 64 := by omega
      have hcl := chL_all key HKL.out 64 (by omega)
      have hlen := chL_len hcl
      have hhd := fun W hW => chead_calls wk g (chL key 64) hcl.ok W hW
      have had := fun W hW ht => cadd_calls wk g (chL key 64) hcl.ok passN passE_small W hW ht
      have hln := fun W hW => clen_calls wk g (chL key 64) hcl.ok W hW
      have hha := fun i W hW => cheadat_calls wk g (chL key 64) hcl.ok i W hW
      have hen := fun W hW => centries_calls wk g (chL key 64) hcl.ok W hW
      have hwi := fun W => within_calls n 64 W hn (by omega)
      obtain ⟨m, hm⟩ : ∃ m : Nat, n % 64 = (m : Int) := ⟨(n % 64).toNat, by omega⟩
      have hm64 : m < 64 := by omega
      obtain ⟨d5, d8⟩ := days_get key HKL.out m hm64
      have hat : (chL key 64).at_ (m : Int) = ((chL key m).head, true) := by
        unfold Ch.at_
        rw [if_pos ⟨by omega, by rw [hlen]; omega⟩, Int.toNat_natCast, chL_head key HKL.out m 64 (by omega) (by omega)]
      have hhm := hha (m : Int)
      rw [hat] at hhm
      have hgm : (u64s (headsL key 64))[m]? = some (.int .u64 (chL key m).head) := by unfold u64s headsL; simp [hm64]
      unfold RetAdd at had
      rw [chL_full key HKL.out, passN_val] at had
      rw [hlen] at hln hen
      rw [hm] at hwi
      unfold RetOwn at hen
      generalize (chL key m).head = hv at *
      generalize (chL key 64).head = hl64 at *
      generalize rowsE (chL key 64).es = rows at *
      generalize u64s (headsL key 64) = hds at *
      generalize chL key 64 = C64 at *
      have hne4 := hO.ne_blk hC.blk.choose_spec (by decide)
      obtain ⟨g4, cap4, rfl, -, hg4lt, hcap4, hcell4, -⟩ := hO.blkOf (by omega)
      have HNE : Hid (g4 ≠ g) := fun e => hne4 (by rw [e]; rfl)
      clear hne4
      have hv4 := hcell4 m _ hgm
      have HHD := Lib.hid hhd; have HAD := Lib.hid had; have HLN := Lib.hid hln; have HHM := Lib.hid hhm; have HEN := Lib.hid hen; have HWI := Lib.hid hwi; have HC := Lib.hid hC; have HB := Lib.hid hB
      clear hhd had hln hha hhm hen hwi hC hB hO hsep hcell4 hgm hat hcl hlen hm hn
      go_wp2_with fail
      refine (HHD.out _ HC.out).mono ?_
      rintro en w4 ⟨rfl, hb⟩
      have hC4 := HC.out.below hb
      have hB4 := bl_step hb HB.out
      have hv44 := cell_below hb hv4
      have hg44 : g4 < w4.heap.size := Nat.lt_of_lt_of_le hg4lt hb.size
      clear hb HC HB hv4 hg4lt
      go_wp2_with fail
      refine (HAD.out _ hC4 (HT.out.below hB4)).mono ?_
      rintro en w5 ⟨rfl, hC5, hg5, -⟩
      have hB5 := bl_gb hB4 HG.out hg5
      have hv5 : w5.cell? ⟨g4, m, none⟩ = some (.int .u64 hv) := gb_cell hg5 HNE.out hv44
      have hg45 : g4 < w5.heap.size := Nat.lt_of_lt_of_le hg44 hg5.size
      clear hC4 hB4 hv44 hg44 hg5
      go_wp2_with fail
      refine (HHD.out _ hC5).mono ?_
      rintro en w6 ⟨rfl, hb⟩
      have hC6 := hC5.below hb
      have hB6 := bl_step hb hB5
      have hv6 := cell_below hb hv5
      have hg46 : g4 < w6.heap.size := Nat.lt_of_lt_of_le hg45 hb.size
      clear hC5 hB5 hv5 hb hg45
      go_wp2_with fail
      refine (HLN.out _ hC6).mono ?_
      rintro en w7 ⟨rfl, hb⟩
      have hC7 := hC6.below hb
      have hB7 := bl_step hb hB6
      have hv7 := cell_below hb hv6
      have hg47 : g4 < w7.heap.size := Nat.lt_of_lt_of_le hg46 hb.size
      clear hC6 hB6 hv6 hb hg46
      go_wp2_with fail
      refine (HWI.out _).mono ?_
      rintro en w8 ⟨rfl, rfl⟩
      go_wp2_with fail
      refine (HHM.out _ hC7).mono ?_
      rintro en w9 ⟨rfl, hb⟩
      have hC9 := hC7.below hb
      have hB9 := bl_step hb hB7
      have hv9 := cell_below hb hv7
      have hg49 : g4 < w9.heap.size := Nat.lt_of_lt_of_le hg47 hb.size
      clear hC7 hB7 hv7 hb hg47
      go_wp2_with fail
      refine (HEN.out _ hC9).mono ?_
      rintro en w10 ⟨vl, rfl, hO10, hb⟩
      obtain ⟨g5, cap5, rfl, hge5, hg5lt, hcap5, hcell5, hfz5⟩ := hO10.blkOf (by omega)
      have hx5 := hcell5 (m * 9 + 5) _ d5
      have hz5 := hfz5 (m * 9 + 5)
      have hmz1 : (m : Int) < (64 : Int) := by omega
      have hmz0 : (0 : Int) ≤ (m : Int) := by omega
      have hb2 := bl_setJ (g := g5) (j := m * 9 + 5) (v := .int .i64 7777) hb hge5
      have hC11 := hC9.below hb2
      have hB11 := bl_step hb2 hB9
      have hv11 := cell_below hb2 hv9
      clear hO10 hcell5 hfz5 hC9 hB9 hv9 hb hb2 hge5 hg5lt
      obtain ⟨W11, hW11⟩ : ∃ W11, w10.setCell ⟨g5, m * 9 + 5, none⟩ (.int .i64 7777) = W11 := ⟨_, rfl⟩
      rw [hW11] at hC11 hB11 hv11
      have HW11 := Lib.hid hW11; have HC11 := Lib.hid hC11; have HB11 := Lib.hid hB11; have HV11 := Lib.hid hv11
      clear hW11 hC11 hB11 hv11
      go_upto_region 22 with fail
      rw [HW11.out]
      clear hx5 hz5 HW11
      go_wp2_with fail
      refine (HEN.out _ HC11.out).mono ?_
      rintro en w12 ⟨vm, rfl, hO12, hb⟩
      obtain ⟨g6, cap6, rfl, -, -, hcap6, hcell6, -⟩ := hO12.blkOf (by omega)
      have hx6 := hcell6 (m * 9 + 5) _ d5
      have hx8 := hcell6 (m * 9 + 8) _ d8
      have hv12 := cell_below hb HV11.out
      have hB12 := bl_step hb HB11.out
      have HB12 := Lib.hid hB12
      clear hO12 hcell6 hb hB12
      go_wp2_with fail
      refine (wakes13_calls _ (HT.out.below HB12.out)).mono ?_
      rintro en w13 ⟨rfl, hb⟩
      go_wp2_with fail
      go_ret
      exact ⟨rfl, bl_step hb HB12.out⟩
end Go.Proofs.YtapbkomicihkkaaDoor
