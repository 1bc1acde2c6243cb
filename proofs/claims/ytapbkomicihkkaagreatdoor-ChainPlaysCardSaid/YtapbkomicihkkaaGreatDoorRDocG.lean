/- The document's events: fields, texts. -/
import Derived.Test.YtapbkomicihkkaaGreatDoorRightG
import Derived.Deep.DeepCutAuto
import Derived.Deep.CutBlock
import Derived.Test.YtapbkomicihkkaaGreatDoorSpG
import Derived.Test.YtapbkomicihkkaaGreatDoorEventG
namespace Go.Proofs.YtapbkomicihkkaaGreatDoor
open Go.RowKit
set_option linter.unusedVariables false
set_option linter.unusedSimpArgs false

def wordS : Nat → ByteArray
  | 1 => ⟨#[122, 101, 114, 111]⟩
  | 2 => ⟨#[111, 110, 101]⟩
  | 3 => ⟨#[103, 105, 118, 101]⟩
  | 4 => ⟨#[97, 110, 100]⟩
  | 5 => ⟨#[111, 114]⟩
  | 6 => ⟨#[115, 99, 97, 108, 101]⟩
  | 7 => ⟨#[119, 104, 101, 110]⟩
  | 8 => ⟨#[105, 102]⟩
  | 12 => ⟨#[102, 105, 120]⟩
  | 13 => ⟨#[97, 100, 100]⟩
  | 14 => ⟨#[110, 101, 103]⟩
  | 15 => ⟨#[109, 117, 108]⟩
  | 16 => ⟨#[109, 97, 120]⟩
  | _ => ⟨#[]⟩
def wordsA : Array Value := #[.string (wordS 0), .string (wordS 1), .string (wordS 2), .string (wordS 3), .string (wordS 4), .string (wordS 5), .string (wordS 6), .string (wordS 7), .string (wordS 8), .string (wordS 9), .string (wordS 10), .string (wordS 11), .string (wordS 12), .string (wordS 13), .string (wordS 14), .string (wordS 15), .string (wordS 16)]
theorem wordsA_get : ∀ m, m < 17 → wordsA[m]? = some (.string (wordS m))
  | 0, _ => rfl | 1, _ => rfl | 2, _ => rfl | 3, _ => rfl | 4, _ => rfl | 5, _ => rfl | 6, _ => rfl | 7, _ => rfl | 8, _ => rfl | 9, _ => rfl | 10, _ => rfl | 11, _ => rfl | 12, _ => rfl | 13, _ => rfl | 14, _ => rfl | 15, _ => rfl | 16, _ => rfl
  | m + 17, h => by omega
theorem wordS_size (m : Nat) : (wordS m).size ≤ 5 := by unfold wordS; split <;> decide
theorem rword_calls (m : Nat) (hm : m < 17) (w : World) :
    Calls Tryz.prog 113 #[.int .i64 m] w fun e w' => e = .returned (.string (wordS m)) ∧ Below w.heap.size w w' := by
  have h0 : (0 : Int) ≤ (m : Int) := by omega
  have h1 : (m : Int) < 17 := by omega
  have hl : wordsA.toList[m]? = some (.string (wordS m)) := by rw [Array.getElem?_toList]; exact wordsA_get m hm
  obtain ⟨hlt, he⟩ := List.getElem?_eq_some_iff.1 hl
  have HE := Lib.hid he
  clear hl he
  go_enter Tryz.func113, Tryz.ntmps113
  go_wp2_with fail
  go_ret
  exact ⟨congrArg Ending.returned HE.out, bl_alloc (bl_refl _) _⟩
def commaS : ByteArray := ⟨#[44]⟩
/-- A tree's name, number and what stands ahead of its first part. -/
def frontS (k : Int) (s : ByteArray) (n : Int) : ByteArray := if k = 2 ∨ k = 5 ∨ k = 12 then s else if k = 7 then itoaS n else ⟨#[]⟩
def sepS (k : Int) : ByteArray := if k = 2 ∨ k = 5 ∨ k = 12 ∨ k = 7 then commaS else ⟨#[]⟩
mutual
def Tr.text : Tr → ByteArray
  | .mk k s n ks => if k = 11 then itoaS n else if k = 1 then ⟨#[122, 101, 114, 111]⟩ else wordS k.toNat ++ ⟨#[40]⟩ ++ frontS k s n ++ Tr.textAll (sepS k) ks ++ ⟨#[41]⟩
def Tr.textAll : ByteArray → List Tr → ByteArray
  | _, [] => ⟨#[]⟩
  | sep, t :: ts => sep ++ t.text ++ Tr.textAll commaS ts
end
mutual
def Tr.kinds : Tr → Prop
  | .mk k _ _ ks => (0 ≤ k ∧ k ≤ 16) ∧ Tr.kindsAll ks
def Tr.kindsAll : List Tr → Prop
  | [] => True
  | t :: ts => t.kinds ∧ Tr.kindsAll ts
end
theorem Tr.kinds_kid : ∀ (ks : List Tr), Tr.kindsAll ks → ∀ (i : Nat) (h : i < ks.length), ks[i].kinds
  | t :: ts, ho, 0, _ => by unfold Tr.kindsAll at ho; exact ho.1
  | t :: ts, ho, i + 1, h => by unfold Tr.kindsAll at ho; exact Tr.kinds_kid ts ho.2 i (by simpa using h)
theorem ownF_kind {k : Int} {s : ByteArray} {n : Int} (h : ownF k s n = true) : 0 ≤ k ∧ k ≤ 16 := by
  unfold ownF at h
  by_cases h1 : 0 ≤ k ∧ k ≤ 16
  · exact h1
  · rw [if_neg (by omega), if_neg (by omega), if_neg (by omega), if_neg (by omega)] at h
    cases h
theorem frontS_size (k : Int) {s : ByteArray} {n : Int} (h : nodeOk k s n) : (frontS k s n).size ≤ 1000000 := by
  unfold frontS
  split
  · exact h.2.1
  split
  · have := itoaS_size n h.2.2.1 (by have := h.2.2.2; omega); omega
  · decide
theorem sepS_size (k : Int) : (sepS k).size ≤ 1 := by unfold sepS; split <;> decide
mutual
theorem Tr.text_size : ∀ t : Tr, t.ok → t.text.size + 1 ≤ t.size * 1000101
  | .mk k s n ks, h => by
    unfold Tr.ok at h
    have h1 := Tr.textAll_size ks h.2 (sepS k) (sepS_size k)
    have h2 := frontS_size k h.1
    have h3 := wordS_size k.toNat
    have h4 := itoaS_size n h.1.2.2.1 (by have := h.1.2.2.2; omega)
    have e1 : (⟨#[40]⟩ : ByteArray).size = 1 := rfl
    have e2 : (⟨#[41]⟩ : ByteArray).size = 1 := rfl
    have e3 : (⟨#[122, 101, 114, 111]⟩ : ByteArray).size = 4 := rfl
    unfold Tr.text Tr.size
    split
    · omega
    split
    · omega
    · simp only [ByteArray.size_append]; omega
theorem Tr.textAll_size : ∀ ks : List Tr, Tr.okAll ks → ∀ sep : ByteArray, sep.size ≤ 1 → (Tr.textAll sep ks).size ≤ Tr.sizeAll ks * 1000101
  | [], _, _, _ => by unfold Tr.textAll; decide
  | t :: ts, h, sep, hs => by
    unfold Tr.okAll at h
    have h1 := t.text_size h.1
    have h2 := Tr.textAll_size ts h.2 commaS (by decide)
    unfold Tr.textAll Tr.sizeAll
    simp only [ByteArray.size_append]
    have := t.size_pos
    omega
end
theorem ba_nil (a : ByteArray) : a ++ (⟨#[]⟩ : ByteArray) = a := by show a ++ ByteArray.empty = a; simp
theorem nil_ba (a : ByteArray) : (⟨#[]⟩ : ByteArray) ++ a = a := by show ByteArray.empty ++ a = a; simp
theorem Tr.textAll_snoc (t : Tr) : ∀ (l : List Tr) (sep : ByteArray), Tr.textAll sep (l ++ [t]) = Tr.textAll sep l ++ (if l = [] then sep else commaS) ++ t.text
  | [], sep => by simp only [List.nil_append, Tr.textAll, if_true, ba_nil, nil_ba]
  | x :: l, sep => by
    have := Tr.textAll_snoc t l commaS
    simp only [List.cons_append, Tr.textAll, this]
    simp [ByteArray.append_assoc]
/-- What is gathered ahead of part j. -/
def txtTo (hd sep : ByteArray) (ks : List Tr) (j : Nat) : ByteArray := hd ++ Tr.textAll sep (ks.take j)
theorem txtTo_step (hd sep : ByteArray) (ks : List Tr) (j : Nat) (h : j < ks.length) : txtTo hd sep ks (j + 1) = txtTo hd sep ks j ++ (if j = 0 then sep else commaS) ++ ks[j].text := by
  unfold txtTo
  rw [take_snoc' ks j h, Tr.textAll_snoc]
  have e : (ks.take j = []) = (j = 0) := by
    apply propext
    rw [List.take_eq_nil_iff]
    constructor
    · rintro (h0 | h0)
      · exact h0
      · rw [h0] at h; simp at h
    · exact Or.inl
  simp only [e, ByteArray.append_assoc]
theorem txtTo_size (hd sep : ByteArray) (hs : sep.size ≤ 1) (ks : List Tr) (ho : Tr.okAll ks) (j : Nat) : (txtTo hd sep ks j).size ≤ hd.size + Tr.sizeAll ks * 1000101 := by
  have hok : ∀ (l : List Tr) (j : Nat), Tr.okAll l → Tr.okAll (l.take j) := by
    intro l
    induction l with
    | nil => intro j h; simpa using h
    | cons t l ih =>
      intro j h
      cases j with
      | zero => unfold Tr.okAll; trivial
      | succ j =>
        unfold Tr.okAll at h
        rw [List.take_succ_cons]
        unfold Tr.okAll
        exact ⟨h.1, ih j h.2⟩
  have := Tr.textAll_size (ks.take j) (hok ks j ho) sep hs
  have := Tr.sizeAll_take ks j
  unfold txtTo
  rw [ByteArray.size_append]
  omega
set_option maxRecDepth 100000 in
set_option maxHeartbeats 8000000 in
theorem rtext_calls (B : Nat) (hB : B ≤ 1000000) : ∀ (t : Tr), t.size ≤ B → t.ok → t.kinds → ∀ (x : Nat) (w : World) (v : Value), TrAt x w t v → Calls Tryz.prog 81 #[v] w (fun e w' => e = .returned (.string t.text) ∧ Below w.heap.size w w') := by
  induction B with
  | zero => intro t h; have := t.size_pos; omega
  | succ B ih =>
    intro t hsz hok hkd x w v ht
    obtain ⟨A, c, cs, rfl, hrow, hts⟩ := ht.open_
    clear ht
    cases t with
    | mk k s n ks =>
    unfold Tr.size at hsz
    unfold Tr.ok at hok
    unfold Tr.kinds at hkd
    simp only [Tr.kind, Tr.s, Tr.n, Tr.ks] at *
    have hlen := Tr.len_size ks
    have IH := Lib.hid (fun i (h : i < ks.length) => ih (by omega) ks[i] (by have := Tr.size_kid ks i h; omega) (Tr.ok_kid ks hok.2 i h) (Tr.kinds_kid ks hkd.2 i h))
    have hkid := fun i (h : i < ks.length) => ks[i].text_size (Tr.ok_kid ks hok.2 i h)
    have hdg := fun W => digits_calls n hok.1.2.2.1 hok.1.2.2.2 W
    have hds := itoaS_size n hok.1.2.2.1 (by have := hok.1.2.2.2; omega)
    have hss := hok.1.2.1
    have hts2 := fun hd (h : hd.size ≤ 1000010) j => txtTo_size hd (sepS k) (sepS_size k) ks hok.2 j
    have hwd : ∀ W, Calls Tryz.prog 113 #[.int .i64 k] W fun e w' => e = .returned (.string (wordS k.toNat)) ∧ Below W.heap.size W w' := fun W => by
      have := rword_calls k.toNat (by omega) W
      rwa [Int.toNat_of_nonneg hkd.1.1] at this
    obtain ⟨W1, hW1⟩ : ∃ W1, w.alloc (.cells #[.int .i64 k, .string s, .int .i64 n, .slice A ks.length c] 33) = W1 := ⟨_, rfl⟩
    have hkb := Blk.new w #[.int .i64 k, .string s, .int .i64 n, .slice A ks.length c] 33
    have hb1 := bl_alloc (bl_refl w) (.cells #[.int .i64 k, .string s, .int .i64 n, .slice A ks.length c] 33)
    rw [hW1] at hkb hb1
    have HW1 := Lib.hid hW1; have HKB := Lib.hid hkb; have HB1 := Lib.hid hb1; have HROW := Lib.hid hrow; have HTS := Lib.hid hts; have HDG := Lib.hid hdg; have HWD := Lib.hid hwd; have HSZ := Lib.hid hts2; have HKID := Lib.hid hkid; have HOK := Lib.hid hok
    clear hW1 hb1 hrow hts hdg hwd hts2 hkid hok hkd ih
    obtain ⟨k0, k1, k2, k3⟩ := hkb.fours
    clear hkb
    by_cases e11 : k = 11
    · subst e11
      have HP : Hid (Tr.text (.mk 11 s n ks) = itoaS n) := by show _ = _; unfold Tr.text; rw [if_pos rfl]
      rw [HP.out]
      generalize itoaS n = dn at *
      go_enter Tryz.func81, Tryz.ntmps81
      go_upto_region 1 with fail
      rw [HW1.out]
      go_wp2_with fail
      refine (HDG.out _).mono ?_
      rintro en w2 ⟨rfl, hb2⟩
      go_wp2_with fail
      go_ret
      exact ⟨rfl, bl_step hb2 HB1.out⟩
    have b11 : (k == 11) = false := by simpa using e11
    by_cases e1 : k = 1
    · subst e1
      have HP : Hid (Tr.text (.mk 1 s n ks) = ⟨#[122, 101, 114, 111]⟩) := by show _ = _; unfold Tr.text; rw [if_neg (by decide), if_pos rfl]
      rw [HP.out]
      go_enter Tryz.func81, Tryz.ntmps81
      go_upto_region 1 with fail
      rw [HW1.out]
      go_wp2_with fail
      go_ret
      exact ⟨rfl, HB1.out⟩
    have b1 : (k == 1) = false := by simpa using e1
    have HP : Hid (Tr.text (.mk k s n ks) = txtTo (wordS k.toNat ++ ⟨#[40]⟩ ++ frontS k s n) (sepS k) ks ks.length ++ ⟨#[41]⟩) := by
      show _ = _
      unfold Tr.text txtTo
      rw [if_neg e11, if_neg e1, List.take_length]
    rw [HP.out]
    have hwz := wordS_size k.toNat
    have hos := frontS_size k HOK.out.1
    have hsp := sepS_size k
    have OW : Hid (frontS k s n = if k = 2 ∨ k = 5 ∨ k = 12 then s else if k = 7 then itoaS n else ⟨#[]⟩) := rfl
    have SP : Hid (sepS k = if k = 2 ∨ k = 5 ∨ k = 12 ∨ k = 7 then commaS else ⟨#[]⟩) := rfl
    generalize hgw : wordS k.toNat = wd at *
    have e40 : (⟨#[40]⟩ : ByteArray).size = 1 := rfl
    have hw4 : (wd ++ ⟨#[40]⟩).size ≤ 6 := by rw [ByteArray.size_append]; omega
    clear hgw HP
    generalize hgo : frontS k s n = ow at *
    generalize hgs : sepS k = sp at *
    generalize itoaS n = dn at *
    clear hgo hgs
    go_enter Tryz.func81, Tryz.ntmps81
    go_upto_region 1 with fail
    rw [HW1.out]
    go_wp2_with fail
    refine (HWD.out _).mono ?_
    rintro en w2 ⟨rfl, hb2⟩
    have HKB2 := Lib.hid (HKB.out.below hb2); have HB2 := Lib.hid (bl_step hb2 HB1.out)
    clear k0 k1 k2 k3 hb2 HW1 HWD HKB HB1
    obtain ⟨k0, k1, k2, k3⟩ := HKB2.out.fours
    go_upto_region 8 with fail
    go_cut [31] (fun v wx => v = .bool (decide (k = 2 ∨ k = 5 ∨ k = 12)) ∧ wx = w2)
    case first =>
      by_cases d2 : k = 2
      · subst d2
        go_wp2_with fail
        go_meet
        exact ⟨rfl, rfl⟩
      have c2 : (k == 2) = false := by simpa using d2
      by_cases d5 : k = 5
      · subst d5
        go_wp2_with fail
        go_meet
        exact ⟨rfl, rfl⟩
      have c5 : (k == 5) = false := by simpa using d5
      by_cases d12 : k = 12
      · subst d12
        go_wp2_with fail
        go_meet
        exact ⟨rfl, rfl⟩
      have c12 : (k == 12) = false := by simpa using d12
      go_wp2_with fail
      go_meet
      exact ⟨by simp [d2, d5, d12], rfl⟩
    obtain ⟨rfl, rfl⟩ := hcut
    rename World => w2
    go_upto_if 31 with fail
    generalize hgd : decide (k = 2 ∨ k = 5 ∨ k = 12) = gd
    go_cut [3, 4] (fun v3 v4 wx => ∃ h0 s0 : ByteArray, v3 = .string h0 ∧ v4 = .string s0 ∧ wx = w2 ∧ h0.size ≤ 1000010 ∧ (k ≠ 7 → h0 = wd ++ ⟨#[40]⟩ ++ ow ∧ s0 = sp) ∧ (k = 7 → h0 = wd ++ ⟨#[40]⟩ ∧ s0 = ⟨#[]⟩))
    case first =>
      cases gd with
      | true =>
        have hq := of_decide_eq_true hgd
        have ew : ow = s := by rw [OW.out, if_pos hq]
        have es : sp = commaS := by rw [SP.out, if_pos (by omega)]
        subst ew es
        go_wp2_with fail
        go_meet
        exact ⟨_, _, rfl, rfl, rfl, by rw [ByteArray.size_append]; omega, fun _ => ⟨rfl, rfl⟩, fun h => by omega⟩
      | false =>
        have hq := of_decide_eq_false hgd
        go_wp2_with fail
        go_meet
        refine ⟨_, _, rfl, rfl, rfl, by omega, fun h => ?_, fun h => ⟨rfl, rfl⟩⟩
        rw [OW.out, SP.out, if_neg hq, if_neg h, if_neg (by omega), ba_nil]
        exact ⟨rfl, rfl⟩
    obtain ⟨h0, s0, rfl, rfl, rfl, hh0, hn7, h7⟩ := hcut
    rename World => w2
    have HN7 := Lib.hid hn7; have H7 := Lib.hid h7
    clear hn7 h7 hgd gd
    go_upto_if 38 with fail
    generalize hgd : (k == 7) = gd
    obtain ⟨hd, hhd⟩ : ∃ hd, wd ++ ⟨#[40]⟩ ++ ow = hd := ⟨_, rfl⟩
    have hdz : hd.size ≤ 1000010 := by rw [← hhd, ByteArray.size_append]; omega
    go_cut [3, 4] (fun v3 v4 wx => v3 = .string hd ∧ v4 = .string sp ∧ Below w2.heap.size w2 wx)
    case first =>
      cases gd with
      | true =>
        have hq : k = 7 := by simpa using hgd
        obtain ⟨rfl, rfl⟩ := H7.out hq
        have ew : ow = dn := by rw [OW.out, if_neg (by omega), if_pos hq]
        have es : sp = commaS := by rw [SP.out, if_pos (by omega)]
        subst ew es
        clear hq hgd
        go_wp2_with fail
        refine (HDG.out _).mono ?_
        rintro en w3 ⟨rfl, hb3⟩
        go_wp2_with fail
        go_meet
        exact ⟨rfl, rfl, hb3⟩
      | false =>
        have hq : k ≠ 7 := by simpa using hgd
        obtain ⟨rfl, rfl⟩ := HN7.out hq
        go_wp2_with fail
        go_meet
        exact ⟨rfl, rfl, bl_refl _⟩
    obtain ⟨rfl, rfl, hb3⟩ := hcut
    rename World => w3
    have HKB3 := Lib.hid (HKB2.out.below hb3); have HB3 := Lib.hid (bl_step hb3 HB2.out)
    have hsz := HSZ.out hd hdz
    have ht0 : txtTo hd sp ks 0 = hd := by unfold txtTo Tr.textAll; rw [List.take_zero]; exact ba_nil hd
    have HST := Lib.hid (fun j h => txtTo_step hd sp ks j h); have HSZ2 := Lib.hid hsz; have HT0 := Lib.hid ht0
    have HHD := Lib.hid hhd
    clear k0 k1 k2 k3 hb3 HN7 H7 HKB2 HB2 hgd gd hhd HSZ HDG OW SP hsz ht0
    obtain ⟨k0, k1, k2, k3⟩ := HKB3.out.fours
    go_wp2_with fail
    go_loopw [3, 4, 5, 47] (fun v3 v4 _ i wr => ∃ j : Nat, j ≤ ks.length ∧ i = .int .i64 j ∧ v3 = .string (txtTo hd sp ks j) ∧ v4 = .string (if j = 0 then sp else commaS) ∧ Below w.heap.size w wr ∧ Blk wr w.heap.size #[.int .i64 k, .string s, .int .i64 n, .slice A ks.length c] 33) (fun _ _ _ i _ => ks.length - (intOf i).toNat)
    case atStart => exact ⟨0, Nat.zero_le _, rfl, by rw [HT0.out], rfl, HB3.out, HKB3.out⟩
    case round =>
      clear k0 k1 k2 k3 HKB3 HB3
      obtain ⟨j, hj, rfl, rfl, rfl, hbR, hkR⟩ := hrel
      have hzj := HSZ2.out j
      have HKR := Lib.hid hkR; have HBR := Lib.hid hbR
      by_cases hlt : j < ks.length
      · obtain ⟨q, c0, c1, c2, c3, hK⟩ := kid_at (HROW.out.below hbR) (HTS.out.below hbR) j hlt
        obtain ⟨rfl, h0, h1, h2, h3, hT⟩ := hK
        obtain ⟨k0, k1, k2, k3⟩ := hkR.fours
        have hih := IH.out j hlt x wr _ hT
        have hstep := HST.out j hlt
        have hkz := HKID.out j hlt
        have hsk := Tr.size_kid ks j hlt
        have hsj : (if j = 0 then sp else commaS).size ≤ 1 := by split; · exact hsp
                                                                 · decide
        generalize ks[j].text = yt at *
        generalize hgj : (if j = 0 then sp else commaS) = sj at *
        generalize txtTo hd sp ks j = tj at *
        have hcat : (tj ++ sj).size = tj.size + sj.size := ByteArray.size_append
        have HIH := Lib.hid hih; have HSTEP := Lib.hid hstep
        clear hih hT hkR hbR hstep hgj
        have hltI : (j : Int) < (ks.length : Int) := by omega
        have h0I : (0 : Int) ≤ (j : Int) := by omega
        go_wp2_with fail
        refine (HIH.out).mono ?_
        rintro en w5 ⟨rfl, hb5⟩
        have hB5 := bl_step hb5 HBR.out
        have hK5 := HKR.out.below hb5
        have HB5 := Lib.hid hB5; have HK5 := Lib.hid hK5
        clear hb5 hB5 hK5 k0 k1 k2 k3
        go_wp2_with fail
        go_roundw
        case rel => exact ⟨j + 1, by omega, by go_num, by rw [HSTEP.out], by rw [if_neg (by omega)]; rfl, HB5.out, HK5.out⟩
        case measure => simp [intOf]; omega
      · obtain rfl : j = ks.length := by omega
        generalize hgj : txtTo hd sp ks ks.length = tj at *
        generalize (if ks.length = 0 then sp else commaS) = z4 at *
        have HGJ := Lib.hid hgj
        clear hkR hbR hgj
        go_wp2_with fail
        go_ret
        exact ⟨by rw [HHD.out, HGJ.out]; rfl, HBR.out⟩
mutual
theorem Tr.form_kinds : ∀ (t : Tr) (num : Bool), t.form num = true → t.kinds
  | .mk k s n ks, num, h => by
    unfold Tr.form at h
    simp only [Bool.and_eq_true] at h
    unfold Tr.kinds
    exact ⟨ownF_kind h.1, Tr.formAll_kinds ks k num 0 h.2.2⟩
theorem Tr.formAll_kinds : ∀ (ks : List Tr) (k : Int) (num : Bool) (i : Nat), Tr.formAll k num i ks = true → Tr.kindsAll ks
  | [], _, _, _, _ => by unfold Tr.kindsAll; trivial
  | t :: ts, k, num, i, h => by
    unfold Tr.formAll at h
    simp only [Bool.and_eq_true] at h
    unfold Tr.kindsAll
    exact ⟨t.form_kinds _ h.1, Tr.formAll_kinds ts k num (i + 1) h.2⟩
end
theorem Tr.check_form {t : Tr} {num : Bool} (h : t.check num = 0) : t.form num = true := by
  unfold Tr.check at h
  cases hf : t.form num with
  | true => rfl
  | false => rw [hf] at h; cases h
/-- What Write tells of a tree. -/
def Tr.write (t : Tr) (num : Bool) : ByteArray × Int := if t.check num = 0 then toldS t.text else (⟨#[]⟩, t.check num)
set_option maxRecDepth 100000 in
set_option maxHeartbeats 4000000 in
theorem rwrite_calls (t : Tr) (hs : t.size ≤ 1000000) (hok : t.ok) (num : Bool) (x : Nat) (w : World) (v : Value) (ht : TrAt x w t v) :
    Calls Tryz.prog 47 #[v, .bool num] w fun e w' => e = .returned (.tuple #[.string (t.write num).1, .int .i64 (t.write num).2]) ∧ Below w.heap.size w w' := by
  obtain ⟨A, c, cs, rfl, -, -⟩ := ht.open_
  have hck := fun W (hT : TrAt x W t (.agg #[.int .i64 t.kind, .string t.s, .int .i64 t.n, .slice A t.ks.length c])) => rcheck_calls t hs hok num x W _ hT
  have htx := fun hk W (hT : TrAt x W t (.agg #[.int .i64 t.kind, .string t.s, .int .i64 t.n, .slice A t.ks.length c])) => rtext_calls t.size hs t (Nat.le_refl _) hok hk x W _ hT
  have hkd := fun h => Tr.form_kinds t num (Tr.check_form h)
  have htz := t.text_size hok
  obtain ⟨W1, hW1⟩ : ∃ W1, w.alloc (.cells #[.int .i64 t.kind, .string t.s, .int .i64 t.n, .slice A t.ks.length c] 33) = W1 := ⟨_, rfl⟩
  have hkb := Blk.new w #[.int .i64 t.kind, .string t.s, .int .i64 t.n, .slice A t.ks.length c] 33
  have hb1 := bl_alloc (bl_refl w) (.cells #[.int .i64 t.kind, .string t.s, .int .i64 t.n, .slice A t.ks.length c] 33)
  rw [hW1] at hkb hb1
  have ht1 := ht.below hb1
  obtain ⟨k0, k1, k2, k3⟩ := hkb.fours
  have HW1 := Lib.hid hW1; have HB1 := Lib.hid hb1; have HT1 := Lib.hid ht1; have HKB := Lib.hid hkb; have HCK := Lib.hid hck
  clear hW1 hb1 ht1 ht hkb hck hok
  by_cases hz : t.check num = 0
  · have e : t.write num = toldS t.text := if_pos hz
    have htx2 := htx (hkd hz)
    rw [e]
    clear e htx hkd
    rw [hz] at HCK
    clear hz
    have HTX := Lib.hid htx2
    clear htx2
    generalize t.text = tx at *
    go_enter Tryz.func47, Tryz.ntmps47
    go_upto_region 1 with fail
    rw [HW1.out]
    go_wp2_with fail
    refine (HCK.out _ HT1.out).mono ?_
    rintro en w2 ⟨rfl, hb2⟩
    have hB2 := bl_step hb2 HB1.out
    have ht2 := HT1.out.below hb2
    clear k0 k1 k2 k3
    obtain ⟨k0, k1, k2, k3⟩ := (HKB.out.below hb2).fours
    have HB2 := Lib.hid hB2; have HT2 := Lib.hid ht2
    clear hB2 ht2 hb2
    go_wp2_with fail
    refine (HTX.out _ HT2.out).mono ?_
    rintro en w3 ⟨rfl, hb3⟩
    have HB3 := Lib.hid (bl_step hb3 HB2.out)
    clear hb3 k0 k1 k2 k3
    by_cases h1 : 1000 < tx.size
    · have hI : (1000 : Int) < (tx.size : Int) := by omega
      have e := Lib.hid (show toldS tx = (⟨#[]⟩, 5) from if_pos h1)
      go_wp2_with fail
      go_ret2
      exact ⟨by rw [e.out]; rfl, HB3.out⟩
    · have hI : ¬ ((1000 : Int) < (tx.size : Int)) := by omega
      have e := Lib.hid (show toldS tx = (tx, 0) from if_neg h1)
      go_wp2_with fail
      go_ret2
      exact ⟨by rw [e.out]; rfl, HB3.out⟩
  · have e : t.write num = (⟨#[]⟩, t.check num) := if_neg hz
    rw [e]
    have hzb : (t.check num != 0) = true := by simp [hz]
    clear e htx hkd htz hz
    generalize t.check num = er at *
    go_enter Tryz.func47, Tryz.ntmps47
    go_upto_region 1 with fail
    rw [HW1.out]
    go_wp2_with fail
    refine (HCK.out _ HT1.out).mono ?_
    rintro en w2 ⟨rfl, hb2⟩
    go_wp2_with fail
    go_ret2
    exact ⟨rfl, bl_step hb2 HB1.out⟩
mutual
def Tr.same : Tr → Tr → Bool
  | .mk k s n ks, .mk k' s' n' ks' => !(k == 0) && k == k' && s.toList == s'.toList && n == n' && ks.length == ks'.length && Tr.sameAll ks ks'
def Tr.sameAll : List Tr → List Tr → Bool
  | [], _ => true
  | _, [] => true
  | t :: ts, u :: us => t.same u && Tr.sameAll ts us
end
theorem Tr.sameAll_true : ∀ (ts us : List Tr), ts.length = us.length → (∀ j (h : j < ts.length) (h' : j < us.length), ts[j].same us[j] = true) → Tr.sameAll ts us = true
  | [], _, _, _ => by simp [Tr.sameAll]
  | t :: ts, [], h, _ => by simp at h
  | t :: ts, u :: us, h, hh => by
    unfold Tr.sameAll
    rw [Tr.sameAll_true ts us (by simpa using h) (fun j h1 h2 => hh (j + 1) (by simp; omega) (by simp; omega))]
    have := hh 0 (by simp) (by simp)
    simp only [List.getElem_cons_zero] at this
    rw [this]
    rfl
theorem Tr.sameAll_false : ∀ (ts us : List Tr) (j : Nat) (h : j < ts.length) (h' : j < us.length), ts[j].same us[j] = false → Tr.sameAll ts us = false
  | t :: ts, u :: us, 0, _, _, hh => by
    unfold Tr.sameAll
    simp only [List.getElem_cons_zero] at hh
    rw [hh]; rfl
  | t :: ts, u :: us, j + 1, h, h', hh => by
    unfold Tr.sameAll
    rw [Tr.sameAll_false ts us j (by simpa using h) (by simpa using h') (by simpa using hh)]
    simp
theorem ba_eqL {s t : ByteArray} (h : s.toList = t.toList) : s = t := by
  rw [ByteArray.toList_eq, ByteArray.toList_eq] at h
  cases s; cases t
  simp only [ByteArray.mk.injEq]
  exact Array.toList_inj.1 h
theorem four_range {w : World} {b o : Nat} {c0 c1 c2 c3 : Value} (h0 : w.cell? ⟨b, o, none⟩ = some c0) (h1 : w.cell? ⟨b, o + 1, none⟩ = some c1) (h2 : w.cell? ⟨b, o + 2, none⟩ = some c2) (h3 : w.cell? ⟨b, o + 3, none⟩ = some c3) : w.rangeAt b o [c0, c1, c2, c3] := fun j v hv => by
  match j, hv with
  | 0, hv => cases hv; exact h0
  | 1, hv => cases hv; exact h1
  | 2, hv => cases hv; exact h2
  | 3, hv => cases hv; exact h3
theorem rat_below {w w1 : World} {g o : Nat} {xs : List Value} (h : w.rangeAt g o xs) (hb : Below w.heap.size w w1) : w1.rangeAt g o xs := fun j v hv => cell_below hb (h j v hv)
theorem size_t4 : (Tryz.prog.info? 33).map (·.size) = some 4 := by kernel_rfl
set_option maxRecDepth 100000 in
set_option maxHeartbeats 8000000 in
theorem rsame_calls (B : Nat) (hB : B ≤ 1000000) : ∀ (t u : Tr), t.size ≤ B → ∀ (x : Nat) (w : World) (v v2 : Value), TrAt x w t v → TrAt x w u v2 → u.size ≤ 1000000 → Calls Tryz.prog 48 #[v, v2] w (fun e w' => e = .returned (.bool (t.same u)) ∧ Below w.heap.size w w') := by
  induction B with
  | zero => intro t u h; have := t.size_pos; omega
  | succ B ih =>
    intro t u hsz x w v v2 ht hu husz
    obtain ⟨A, c, cs, rfl, hrow, hts⟩ := ht.open_
    obtain ⟨A2, c2, cs2, rfl, hrow2, hts2⟩ := hu.open_
    clear ht hu
    cases t with
    | mk k s n ks =>
    cases u with
    | mk k' s' n' ks' =>
    unfold Tr.size at hsz husz
    simp only [Tr.kind, Tr.s, Tr.n, Tr.ks] at *
    have hlen := Tr.len_size ks
    have hlen' := Tr.len_size ks'
    have IH := Lib.hid (fun i (h : i < ks.length) (h' : i < ks'.length) => ih (by omega) ks[i] ks'[i] (by have := Tr.size_kid ks i h; omega))
    have hks' := fun i (h' : i < ks'.length) => Tr.size_kid ks' i h'
    have HTRUE := Lib.hid (Tr.sameAll_true ks ks'); have HFALSE := Lib.hid (Tr.sameAll_false ks ks')
    have HDEF : Hid (Tr.same (.mk k s n ks) (.mk k' s' n' ks') = (!(k == 0) && k == k' && s.toList == s'.toList && n == n' && ks.length == ks'.length && Tr.sameAll ks ks')) := by show _ = _; unfold Tr.same; rfl
    rw [HDEF.out]
    generalize hsa : Tr.sameAll ks ks' = sa at *
    clear hsa HDEF
    obtain ⟨W1, hW1⟩ : ∃ W1, (w.alloc (.cells #[.int .i64 k, .string s, .int .i64 n, .slice A ks.length c] 33)).alloc (.cells #[.int .i64 k', .string s', .int .i64 n', .slice A2 ks'.length c2] 33) = W1 := ⟨_, rfl⟩
    have hkb := (Blk.new w #[.int .i64 k, .string s, .int .i64 n, .slice A ks.length c] 33).below (bl_alloc (bl_refl _) (.cells #[.int .i64 k', .string s', .int .i64 n', .slice A2 ks'.length c2] 33))
    have hkc := Blk_new (w.alloc (.cells #[.int .i64 k, .string s, .int .i64 n, .slice A ks.length c] 33)) #[.int .i64 k', .string s', .int .i64 n', .slice A2 ks'.length c2] 33 (w.heap.size + 1) (by simp)
    have hb1 := bl_alloc (bl_alloc (bl_refl w) (.cells #[.int .i64 k, .string s, .int .i64 n, .slice A ks.length c] 33)) (.cells #[.int .i64 k', .string s', .int .i64 n', .slice A2 ks'.length c2] 33)
    rw [hW1] at hkb hkc hb1
    have HW1 := Lib.hid hW1; have HKB := Lib.hid hkb; have HKC := Lib.hid hkc; have HB1 := Lib.hid hb1; have HROW := Lib.hid hrow; have HTS := Lib.hid hts; have HROW2 := Lib.hid hrow2; have HTS2 := Lib.hid hts2; have HKS := Lib.hid hks'
    clear hW1 hb1 hrow hts hrow2 hts2 hks' ih
    obtain ⟨k0, k1, k2, k3⟩ := hkb.fours
    obtain ⟨j0, j1, j2, j3⟩ := hkc.fours
    clear hkb hkc
    go_enter Tryz.func48, Tryz.ntmps48
    go_upto_region 1 with fail
    rw [HW1.out]
    by_cases d0 : k = 0
    · subst d0
      go_wp2_with fail
      go_ret
      exact ⟨rfl, HB1.out⟩
    have q0 : (k == 0) = false := by simpa using d0
    by_cases d1 : k = k'
    rotate_left
    · have q1 : (k != k') = true := by simpa using d1
      go_wp2_with fail
      go_ret
      exact ⟨by simp [d1], HB1.out⟩
    subst d1
    by_cases d2 : s = s'
    rotate_left
    · have d2' : s.toList ≠ s'.toList := fun e => d2 (ba_eqL e)
      have q1 : (s.toList != s'.toList) = true := by simpa using d2'
      have q2 : (s.toList == s'.toList) = false := by simpa using d2'
      go_wp2_with fail
      go_ret
      exact ⟨by simp [q2], HB1.out⟩
    subst d2
    by_cases d3 : n = n'
    rotate_left
    · have q1 : (n != n') = true := by simpa using d3
      go_wp2_with fail
      go_ret
      exact ⟨by simp [d3], HB1.out⟩
    subst d3
    by_cases d4 : ks.length = ks'.length
    rotate_left
    · have q1 : ((ks.length : Int) != (ks'.length : Int)) = true := by simp; omega
      go_wp2_with fail
      go_ret
      exact ⟨by simp [d4], HB1.out⟩
    have q4 : ((ks.length : Int) != (ks'.length : Int)) = false := by simp; omega
    have HQ0 := Lib.hid q0; have HD4 := Lib.hid d4
    clear d4
    go_wp2_with fail
    clear q4
    go_loopw [5, 42] (fun _ i wr => ∃ j : Nat, j ≤ ks.length ∧ i = .int .i64 j ∧ (∀ p (h : p < ks.length) (h' : p < ks'.length), p < j → ks[p].same ks'[p] = true) ∧ Below w.heap.size w wr ∧ Blk wr w.heap.size #[.int .i64 k, .string s, .int .i64 n, .slice A ks.length c] 33 ∧ Blk wr (w.heap.size + 1) #[.int .i64 k, .string s, .int .i64 n, .slice A2 ks'.length c2] 33) (fun _ i _ => ks.length - (intOf i).toNat)
    case atStart => exact ⟨0, Nat.zero_le _, rfl, fun p _ _ h => by omega, HB1.out, HKB.out, HKC.out⟩
    case round =>
      clear k0 k1 k2 k3 j0 j1 j2 j3 HKB HKC HB1
      obtain ⟨j, hj, rfl, hall, hbR, hkR, hkS⟩ := hrel
      have HALL := Lib.hid hall; have HBR := Lib.hid hbR; have HKR := Lib.hid hkR; have HKS := Lib.hid hkS; have HKZ := HKS
      clear hall HKS
      by_cases hlt : j < ks.length
      · have hlt2 : j < ks'.length := by have := HD4.out; omega
        obtain ⟨q, c0, c1, c2', c3, hK⟩ := kid_at (HROW.out.below hbR) (HTS.out.below hbR) j hlt
        obtain ⟨rfl, h0, h1, h2, h3, hT⟩ := hK
        obtain ⟨r, e0, e1, e2, e3, hK2⟩ := kid_at (HROW2.out.below hbR) (HTS2.out.below hbR) j hlt2
        obtain ⟨rfl, g0, g1, g2, g3, hU⟩ := hK2
        obtain ⟨k0, k1, k2, k3⟩ := hkR.fours
        obtain ⟨j0, j1, j2, j3⟩ := hkS.fours
        have hih := fun W (hT1 : TrAt x W ks[j] (.agg #[c0, c1, c2', c3])) (hU1 : TrAt x W ks'[j] (.agg #[e0, e1, e2, e3])) => IH.out j hlt hlt2 x W _ _ hT1 hU1 (by have := Tr.size_kid ks' j hlt2; omega)
        have HFJ := Lib.hid (HFALSE.out j hlt hlt2); have HAJ := Lib.hid (fun p (h : p < ks.length) (h' : p < ks'.length) (hp : p < j + 1) (hs : ks[j].same ks'[j] = true) => show ks[p].same ks'[p] = true from if e : p = j then by subst e; exact hs else HALL.out p h h' (by omega))
        generalize hys : ks[j].same ks'[j] = ys at *
        have HIH := Lib.hid hih; have HT := Lib.hid hT; have HU := Lib.hid hU
        clear hih hT hU hbR hkR hkS hys
        have hltI : (j : Int) < (ks.length : Int) := by omega
        have hltJ : (j : Int) < (ks'.length : Int) := by omega
        have h0I : (0 : Int) ≤ (j : Int) := by omega
        go_upto_region 6 with fail
        go_cut [56] (fun v wx => v = .bool (!ys) ∧ Below wr.heap.size wr wx)
        case first =>

          have HR := Lib.hid (And.intro k3 (And.intro j3 (And.intro (four_range h0 h1 h2 h3) (four_range g0 g1 g2 g3))))
          refine wp_region_noPanic ?_
          refine wp_region_held_drew (S := fun w' => w'.cell? ⟨w.heap.size, 3, none⟩ = some (.slice (some ⟨q, 0, none⟩) ks.length c) ∧ w'.cell? ⟨w.heap.size + 1, 3, none⟩ = some (.slice (some ⟨r, 0, none⟩) ks'.length c2) ∧ w'.rangeAt q (j * 4) [c0, c1, c2', c3] ∧ w'.rangeAt r (j * 4) [e0, e1, e2, e3]) (by kernel_rfl) HR.out (fun hHeld => ?_)
          refine wpAnyH_world (fun W => Below wr.heap.size wr W) (bl_drew (bl_refl _)) (fun W2 hb2 => ?_)
          refine wpAnyH_lst #[false, false, false, false, false, false, false, false, false, false, false, false] (by rfl) ?_
          clear hHeld
          refine wpAnyH_named (fun A0 hA0 => ?_)
          have HA0 := Lib.hid hA0
          refine sp_in A0 [45, 46, 47, 48, 49, 50, 51, 52, 53, 54, 55, 56] 58 [(2, .pointer (some ⟨w.heap.size, 0, none⟩)), (3, .pointer (some ⟨w.heap.size + 1, 0, none⟩)), (5, .int .i64 j)] (by rw [hA0]; rfl) ⟨cell_below (hb2) HR.out.1, cell_below (hb2) HR.out.2.1, rat_below HR.out.2.2.1 (hb2), rat_below HR.out.2.2.2 (hb2)⟩ (by rw [hA0]; exact ⟨rfl, rfl, rfl, trivial⟩) ?_
          clear hA0
          refine st 0 [2] rfl ?_
          refine st 2 [5] rfl ?_
          refine st 5 [3] rfl ?_
          refine st 7 [5] rfl ?_
          refine st 1 [45] rfl ?_
          refine st 6 [50] rfl ?_
          refine st (v := .pointer (some ⟨q, j * 4, none⟩)) 3 [46, 47] rfl ?_
          refine st (v := .pointer (some ⟨r, j * 4, none⟩)) 8 [51, 52] rfl ?_
          refine sl 4 48 rfl q (j * 4) [c0, c1, c2', c3] _ (fun w h => h.2.2.1) Tryz.underlying33 size_t4 ?_
          refine sl 9 53 rfl r (j * 4) [e0, e1, e2, e3] _ (fun w h => h.2.2.2) Tryz.underlying33 size_t4 ?_
          refine sr 10 (sc 10 [49, 54] rfl (HIH.out _ (HT.out.below hb2) (HU.out.below hb2)) ?_)
          rintro en W3 ⟨rfl, hb⟩
          replace hb2 := bl_step hb hb2
          refine ⟨_, rfl, ⟨cell_below (hb2) HR.out.1, cell_below (hb2) HR.out.2.1, rat_below HR.out.2.2.1 (hb2), rat_below HR.out.2.2.2 (hb2)⟩, ?_⟩
          clear hb
          refine st (v := .bool (!ys)) 11 [55] rfl ?_
          refine sp_done (fun A hO hN hS => NoPanic.normal ?_)
          obtain ⟨fo, hfo⟩ := hO.lit HA0.out
          have g56 := hN.get 56 rfl
          clear hO hN
          dsimp only [putL, List.set_cons_zero, List.set_cons_succ] at hfo
          subst hfo
          have g56 : fo 56 = .bool (!ys) := g56
          go_wp2_with fail
          go_meet
          exact ⟨rfl, hb2⟩
        obtain ⟨rfl, hb⟩ := hcut
        rename World => wy
        have HBY := Lib.hid (bl_step hb HBR.out); have HKY := Lib.hid (HKR.out.below hb); have HKX := Lib.hid (HKZ.out.below hb)
        clear hb HIH HT HU HBR HKR HKZ k0 k1 k2 k3 j0 j1 j2 j3 h0 h1 h2 h3 g0 g1 g2 g3
        cases ys with
        | false =>
          have e := HFJ.out rfl
          have q0 := HQ0.out
          subst e
          go_wp2_with fail
          go_ret
          exact ⟨by simp, HBY.out⟩
        | true =>
          go_wp2_with fail
          go_roundw
          case rel => exact ⟨j + 1, by omega, by go_num, fun p h h' hp => HAJ.out p h h' hp rfl, HBY.out, HKY.out, HKX.out⟩
          case measure => simp [intOf]; omega
      · obtain rfl : j = ks.length := by omega
        have e := HTRUE.out HD4.out (fun p h h' => HALL.out p h h' (by omega))
        subst e
        clear hkR hkS hbR
        go_wp2_with fail
        go_ret
        exact ⟨by have := HQ0.out; have := HD4.out; simp [*], HBR.out⟩
theorem ba_assoc (a b c : ByteArray) : a ++ b ++ c = a ++ (b ++ c) := ByteArray.append_assoc
theorem ba_ext {a b : ByteArray} (h : a.data.toList = b.data.toList) : a = b := by
  cases a; cases b
  simp only [ByteArray.mk.injEq]
  exact Array.toList_inj.1 h
theorem joinS_one (a : ByteArray) : joinS [a] = a := ba_ext (by simp [joinS, Lib.join])
theorem joinS_two (a b : ByteArray) : joinS [a, b] = a ++ (commaS ++ b) := ba_ext (by simp [joinS, Lib.join, commaS])
theorem joinS_three (a b c : ByteArray) : joinS [a, b, c] = a ++ (commaS ++ (b ++ (commaS ++ c))) := ba_ext (by simp [joinS, Lib.join, commaS])
/-- Nothing odd within. -/
def Ob.whole : Ob → Prop
  | .add l r => l.whole ∧ r.whole
  | .neg o => o.whole
  | .mul l r => l.whole ∧ r.whole
  | .max l r => l.whole ∧ r.whole
  | .odd _ => False
  | _ => True
def Tm.whole : Tm → Prop
  | .give t => t.whole
  | .and l r => l.whole ∧ r.whole
  | .or _ l r => l.whole ∧ r.whole
  | .scale o t => o.whole ∧ t.whole
  | .when_ _ t => t.whole
  | .if_ o l r => o.whole ∧ l.whole ∧ r.whole
  | .odd _ => False
  | _ => True
theorem Ob.form_whole : ∀ (o : Ob), o.form = true → o.whole
  | .const n, _ => trivial
  | .fix s, _ => trivial
  | .neg o, h => o.form_whole h
  | .add l r, h => by simp only [Ob.form, Bool.and_eq_true] at h; exact ⟨l.form_whole h.1, r.form_whole h.2⟩
  | .mul l r, h => by simp only [Ob.form, Bool.and_eq_true] at h; exact ⟨l.form_whole h.1, r.form_whole h.2⟩
  | .max l r, h => by simp only [Ob.form, Bool.and_eq_true] at h; exact ⟨l.form_whole h.1, r.form_whole h.2⟩
  | .odd _, h => by cases h
theorem Tm.form_whole : ∀ (o : Tm), o.form = true → o.whole
  | .zero, _ => trivial
  | .one s, _ => trivial
  | .give t, h => t.form_whole h
  | .and l r, h => by simp only [Tm.form, Bool.and_eq_true] at h; exact ⟨l.form_whole h.1, r.form_whole h.2⟩
  | .or s l r, h => by simp only [Tm.form, Bool.and_eq_true] at h; exact ⟨l.form_whole h.2.1, r.form_whole h.2.2⟩
  | .scale o t, h => by simp only [Tm.form, Bool.and_eq_true] at h; exact ⟨o.form_whole h.1, t.form_whole h.2⟩
  | .when_ n t, h => by simp only [Tm.form, Bool.and_eq_true] at h; exact t.form_whole h.2
  | .if_ o l r, h => by simp only [Tm.form, Bool.and_eq_true] at h; exact ⟨o.form_whole h.1, l.form_whole h.2.1, r.form_whole h.2.2⟩
  | .odd _, h => by cases h
theorem Ob.tr_text : ∀ (o : Ob), o.whole → o.tr.text = o.text
  | .const n, _ => by simp [Ob.tr, Tr.text, Ob.text]
  | .fix s, _ => by simp [Ob.tr, Tr.text, Tr.textAll, Ob.text, callS, joinS_one, joinS_two, joinS_three, frontS, wordS, ba_nil]
  | .neg o, h => by simp [Ob.tr, Tr.text, Tr.textAll, Ob.text, callS, joinS_one, joinS_two, joinS_three, frontS, sepS, wordS, ba_nil, nil_ba, o.tr_text h]
  | .add l r, h => by simp [Ob.tr, Tr.text, Tr.textAll, Ob.text, callS, joinS_one, joinS_two, joinS_three, frontS, sepS, wordS, ba_nil, nil_ba, l.tr_text h.1, r.tr_text h.2, ba_assoc]
  | .mul l r, h => by simp [Ob.tr, Tr.text, Tr.textAll, Ob.text, callS, joinS_one, joinS_two, joinS_three, frontS, sepS, wordS, ba_nil, nil_ba, l.tr_text h.1, r.tr_text h.2, ba_assoc]
  | .max l r, h => by simp [Ob.tr, Tr.text, Tr.textAll, Ob.text, callS, joinS_one, joinS_two, joinS_three, frontS, sepS, wordS, ba_nil, nil_ba, l.tr_text h.1, r.tr_text h.2, ba_assoc]
  | .odd _, h => h.elim
theorem Tm.tr_text : ∀ (o : Tm), o.whole → o.tr.text = o.text
  | .zero, _ => by simp [Tm.tr, Tr.text, Tm.text]
  | .one s, _ => by simp [Tm.tr, Tr.text, Tr.textAll, Tm.text, callS, joinS_one, joinS_two, joinS_three, frontS, wordS, ba_nil]
  | .give t, h => by simp [Tm.tr, Tr.text, Tr.textAll, Tm.text, callS, joinS_one, joinS_two, joinS_three, frontS, sepS, wordS, ba_nil, nil_ba, t.tr_text h]
  | .and l r, h => by simp [Tm.tr, Tr.text, Tr.textAll, Tm.text, callS, joinS_one, joinS_two, joinS_three, frontS, sepS, wordS, ba_nil, nil_ba, l.tr_text h.1, r.tr_text h.2, ba_assoc]
  | .or s l r, h => by simp [Tm.tr, Tr.text, Tr.textAll, Tm.text, callS, joinS_one, joinS_two, joinS_three, frontS, sepS, wordS, ba_nil, nil_ba, l.tr_text h.1, r.tr_text h.2, ba_assoc]
  | .scale o t, h => by simp [Tm.tr, Tr.text, Tr.textAll, Tm.text, callS, joinS_one, joinS_two, joinS_three, frontS, sepS, wordS, ba_nil, nil_ba, o.tr_text h.1, t.tr_text h.2, ba_assoc]
  | .when_ n t, h => by simp [Tm.tr, Tr.text, Tr.textAll, Tm.text, callS, joinS_one, joinS_two, joinS_three, frontS, sepS, wordS, ba_nil, nil_ba, t.tr_text h, ba_assoc]
  | .if_ o l r, h => by simp [Tm.tr, Tr.text, Tr.textAll, Tm.text, callS, joinS_one, joinS_two, joinS_three, frontS, sepS, wordS, ba_nil, nil_ba, o.tr_text h.1, l.tr_text h.2.1, r.tr_text h.2.2, ba_assoc]
  | .odd _, h => h.elim
theorem Tm.tr_write (t : Tm) : t.tr.write false = t.write := by
  unfold Tr.write Tm.write
  rw [t.tr_check]
  split
  · rename_i h
    have hf : t.form = true := by
      cases e : t.form with
      | true => rfl
      | false => unfold Tm.check at h; rw [e] at h; cases h
    rw [t.tr_text (t.form_whole hf)]
  · rfl
theorem Ob.tr_write (t : Ob) : t.tr.write true = t.write := by
  unfold Tr.write Ob.write
  rw [t.tr_check]
  split
  · rename_i h
    have hf : t.form = true := by
      cases e : t.form with
      | true => rfl
      | false => unfold Ob.check at h; rw [e] at h; cases h
    rw [t.tr_text (t.form_whole hf)]
  · rfl
theorem Ob.tr_same : ∀ (a b : Ob), a.fine → b.fine → a.tr.same b.tr = a.same b := by
  intro a
  induction a with
  | const n => intro b _ hb; cases b <;> simp [Ob.tr, Tr.same, Tr.sameAll, Ob.same]
  | fix s => intro b _ hb; cases b <;> simp [Ob.tr, Tr.same, Tr.sameAll, Ob.same]
  | neg o ih => intro b ha hb; cases b with
    | neg o' => simp [Ob.tr, Tr.same, Tr.sameAll, Ob.same, ih o' ha hb]
    | _ => simp [Ob.tr, Tr.same, Tr.sameAll, Ob.same]
  | add l r i1 i2 => intro b ha hb; cases b with
    | add l' r' => simp [Ob.tr, Tr.same, Tr.sameAll, Ob.same, i1 l' ha.1 hb.1, i2 r' ha.2 hb.2]
    | _ => simp [Ob.tr, Tr.same, Tr.sameAll, Ob.same]
  | mul l r i1 i2 => intro b ha hb; cases b with
    | mul l' r' => simp [Ob.tr, Tr.same, Tr.sameAll, Ob.same, i1 l' ha.1 hb.1, i2 r' ha.2 hb.2]
    | _ => simp [Ob.tr, Tr.same, Tr.sameAll, Ob.same]
  | max l r i1 i2 => intro b ha hb; cases b with
    | max l' r' => simp [Ob.tr, Tr.same, Tr.sameAll, Ob.same, i1 l' ha.1 hb.1, i2 r' ha.2 hb.2]
    | _ => simp [Ob.tr, Tr.same, Tr.sameAll, Ob.same]
  | odd v => intro b ha; exact ha.elim
theorem Tm.tr_same : ∀ (a b : Tm), a.fine → b.fine → a.tr.same b.tr = a.same b := by
  intro a
  induction a with
  | zero => intro b _ hb; cases b <;> simp [Tm.tr, Tr.same, Tr.sameAll, Tm.same]
  | one s => intro b _ hb; cases b <;> simp [Tm.tr, Tr.same, Tr.sameAll, Tm.same]
  | give t ih => intro b ha hb; cases b with
    | give t' => simp [Tm.tr, Tr.same, Tr.sameAll, Tm.same, ih t' ha hb]
    | _ => simp [Tm.tr, Tr.same, Tr.sameAll, Tm.same]
  | and l r i1 i2 => intro b ha hb; cases b with
    | and l' r' => simp [Tm.tr, Tr.same, Tr.sameAll, Tm.same, i1 l' ha.1 hb.1, i2 r' ha.2 hb.2]
    | _ => simp [Tm.tr, Tr.same, Tr.sameAll, Tm.same]
  | or s l r i1 i2 => intro b ha hb; cases b with
    | or s' l' r' => simp [Tm.tr, Tr.same, Tr.sameAll, Tm.same, i1 l' ha.2.1 hb.2.1, i2 r' ha.2.2 hb.2.2]
    | _ => simp [Tm.tr, Tr.same, Tr.sameAll, Tm.same]
  | scale o t ih => intro b ha hb; cases b with
    | scale o' t' => simp [Tm.tr, Tr.same, Tr.sameAll, Tm.same, Ob.tr_same o o' ha.1 hb.1, ih t' ha.2 hb.2]
    | _ => simp [Tm.tr, Tr.same, Tr.sameAll, Tm.same]
  | when_ n t ih => intro b ha hb; cases b with
    | when_ n' t' => simp [Tm.tr, Tr.same, Tr.sameAll, Tm.same, ih t' ha.2 hb.2]
    | _ => simp [Tm.tr, Tr.same, Tr.sameAll, Tm.same]
  | if_ o l r i1 i2 => intro b ha hb; cases b with
    | if_ o' l' r' => simp [Tm.tr, Tr.same, Tr.sameAll, Tm.same, Ob.tr_same o o' ha.1 hb.1, i1 l' ha.2.1 hb.2.1, i2 r' ha.2.2 hb.2.2]
    | _ => simp [Tm.tr, Tr.same, Tr.sameAll, Tm.same]
  | odd v => intro b ha; exact ha.elim
theorem rfields_calls (k : Int) (w : World) :
    Calls Tryz.prog 17 #[.int .i64 k] w fun e w' => e = .returned (.string (fieldsS k)) ∧ w = w' := by
  have hf : Hid (fieldsS k = ⟨(fieldsL k).toArray⟩) := rfl
  go_enter Tryz.func17, Tryz.ntmps17
  go_wp2
  all_goals go_ret
  all_goals
    refine ⟨?_, rfl⟩
    rw [hf.out]
    unfold fieldsL
    simp_all
set_option maxRecDepth 100000 in
theorem rhas_calls (l : List UInt8) (hl : l.length ≤ 100) (c : UInt8) (w : World) :
    Calls Tryz.prog 45 #[.string ⟨l.toArray⟩, .int .u8 c.toNat] w fun e w' => e = .returned (.bool (l.contains c)) ∧ w = w' := by
  go_enter Tryz.func45, Tryz.ntmps45
  go_wp2_with fail
  go_loopw [5] (fun i wr => ∃ j : Nat, j ≤ l.length ∧ i = .int .i64 j ∧ Hid (∀ p, p < j → l[p]? ≠ some c) ∧ wr = w) (fun i _ => l.length - (intOf i).toNat)
  case atStart => exact ⟨0, Nat.zero_le _, rfl, Lib.hid (fun p h => by omega), rfl⟩
  case round =>
    obtain ⟨j, hj, rfl, hno, rfl⟩ := hrel
    by_cases hlt : j < l.length
    · have h0 : (0 : Int) ≤ (j : Int) := by omega
      have h1 : (j : Int) < (l.length : Int) := by omega
      go_wp2_with fail
      · rename_i hq
        have hq' : l[j] = c := UInt8.toNat_inj.1 (by have := eq_of_beq hq; exact Int.ofNat_inj.1 this)
        go_ret
        refine ⟨congrArg (fun b => Ending.returned (Value.bool b)) ?_, rfl⟩
        rw [← hq']
        exact (List.elem_iff.2 (List.getElem_mem _)).symm
      · rename_i hq
        have hq' : l[j]? ≠ some c := fun e => by
          rw [List.getElem?_eq_getElem hlt] at e
          injection e with e
          have h2 : ((⟨l.toArray⟩ : ByteArray)[j].toNat : Int) = (c.toNat : Int) := by rw [← e]; rfl
          rw [h2] at hq
          simp at hq
        exact ⟨⟨j + 1, by omega, by go_num, Lib.hid (fun p hp => if e : p = j then by subst e; exact hq' else hno.out p (by omega)), trivial⟩, by simp [intOf]; omega⟩
    · obtain rfl : j = l.length := by omega
      have hc : l.contains c = false := by
        cases h : l.contains c with
        | false => rfl
        | true =>
          obtain ⟨p, hp, e⟩ := List.getElem_of_mem (List.elem_iff.1 h)
          exact absurd (by rw [List.getElem?_eq_getElem hp, e]) (hno.out p hp)
      have HC := Lib.hid hc
      clear hc
      go_wp2_with fail
      go_ret
      exact ⟨by rw [HC.out]; rfl, rfl⟩
theorem rhasS_calls (k : Int) (c : UInt8) (w : World) :
    Calls Tryz.prog 45 #[.string (fieldsS k), .int .u8 c.toNat] w fun e w' => e = .returned (.bool ((fieldsL k).contains c)) ∧ w = w' :=
  rhas_calls (fieldsL k) (by unfold fieldsL; (repeat' split) <;> decide) c w
/-- May a text be, named or not? -/
def textB (s : ByteArray) (named : Bool) : Bool := if named then nameB s else s.toList.isEmpty
set_option maxRecDepth 100000 in
theorem rtxt_calls (s : ByteArray) (hs : s.size ≤ 1000000) (nm : Bool) (w : World) :
    Calls Tryz.prog 44 #[.string s, .bool nm] w fun e w' => e = .returned (.bool (textB s nm)) ∧ Below w.heap.size w w' := by
  have hn := rname_calls s hs w
  have HN := Lib.hid hn
  clear hn
  cases nm with
  | true =>
    have HP : Hid (textB s true = nameB s) := rfl
    rw [HP.out]
    generalize nameB s = nb at *
    go_enter Tryz.func44, Tryz.ntmps44
    go_wp2_with fail
    refine HN.out.mono ?_
    rintro en w1 ⟨rfl, hb⟩
    cases nb with
    | true =>
      go_wp2_with fail
      go_ret
      exact ⟨rfl, hb⟩
    | false =>
      go_wp2_with fail
      go_ret
      exact ⟨rfl, hb⟩
  | false =>
    have HP : Hid (textB s false = s.toList.isEmpty) := rfl
    rw [HP.out]
    clear HN
    cases hz : s.toList.isEmpty with
    | true =>
      have e : s.toList = [] := List.isEmpty_iff.1 hz
      obtain rfl : s = ⟨#[]⟩ := ba_eqL (by rw [e, ByteArray.toList_eq])
      clear e hz
      go_enter Tryz.func44, Tryz.ntmps44
      go_wp2_with fail
      go_ret
      exact ⟨rfl, bl_refl _⟩
    | false =>
      have e : s.toList ≠ [] := fun e => by rw [e] at hz; cases hz
      have e2 : (s.toList == (⟨#[]⟩ : ByteArray).toList) = false := by
        have : (⟨#[]⟩ : ByteArray).toList = [] := by rw [ByteArray.toList_eq]
        rw [this]
        simpa using e
      have e3 : (s.toList == []) = false := by simpa using e
      go_enter Tryz.func44, Tryz.ntmps44
      go_wp2_with fail
      go_ret
      exact ⟨rfl, bl_refl _⟩
end Go.Proofs.YtapbkomicihkkaaGreatDoor
