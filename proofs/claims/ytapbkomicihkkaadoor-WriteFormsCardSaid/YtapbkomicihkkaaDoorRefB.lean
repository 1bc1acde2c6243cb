/- The document's trees: how many parts, how deep; their labels; may one be? -/
import Derived.Test.YtapbkomicihkkaaDoorRef4
namespace Go.Proofs.YtapbkomicihkkaaDoor
open Go.RowKit
set_option linter.unusedVariables false
set_option linter.unusedSimpArgs false

mutual
def Tr.nodes : Tr → Nat
  | .mk k _ _ ks => if k = 0 then 0 else 1 + Tr.nodesAll ks
def Tr.nodesAll : List Tr → Nat
  | [] => 0
  | t :: ts => t.nodes + Tr.nodesAll ts
end
mutual
def Tr.deep : Tr → Nat
  | .mk k _ _ ks => if k = 0 then 0 else 1 + Tr.deepAll ks
def Tr.deepAll : List Tr → Nat
  | [] => 0
  | t :: ts => max t.deep (Tr.deepAll ts)
end
mutual
theorem Tr.nodes_size : ∀ t : Tr, t.nodes ≤ t.size
  | .mk k s n ks => by have := Tr.nodesAll_size ks; unfold Tr.nodes Tr.size; split <;> omega
theorem Tr.nodesAll_size : ∀ ks : List Tr, Tr.nodesAll ks ≤ Tr.sizeAll ks
  | [] => by simp [Tr.nodesAll]
  | t :: ts => by have := t.nodes_size; have := Tr.nodesAll_size ts; simp only [Tr.nodesAll, Tr.sizeAll]; omega
end
mutual
theorem Tr.deep_size : ∀ t : Tr, t.deep ≤ t.size
  | .mk k s n ks => by have := Tr.deepAll_size ks; unfold Tr.deep Tr.size; split <;> omega
theorem Tr.deepAll_size : ∀ ks : List Tr, Tr.deepAll ks ≤ Tr.sizeAll ks
  | [] => by simp [Tr.deepAll]
  | t :: ts => by have := t.deep_size; have := Tr.deepAll_size ts; simp only [Tr.deepAll, Tr.sizeAll]; omega
end
theorem Tr.nodesAll_snoc (t : Tr) : ∀ l : List Tr, Tr.nodesAll (l ++ [t]) = Tr.nodesAll l + t.nodes
  | [] => by simp [Tr.nodesAll]
  | x :: l => by have := Tr.nodesAll_snoc t l; simp only [List.cons_append, Tr.nodesAll]; omega
theorem Tr.deepAll_snoc (t : Tr) : ∀ l : List Tr, Tr.deepAll (l ++ [t]) = max (Tr.deepAll l) t.deep
  | [] => by simp [Tr.deepAll]
  | x :: l => by have := Tr.deepAll_snoc t l; simp only [List.cons_append, Tr.deepAll]; omega
theorem Tr.sizeAll_take : ∀ (l : List Tr) (j : Nat), Tr.sizeAll (l.take j) ≤ Tr.sizeAll l
  | [], j => by simp [Tr.sizeAll]
  | x :: l, 0 => by simp [Tr.sizeAll]
  | x :: l, j + 1 => by have := Tr.sizeAll_take l j; simp only [List.take_succ_cons, Tr.sizeAll]; omega
def RetN2 (w : World) (n d : Nat) (e : Ending) (w' : World) : Prop := e = .returned (.tuple #[.int .i64 (n : Int), .int .i64 (d : Int)]) ∧ Below w.heap.size w w'
set_option maxRecDepth 100000 in
set_option maxHeartbeats 4000000 in
theorem rsize_calls (B : Nat) (hB : B ≤ 1000000) : ∀ (t : Tr), t.size ≤ B → t.ok → ∀ (x : Nat) (w : World) (v : Value), TrAt x w t v → Calls Tryd.prog 41 #[v] w (RetN2 w t.nodes t.deep) := by
  induction B with
  | zero => intro t h; have := t.size_pos; omega
  | succ B ih =>
    intro t hsz hok x w v ht
    obtain ⟨A, c, cs, rfl, hrow, hts⟩ := ht.open_
    clear ht
    cases t with
    | mk k s n ks =>
    unfold Tr.size at hsz
    unfold Tr.ok at hok
    simp only [Tr.kind, Tr.s, Tr.n, Tr.ks] at *
    have hlen := Tr.len_size ks
    have hst := Tr.sizeAll_take ks
    have IH := Lib.hid (fun i (h : i < ks.length) => ih (by omega) ks[i] (by have := Tr.size_kid ks i h; omega) (Tr.ok_kid ks hok.2 i h))
    obtain ⟨W1, hW1⟩ : ∃ W1, w.alloc (.cells #[.int .i64 k, .string s, .int .i64 n, .slice A ks.length c] 30) = W1 := ⟨_, rfl⟩
    have hk := Blk.new w #[.int .i64 k, .string s, .int .i64 n, .slice A ks.length c] 30
    have hbA := bl_alloc (bl_refl w) (.cells #[.int .i64 k, .string s, .int .i64 n, .slice A ks.length c] 30)
    rw [hW1] at hk hbA
    obtain ⟨k0, k1, k2, k3⟩ := hk.fours
    have HW1 := Lib.hid hW1; have HK := Lib.hid hk
    have HROW := Lib.hid (hrow.below hbA); have HTS := Lib.hid (hts.below hbA)
    clear hW1 hk hrow hts ih hok
    unfold RetN2 at *
    by_cases hk0 : k = 0
    · subst hk0
      have hN : Tr.nodes (.mk 0 s n ks) = 0 := by unfold Tr.nodes; rw [if_pos rfl]
      have hD : Tr.deep (.mk 0 s n ks) = 0 := by unfold Tr.deep; rw [if_pos rfl]
      rw [hN, hD]
      clear hN hD hst
      go_enter Tryd.func41, Tryd.ntmps41
      go_wp2_with (rw [HW1.out])
      go_ret2
      exact ⟨rfl, hbA⟩
    · have hN : Tr.nodes (.mk k s n ks) = 1 + Tr.nodesAll ks := by unfold Tr.nodes; rw [if_neg hk0]
      have hD : Tr.deep (.mk k s n ks) = 1 + Tr.deepAll ks := by unfold Tr.deep; rw [if_neg hk0]
      rw [hN, hD]
      have hkb : (k == 0) = false := by simpa using hk0
      have HST := Lib.hid hst
      clear hN hD hst
      go_enter Tryd.func41, Tryd.ntmps41
      go_upto_region 4 with (rw [HW1.out])
      go_wp2_with fail
      go_loopw [4, 5, 15] (fun nn dd i wr => ∃ j : Nat, j ≤ ks.length ∧ i = .int .i64 j ∧ nn = .int .i64 ((1 + Tr.nodesAll (ks.take j) : Nat) : Int) ∧ dd = .int .i64 ((Tr.deepAll (ks.take j) : Nat) : Int) ∧ Below W1.heap.size W1 wr) (fun _ _ i _ => ks.length - (intOf i).toNat)
      case atStart => exact ⟨0, Nat.zero_le _, rfl, by simp [Tr.nodesAll], by simp [Tr.deepAll], bl_refl W1⟩
      case round =>
        clear k0 k1 k2 k3
        obtain ⟨j, hj, rfl, rfl, rfl, hbR⟩ := hrel
        by_cases hlt : j < ks.length
        · obtain ⟨q, c0, c1, c2, c3, hK⟩ := kid_at (HROW.out.below hbR) (HTS.out.below hbR) j hlt
          obtain ⟨rfl, h0, h1, h2, h3, hT⟩ := hK
          obtain ⟨k0, k1, k2, k3⟩ := (HK.out.below hbR).fours
          have hih := IH.out j hlt x wr _ hT
          have ht1 := Lib.hid (take_snoc' ks j hlt)
          have b1 := HST.out j
          have b2 := Tr.nodesAll_size (ks.take j)
          have b3 := Tr.deepAll_size (ks.take j)
          have b4 := Tr.size_kid ks j hlt
          have b5 := ks[j].nodes_size
          have b6 := ks[j].deep_size
          have hs1 := Lib.hid (Tr.nodesAll_snoc ks[j] (ks.take j)); have hs2 := Lib.hid (Tr.deepAll_snoc ks[j] (ks.take j))
          generalize ks[j].nodes = y1 at *
          generalize ks[j].deep = y2 at *
          generalize Tr.nodesAll (ks.take j) = z1 at *
          generalize Tr.deepAll (ks.take j) = z2 at *
          have HIH := Lib.hid hih
          clear hih hT
          have hltI : (j : Int) < (ks.length : Int) := by omega
          have h0I : (0 : Int) ≤ (j : Int) := by omega
          go_wp2_with fail
          refine HIH.out.mono ?_
          rintro e wX ⟨rfl, hb0⟩
          go_wp2_with fail
          go_roundw
          case rel =>
            refine ⟨j + 1, by omega, by go_num, ?_, ?_, bl_step hb0 hbR⟩
            · rw [ht1.out, hs1.out]; go_num
            · rw [ht1.out, hs2.out]; go_num
          case measure => simp [intOf]; omega
        · obtain rfl : j = ks.length := by omega
          rw [List.take_length]
          have b2 := Tr.nodesAll_size ks
          have b3 := Tr.deepAll_size ks
          go_wp2_with fail
          go_ret2
          refine ⟨?_, bl_step hbR hbA⟩
          congr 3 <;> go_num

mutual
def Tr.labels : Tr → List ByteArray
  | .mk k s _ ks => (if k = 5 then [s] else []) ++ Tr.labelsAll ks
def Tr.labelsAll : List Tr → List ByteArray
  | [] => []
  | t :: ts => t.labels ++ Tr.labelsAll ts
end
mutual
theorem Tr.labels_size : ∀ t : Tr, t.labels.length ≤ t.size
  | .mk k s n ks => by have := Tr.labelsAll_size ks; unfold Tr.labels Tr.size; split <;> simp <;> omega
theorem Tr.labelsAll_size : ∀ ks : List Tr, (Tr.labelsAll ks).length ≤ Tr.sizeAll ks
  | [] => by simp [Tr.labelsAll]
  | t :: ts => by have := t.labels_size; have := Tr.labelsAll_size ts; simp only [Tr.labelsAll, Tr.sizeAll, List.length_append]; omega
end
theorem Tr.labelsAll_snoc (t : Tr) : ∀ l : List Tr, Tr.labelsAll (l ++ [t]) = Tr.labelsAll l ++ t.labels
  | [] => by simp [Tr.labelsAll]
  | x :: l => by have := Tr.labelsAll_snoc t l; simp only [List.cons_append, Tr.labelsAll, this, List.append_assoc]
/-- What is gathered ahead of part j. -/
def labTo (k : Int) (s : ByteArray) (ks : List Tr) (j : Nat) : List ByteArray := (if k = 5 then [s] else []) ++ Tr.labelsAll (ks.take j)
theorem labTo_le (k : Int) (s : ByteArray) (ks : List Tr) (j : Nat) : (labTo k s ks j).length ≤ Tr.sizeAll ks + 1 := by
  have := Tr.labelsAll_size (ks.take j)
  have := Tr.sizeAll_take ks j
  unfold labTo
  split <;> simp <;> omega
theorem labTo_step (k : Int) (s : ByteArray) (ks : List Tr) (j : Nat) (h : j < ks.length) : labTo k s ks (j + 1) = labTo k s ks j ++ ks[j].labels := by
  unfold labTo
  rw [take_snoc' ks j h, Tr.labelsAll_snoc, List.append_assoc]
theorem labTo_all (k : Int) (s : ByteArray) (n : Int) (ks : List Tr) : labTo k s ks ks.length = Tr.labels (.mk k s n ks) := by
  unfold labTo Tr.labels; rw [List.take_length]
set_option maxRecDepth 100000 in
set_option maxHeartbeats 4000000 in
theorem rlabels_calls (B : Nat) (hB : B ≤ 1000000) : ∀ (t : Tr), t.size ≤ B → t.ok → ∀ (x : Nat) (w : World) (v : Value), TrAt x w t v → Calls Tryd.prog 42 #[v] w (RetStrs w t.labels) := by
  induction B with
  | zero => intro t h; have := t.size_pos; omega
  | succ B ih =>
    intro t hsz hok x w v ht
    obtain ⟨A, c, cs, rfl, hrow, hts⟩ := ht.open_
    clear ht
    cases t with
    | mk k s n ks =>
    unfold Tr.size at hsz
    unfold Tr.ok at hok
    simp only [Tr.kind, Tr.s, Tr.n, Tr.ks] at *
    have hlen := Tr.len_size ks
    have IH := Lib.hid (fun i (h : i < ks.length) => ih (by omega) ks[i] (by have := Tr.size_kid ks i h; omega) (Tr.ok_kid ks hok.2 i h))
    obtain ⟨W1, hW1⟩ : ∃ W1, w.alloc (.cells #[.int .i64 k, .string s, .int .i64 n, .slice A ks.length c] 30) = W1 := ⟨_, rfl⟩
    have hk := Blk.new w #[.int .i64 k, .string s, .int .i64 n, .slice A ks.length c] 30
    have hbA := bl_alloc (bl_refl w) (.cells #[.int .i64 k, .string s, .int .i64 n, .slice A ks.length c] 30)
    rw [hW1] at hk hbA
    obtain ⟨k0, k1, k2, k3⟩ := hk.fours
    have HW1 := Lib.hid hW1; have HK := Lib.hid hk
    have HROW := Lib.hid hrow; have HTS := Lib.hid hts
    clear hW1 hk hrow hts ih hok
    have hbs := bs_str
    go_enter Tryd.func42, Tryd.ntmps42
    go_upto_if 7 with (rw [HW1.out])
    go_cut [3] (fun v wx => Own w wx 9 1 v (labTo k s ks 0).length (strs (labTo k s ks 0)) ∧ Below w.heap.size w wx ∧ Blk wx w.heap.size #[.int .i64 k, .string s, .int .i64 n, .slice A ks.length c] 30)
    case first =>
      by_cases hk5 : k = 5
      · subst hk5
        have hl0 : labTo 5 s ks 0 = [s] := by unfold labTo; simp [Tr.labelsAll]
        have HL0 := Lib.hid hl0
        clear hl0
        go_wp2_with (at_builtin; refine append_oneG (w0 := w) rfl _ _ 23 9 _ 16 rfl Tryd.underlying23 info_str rfl _ 0 [] _ _ (Own.nil _ _ _ _) hbA rfl rfl (by simp) rfl (by omega) (by omega) ?_; intro v1 w3 HO1 HB1 HG1)
        have hk3 := HK.out.grown HG1 (by simp [Value.ownBlock])
        go_meet
        rw [HL0.out]
        exact ⟨by simpa [strs] using HO1, HB1, hk3⟩
      · have hkb : (k == 5) = false := by simpa using hk5
        have hl0 : labTo k s ks 0 = [] := by unfold labTo; rw [if_neg hk5]; simp [Tr.labelsAll]
        have HL0 := Lib.hid hl0
        clear hl0
        go_wp2_with fail
        go_meet
        rw [HL0.out]
        exact ⟨Own.nil _ _ _ _, hbA, HK.out⟩
    clear k0 k1 k2 k3
    obtain ⟨HO1, HB1, hk3⟩ := hcut
    obtain ⟨k0, k1, k2, k3⟩ := hk3.fours
    have HO9 := Lib.hid HO1; have HK9 := Lib.hid hk3
    clear HO1 hk3
    go_wp2_with fail
    go_loopw [3, 16] (fun v i wr => ∃ j : Nat, j ≤ ks.length ∧ i = .int .i64 j ∧ Own w wr 9 1 v (labTo k s ks j).length (strs (labTo k s ks j)) ∧ Below w.heap.size w wr ∧ Blk wr w.heap.size #[.int .i64 (k), .string s, .int .i64 n, .slice A ks.length c] 30) (fun _ i _ => ks.length - (intOf i).toNat)
    case atStart => exact ⟨0, Nat.zero_le _, rfl, HO9.out, HB1, HK9.out⟩
    case round =>
      (try clear k0 k1 k2 k3)
      obtain ⟨j, hj, rfl, HO, hbR, hkR⟩ := hrel
      have hlm := labTo_le (k) s ks j
      by_cases hlt : j < ks.length
      · obtain ⟨q, c0, c1, c2, c3, hK⟩ := kid_at (HROW.out.below hbR) (HTS.out.below hbR) j hlt
        obtain ⟨rfl, h0, h1, h2, h3, hT⟩ := hK
        obtain ⟨k0, k1, k2, k3⟩ := hkR.fours
        have hih := IH.out j hlt x wr _ hT
        have HL1 := Lib.hid (labTo_step (k) s ks j hlt)
        have b4 := Tr.size_kid ks j hlt
        have b5 := ks[j].labels_size
        generalize ks[j].labels = yl at *
        generalize labTo (k) s ks j = cl at *
        have hll := strs_length cl
        have HIH := Lib.hid hih; have HKR := Lib.hid hkR
        clear hih hT hkR
        have hltI : (j : Int) < (ks.length : Int) := by omega
        have h0I : (0 : Int) ≤ (j : Int) := by omega
        obtain ⟨A0, d0, rfl, _, hd0, _⟩ := HO.read
        go_wp2_with fail
        refine HIH.out.mono ?_
        intro e w5 hq
        obtain ⟨v5, rfl, HO5, HB5⟩ := hq
        have HOk := HO.below HB5
        have HBk := bl_step HB5 hbR
        have HKR5 := HKR.out.below HB5
        obtain ⟨A5, c5, rfl, hrd5, _, hl5⟩ := HO5.read
        clear HO HO5
        go_wp2_with (at_builtin; refine append_any (w0 := w) rfl _ _ 23 9 _ 1 16 rfl Tryd.underlying23 info_str rfl (by decide) _ _ _ A5 _ c5 (strs yl) HOk HBk hrd5 rfl rfl (by omega) (strs_one yl) (by omega) (by omega) ?_; intro v6 w6 HO6 HB6 HG6)
        have HKR6 := HKR5.grown HG6 (HOk.ne_blk HKR5 (by decide))
        go_roundw
        case rel =>
          refine ⟨j + 1, by omega, by go_num, ?_, HB6, HKR6⟩
          rw [HL1.out, strs_append, List.length_append]
          exact HO6
        case measure => simp [intOf]; omega
      · obtain rfl : j = ks.length := by omega
        rw [labTo_all (k) s n ks] at HO
        have HO2 := Lib.hid HO
        clear HO hkR
        go_wp2_with fail
        go_ret
        exact ⟨_, rfl, HO2.out, hbR⟩

def Tr.check (t : Tr) (num : Bool) : Int := if t.form num then (if 60 < t.nodes ∨ 12 < t.deep then 5 else if dupL t.labels then 4 else 0) else 2
set_option maxRecDepth 100000 in
set_option maxHeartbeats 4000000 in
theorem rcheck_calls (t : Tr) (hs : t.size ≤ 1000000) (hok : t.ok) (num : Bool) (x : Nat) (w : World) (v : Value) (ht : TrAt x w t v) :
    Calls Tryd.prog 24 #[v, .bool num] w fun e w' => e = .returned (.int .i64 (t.check num)) ∧ Below w.heap.size w w' := by
  obtain ⟨A, c, cs, rfl, -, -⟩ := ht.open_
  obtain ⟨W1, hW1⟩ : ∃ W1, w.alloc (.cells #[.int .i64 t.kind, .string t.s, .int .i64 t.n, .slice A t.ks.length c] 30) = W1 := ⟨_, rfl⟩
  have hk := Blk.new w #[.int .i64 t.kind, .string t.s, .int .i64 t.n, .slice A t.ks.length c] 30
  have hbA := bl_alloc (bl_refl w) (.cells #[.int .i64 t.kind, .string t.s, .int .i64 t.n, .slice A t.ks.length c] 30)
  rw [hW1] at hk hbA
  obtain ⟨k0, k1, k2, k3⟩ := hk.fours
  have hT1 := ht.below hbA
  have hff := rform_calls 1000000 (Nat.le_refl _) t hs hok num x W1 _ hT1
  have hsz := t.nodes_size
  have hdz := t.deep_size
  have hlz := t.labels_size
  have hC : Hid (t.check num = if t.form num then (if 60 < t.nodes ∨ 12 < t.deep then 5 else if dupL t.labels then 4 else 0) else 2) := rfl
  have HW1 := Lib.hid hW1; have HT1 := Lib.hid hT1; have HK := Lib.hid hk
  clear hW1 hk ht hT1
  unfold RetB at hff
  go_enter Tryd.func24, Tryd.ntmps24
  cases hf : t.form num with
  | false =>
    rw [hf] at hff hC
    go_wp2_with (rw [HW1.out])
    refine hff.mono ?_
    rintro e w2 ⟨rfl, hb2⟩
    go_wp2_with fail
    go_ret
    exact ⟨ret_int (by rw [hC.out]; rfl), bl_step hb2 hbA⟩
  | true =>
    rw [hf] at hff hC
    go_wp2_with (rw [HW1.out])
    refine hff.mono ?_
    rintro e w2 ⟨rfl, hb2⟩
    have HT2 := Lib.hid (HT1.out.below hb2)
    have hbl2 := bl_step hb2 hbA
    have hk2 := HK.out.below hb2
    clear k0 k1 k2 k3 hff HT1 HK
    obtain ⟨k0, k1, k2, k3⟩ := hk2.fours
    have hsc := rsize_calls 1000000 (Nat.le_refl _) t hs hok x w2 _ HT2.out
    unfold RetN2 at hsc
    go_wp2_with fail
    refine (hsc).mono ?_
    rintro e w3 ⟨rfl, hb3⟩
    have HT3 := Lib.hid (HT2.out.below hb3)
    have hbl3 := bl_step hb3 hbl2
    have hk3 := hk2.below hb3
    clear k0 k1 k2 k3 hsc HT2 hk2
    obtain ⟨k0, k1, k2, k3⟩ := hk3.fours
    generalize hnn : t.nodes = nn at *
    generalize hdd : t.deep = dd at *
    have HNN := Lib.hid hnn; have HDD := Lib.hid hdd
    clear hnn hdd
    by_cases hn : 60 < nn
    · have hnI : (60 : Int) < (nn : Int) := by omega
      go_wp2_with fail
      go_ret
      exact ⟨ret_int (by rw [hC.out]; simp [hn]), hbl3⟩
    · have hnI : ¬ (60 : Int) < (nn : Int) := by omega
      by_cases hd : 12 < dd
      · have hdI : (12 : Int) < (dd : Int) := by omega
        go_wp2_with fail
        go_ret
        exact ⟨ret_int (by rw [hC.out]; simp [hd]), hbl3⟩
      · have hdI : ¬ (12 : Int) < (dd : Int) := by omega
        have hC2 : Hid (t.check num = if dupL t.labels then 4 else 0) := by show _ = _; rw [hC.out]; simp [hn, hd]
        have hlb := rlabels_calls 1000000 (Nat.le_refl _) t hs hok x w3 _ HT3.out
        go_wp2_with fail
        refine (hlb).mono ?_
        intro e w4 hq
        obtain ⟨v, rfl, HO, hb4⟩ := hq
        have hbl4 := bl_step hb4 hbl3
        obtain ⟨A2, c2, rfl, HR, hcc, _⟩ := HO.read
        have HRD := Lib.hid HR
        clear k0 k1 k2 k3 hlb HT3 hk3 HO HR hb4
        generalize hl : t.labels = l at *
        have HL := Lib.hid hl
        clear hl
        go_wp2_with fail
        go_loopw [29] (fun i wr => ∃ a : Nat, a ≤ l.length ∧ i = .int .i64 a ∧ Hid (∀ j, j < a → anyTo (eqTo l (strAt l j)) j = false) ∧ Below w4.heap.size w4 wr) (fun i _ => l.length - (intOf i).toNat)
        case atStart => exact ⟨0, Nat.zero_le _, rfl, Lib.hid (fun j hj => by omega), bl_refl w4⟩
        case round =>
          obtain ⟨a, ha, rfl, hno, hba⟩ := hrel
          by_cases hlt : a < l.length
          · have hltI : (a : Int) < (l.length : Int) := by omega
            have h0I : (0 : Int) ≤ (a : Int) := by omega
            go_wp2_with fail
            go_loopw [9] (fun k wr2 => ∃ b : Nat, b ≤ a ∧ k = .int .i64 b ∧ Hid (∀ j, j < b → eqTo l (strAt l a) j = false) ∧ Below w4.heap.size w4 wr2) (fun k _ => a - (intOf k).toNat)
            case atStart => exact ⟨0, Nat.zero_le _, rfl, Lib.hid (fun j hj => by omega), hba⟩
            case round =>
              obtain ⟨b, hb, rfl, hnb, hbb⟩ := hrel
              by_cases hlb : b < a
              · have hlbI : (b : Int) < (a : Int) := by omega
                have h0b : (0 : Int) ≤ (b : Int) := by omega
                have hlb2 : (b : Int) < (l.length : Int) := by omega
                obtain ⟨ad, rfl, hca⟩ := HRD.out a _ (strAt_val l a hlt)
                obtain ⟨ad2, e2, hcb⟩ := HRD.out b _ (strAt_val l b (by omega))
                injection e2 with e2
                subst e2
                have hca2 := cell_below hbb hca
                have hcb2 := cell_below hbb hcb
                have HEQ : Hid (eqTo l (strAt l a) b = ((strAt l a).toList == (strAt l b).toList)) := rfl
                clear hca hcb
                generalize hsa : strAt l a = sa at *
                generalize hsb : strAt l b = sb at *
                have HSA := Lib.hid hsa; have HSB := Lib.hid hsb
                clear hsa hsb
                cases hz : (sa.toList == sb.toList) with
                | true =>
                  go_wp2_with fail
                  go_quiet (fail)
                  go_wp2_with fail
                  go_ret
                  have hz2 := HEQ.out.trans hz
                  refine ⟨ret_int ?_, bl_drewN (bl_step hbb hbl4) _⟩
                  rw [hC2.out, if_pos]
                  exact anyTo_true hlt (by rw [HSA.out]; exact anyTo_true hlb hz2)
                | false =>
                  go_wp2_with fail
                  go_quiet (fail)
                  go_wp2_with fail
                  go_roundw
                  case rel =>
                    refine ⟨b + 1, by omega, by go_num, Lib.hid (fun j hj => ?_), bl_drewN hbb _⟩
                    by_cases e : j = b
                    · subst e; exact HEQ.out.trans hz
                    · exact hnb.out j (by omega)
                  case measure => simp [intOf]; omega
              · obtain rfl : b = a := by omega
                go_wp2_with fail
                go_roundw
                case rel =>
                  refine ⟨b + 1, by omega, by go_num, Lib.hid (fun j hj => ?_), hbb⟩
                  by_cases e : j = b
                  · subst e; exact anyTo_false hnb.out
                  · exact hno.out j (by omega)
                case measure => simp [intOf]; omega
          · obtain rfl : a = l.length := by omega
            go_wp2_with fail
            go_ret
            refine ⟨ret_int ?_, bl_step hba hbl4⟩
            rw [hC2.out, if_neg]
            unfold dupL
            rw [anyTo_false hno.out]; simp
end Go.Proofs.YtapbkomicihkkaaDoor
