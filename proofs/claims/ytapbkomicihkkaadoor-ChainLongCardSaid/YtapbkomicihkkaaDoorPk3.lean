/- The fields of a kind, in the order of their bytes. -/
import Derived.Test.YtapbkomicihkkaaDoorPk2
import Derived.Lib.OthersKept
namespace Go.Proofs.YtapbkomicihkkaaDoor
open Go.RowKit
set_option linter.unusedVariables false
set_option linter.unusedSimpArgs false

def ordB : List UInt8 := [73, 78, 76, 67, 68, 86, 84]
def ordS : ByteArray := ⟨#[73, 78, 76, 67, 68, 86, 84]⟩
def rvals (l : List UInt8) : List Value := l.map fun c => .int .i32 (c.toNat : Int)
theorem rvals_snoc (l : List UInt8) (c : UInt8) : rvals (l ++ [c]) = rvals l ++ [.int .i32 (c.toNat : Int)] := by simp [rvals]
theorem rvals_length (l : List UInt8) : (rvals l).length = l.length := by simp [rvals]
/-- Of the letters of o those of l, in o's order. -/
def ordF (l o : List UInt8) : List UInt8 := o.flatMap fun r => l.filter (· == r)
def Ev.order (k : Int) : List UInt8 := ordF (fieldsL k) ordB
theorem info_i32 : (Tryd.prog.info? 21).map (fun i => (i.zero, i.size, i.bytes)) = some (some (.int .i32 0), 1, 4) := by kernel_rfl
theorem bs_i32 (x : Int) (W : World) : (Instr.buildSlice 169 1 #[(0, .int .i32 x)]).run Tryd.prog W = .ok (.slice (some ⟨W.heap.size, 0, none⟩) 1 1) (W.alloc (.cells #[.int .i32 x] 21)) := by kernel_rfl
theorem gb_iterAt (w : World) (k : Nat) (s : ByteArray) (pos : Nat) : w.grownBy (w.iterAt k s pos) (some k) :=
  ⟨rfl, rfl, rfl, by rw [Lib.iterAt_size]; exact Nat.le_refl _, fun i _ h => Lib.iterAt_other w k i s pos (fun e => h (by rw [e]))⟩
theorem Own.ne_iter {w0 W : World} {e size n g pos : Nat} {v : Value} {xs : List Value} {s : ByteArray} (h : Own w0 W e size v n xs) (hb : W.heap[g]? = some (.stringIter s pos)) : v.ownBlock ≠ some g := by
  intro hk
  rcases h.2 with ⟨rfl, _⟩ | ⟨g', cap, cur, rfl, _, hh, _⟩
  · simp [Value.ownBlock] at hk
  · have : g' = g := by simpa [Value.ownBlock] using hk
    subst this
    rw [hh] at hb
    cases hb
theorem Own.iterAt {w0 W : World} {e size n g pos : Nat} {v : Value} {xs : List Value} {s : ByteArray} (h : Own w0 W e size v n xs) (hb : W.heap[g]? = some (.stringIter s pos)) (pos' : Nat) : Own w0 (W.iterAt g s pos') e size v n xs :=
  h.kept (gb_iterAt W g s pos') (.inr (h.ne_iter hb))
theorem iter_gb {W W' : World} {g pos : Nat} {s : ByteArray} {r : Option Nat} (h : W.heap[g]? = some (.stringIter s pos)) (hg : W.grownBy W' r) (hne : r ≠ some g) : W'.heap[g]? = some (.stringIter s pos) := by
  have hlt : g < W.heap.size := (Array.getElem?_eq_some_iff.1 h).1
  rw [hg.block g hlt (fun e => hne e.symm)]
  exact h
theorem iterPos_of {w : World} {k p : Nat} {s : ByteArray} (h : w.heap[k]? = some (.stringIter s p)) : w.iterPos k = p := by simp [World.iterPos, h]
theorem filter_take_succ (l : List UInt8) (r : UInt8) (p : Nat) (h : p < l.length) : (l.take (p + 1)).filter (· == r) = (l.take p).filter (· == r) ++ (if l[p] == r then [l[p]] else []) := by
  rw [List.take_succ_eq_append_getElem h, List.filter_append]
  simp only [List.filter_cons, List.filter_nil]
theorem ordF_take_succ (l o : List UInt8) (q : Nat) (h : q < o.length) : ordF l (o.take (q + 1)) = ordF l (o.take q) ++ l.filter (· == o[q]) := by
  unfold ordF
  rw [List.take_succ_eq_append_getElem h, List.flatMap_append]
  simp
theorem fieldsL_ascii (k : Int) : ∀ c ∈ fieldsL k, c.toNat < 128 := by
  unfold fieldsL
  repeat' split
  all_goals decide
theorem fieldsL_len (k : Int) : (fieldsL k).length ≤ 3 := by
  unfold fieldsL
  repeat' split
  all_goals decide
theorem bag_get (l : List UInt8) (p : Nat) (h : p < l.length) : (⟨l.toArray⟩ : ByteArray)[p]'(by show p < (l.toArray).size; simpa using h) = l[p] := by
  show (l.toArray)[p] = _
  simp
theorem ordF_len (l o : List UInt8) : (ordF l o).length ≤ o.length * l.length := by
  unfold ordF
  induction o with
  | nil => simp
  | cons c o ih =>
    rw [List.flatMap_cons, List.length_append, List.length_cons, Nat.succ_mul]
    have := List.length_filter_le (· == c) l
    omega
theorem ordS_at (q : Nat) (h : q < 7) : ordS[q]'h = ordB[q]! := by
  match q, h with
  | 0, _ => rfl
  | 1, _ => rfl
  | 2, _ => rfl
  | 3, _ => rfl
  | 4, _ => rfl
  | 5, _ => rfl
  | 6, _ => rfl
/-- It returns runes in memory of its own. -/
def RetRunes (w : World) (l : List UInt8) (en : Ending) (w' : World) : Prop := ∃ v, en = .returned v ∧ Own w w' 21 1 v l.length (rvals l) ∧ Below w.heap.size w w'
set_option maxRecDepth 100000 in
set_option maxHeartbeats 4000000 in
theorem pfields_calls (k : Int) (w : World) : Calls Tryd.prog 95 #[.int .i64 k] w (RetRunes w (Ev.order k)) := by
  have hasc := fieldsL_ascii k
  have hln := fieldsL_len k
  have hfc := fun W => fields_calls k W
  have hfs : fieldsS k = ⟨(fieldsL k).toArray⟩ := rfl
  rw [hfs] at hfc
  unfold Ev.order
  generalize fieldsL k = l at *
  have hsz : (⟨l.toArray⟩ : ByteArray).size = l.length := by simp [ByteArray.size]
  obtain ⟨s, hs⟩ : ∃ s : ByteArray, ⟨l.toArray⟩ = s := ⟨_, rfl⟩
  have hget : ∀ p (h : p < s.size) (h2 : p < l.length), s[p]'h = l[p] := by
    intro p h h2; subst hs; exact bag_get l p h2
  rw [hs] at hfc hsz
  clear hs hfs
  have HFC := Lib.hid hfc; have HAS := Lib.hid hasc; have HGET := Lib.hid hget; have HSZ := Lib.hid hsz; have HLN := Lib.hid hln
  clear hfc hasc hget hsz hln
  have hob : ∀ q, q < 7 → (ordB[q]!).toNat < 128 := by decide
  have HOB := Lib.hid hob
  clear hob
  have hbs := fun (x : Int) (W : World) => bs_i32 x W
  go_enter Tryd.func95, Tryd.ntmps95
  go_wp2_with fail
  have hi0 : (w.alloc (.stringIter ordS 0)).heap[w.heap.size]? = some (.stringIter ordS 0) := World.iter_heap w ordS 0
  have hB0 := bl_alloc (bl_refl w) (.stringIter ordS 0)
  change Code.wp _ _ _ _ (w.alloc (.stringIter ordS 0))
  generalize w.alloc (.stringIter ordS 0) = W0 at *
  go_loopw [3] (fun o wr => ∃ q n : Nat, q ≤ 7 ∧ n = (ordF l (ordB.take q)).length ∧ Own w wr 21 1 o n (rvals (ordF l (ordB.take q))) ∧ wr.heap[w.heap.size]? = some (.stringIter ordS q) ∧ Below w.heap.size w wr) (fun _ wr => 7 - wr.iterPos w.heap.size)
  case atStart => exact ⟨0, 0, by omega, rfl, Own.nil _ _ _ _, hi0, hB0⟩
  case round =>
    clear hi0 hB0
    obtain ⟨q, n, hq, hn, hO, hi, hB⟩ := hrel
    have HN := Lib.hid hn
    clear hn
    have hmuq : wr.iterPos w.heap.size = q := iterPos_of hi
    by_cases hlt : q < 7
    · have hnx : ∀ ty, (Instr.next (.pointer (some ⟨w.heap.size, 0, none⟩)) true ty).run Tryd.prog wr = .ok (.tuple #[.bool true, .int .i64 q, .int .i32 (ordB[q]!).toNat]) (wr.iterAt w.heap.size ordS (q + 1)) := fun ty => by
        rw [Lib.run_next_ascii_at wr w.heap.size ordS q ty hi hlt (by rw [ordS_at q hlt]; exact HOB.out q hlt), ordS_at q hlt]
      have hO1 := hO.iterAt hi (q + 1)
      have hi1 := Lib.iterAt_heap wr _ _ _ (q + 1) hi
      have hB1 := Lib.below_iterAt hB (Nat.le_refl _) ordS (q + 1)
      obtain ⟨W1, hW1⟩ : ∃ W1, wr.iterAt w.heap.size ordS (q + 1) = W1 := ⟨_, rfl⟩
      rw [hW1] at hnx hO1 hi1 hB1
      have hst : ordF l (ordB.take (q + 1)) = ordF l (ordB.take q) ++ l.filter (· == ordB[q]!) := by rw [ordF_take_succ l ordB q hlt, getElem!_pos ordB q hlt]
      have HST := Lib.hid hst
      obtain ⟨r, hr⟩ : ∃ r, ordB[q]! = r := ⟨_, rfl⟩
      rw [hr] at hnx HST
      have HO1 := Lib.hid hO1; have HI1 := Lib.hid hi1; have HB1 := Lib.hid hB1
      clear hO1 hi1 hB1 hO hB hst hr hi
      go_wp2_with fail
      refine (HFC.out _).mono ?_
      rintro e w2 ⟨rfl, rfl⟩
      clear hnx hW1
      go_wp2_with fail
      have hg0 : (W1.alloc (.stringIter s 0)).heap[W1.heap.size]? = some (.stringIter s 0) := World.iter_heap W1 s 0
      have hO2 := HO1.out.below (bl_alloc (bl_refl _) (.stringIter s 0))
      have hB2 := bl_alloc HB1.out (.stringIter s 0)
      have hi2 := iter_gb HI1.out (gb_alloc (gb_refl W1 none) (.stringIter s 0)) (by simp)
      have hlt1 : w.heap.size < W1.heap.size := (Array.getElem?_eq_some_iff.1 HI1.out).1
      have hNE : Hid (W1.heap.size ≠ w.heap.size) := by show _ ≠ _; omega
      have HNE := hNE
      have HLE : Hid (w.heap.size ≤ W1.heap.size) := by show _ ≤ _; omega
      clear hNE
      clear hlt1
      change Code.wp _ _ _ _ (W1.alloc (.stringIter s 0))
      generalize W1.alloc (.stringIter s 0) = W2 at *
      generalize W1.heap.size = g at *
      clear HO1 HI1 HB1
      clear W1
      go_loopw [3] (fun o wr2 => ∃ p m : Nat, p ≤ l.length ∧ m = (ordF l (ordB.take q) ++ (l.take p).filter (· == r)).length ∧ Own w wr2 21 1 o m (rvals (ordF l (ordB.take q) ++ (l.take p).filter (· == r))) ∧ wr2.heap[g]? = some (.stringIter s p) ∧ wr2.heap[w.heap.size]? = some (.stringIter ordS (q + 1)) ∧ Below w.heap.size w wr2) (fun _ wr2 => l.length - wr2.iterPos g)
      case atStart => exact ⟨0, n, by omega, by simp [HN.out], by simpa using hO2, hg0, hi2, hB2⟩
      case round =>
        clear hO2 hB2 hi2 hg0
        obtain ⟨p, m, hp, hm, hO, hi, hi0, hB⟩ := hrel
        have HM := Lib.hid hm
        clear hm
        have hmu : wr.iterPos g = p := iterPos_of hi
        have hml : m ≤ 24 := by
          rw [HM.out, List.length_append]
          have h1 := ordF_len l (ordB.take q)
          have h2 := List.length_filter_le (· == r) (l.take p)
          have h3 : (ordB.take q).length ≤ 7 := by rw [List.length_take]; exact Nat.min_le_right _ _
          have h5 := Nat.mul_le_mul h3 HLN.out
          have h6 : (l.take p).length ≤ 3 := by have := HLN.out; rw [List.length_take]; omega
          omega
        by_cases hlp : p < l.length
        · have hps : p < s.size := by rw [HSZ.out]; exact hlp
          have hlg : (l[p].toNat : Int) < 128 := by have := HAS.out l[p] (List.getElem_mem hlp); omega
          have hnx : ∀ ty, (Instr.next (.pointer (some ⟨g, 0, none⟩)) true ty).run Tryd.prog wr = .ok (.tuple #[.bool true, .int .i64 p, .int .i32 l[p].toNat]) (wr.iterAt g s (p + 1)) := fun ty => by
            rw [Lib.run_next_ascii_at wr g s p ty hi hps (by rw [HGET.out p hps hlp]; exact HAS.out _ (List.getElem_mem hlp)), HGET.out p hps hlp]
          have hO1 := hO.iterAt hi (p + 1)
          have hi1 := Lib.iterAt_heap wr _ _ _ (p + 1) hi
          have hi3 := (Lib.iterAt_other wr g w.heap.size s (p + 1) (fun e => HNE.out e.symm)).trans hi0
          have hB1 := hB.grown (gb_iterAt wr g s (p + 1)) hB.size (fun j hj => by cases hj; have := HLE.out; omega)
          have hfs := filter_take_succ l r p hlp
          obtain ⟨W3, hW3⟩ : ∃ W3, wr.iterAt g s (p + 1) = W3 := ⟨_, rfl⟩
          rw [hW3] at hnx hO1 hi1 hi3 hB1
          have HFS := Lib.hid hfs; have HO1 := Lib.hid hO1; have HI1 := Lib.hid hi1; have HI3 := Lib.hid hi3; have HB1 := Lib.hid hB1
          have hmu2 : W3.iterPos g = p + 1 := iterPos_of hi1
          clear hO hB hfs hO1 hi1 hi3 hB1 hi hi0 hW3
          by_cases hc : l[p] = r
          · have hcb : (l[p] == r) = true := by simpa using hc
            rw [hcb, if_pos rfl] at HFS
            go_wp2_with (at_builtin; refine append_one rfl _ _ 169 21 _ 4 rfl Tryd.underlying169 info_i32 rfl _ _ _ _ HO1.out HB1.out rfl rfl rfl (by omega) (by omega) ?_; intro v1 w3 HO4 HB4 HG4)
            go_roundw
            case rel => exact ⟨p + 1, m + 1, by omega, by rw [HFS.out, hc, ← List.append_assoc, List.length_append, ← HM.out]; rfl, by rw [HFS.out, hc, ← List.append_assoc, rvals_snoc]; exact HO4, iter_gb HI1.out HG4 (HO1.out.ne_iter HI1.out), iter_gb HI3.out HG4 (HO1.out.ne_iter HI3.out), HB4⟩
            case measure => rw [iterPos_of (iter_gb HI1.out HG4 (HO1.out.ne_iter HI1.out))]; omega
          · have hcb : (l[p] == r) = false := by simpa using hc
            have hci : ((l[p].toNat : Int) == (r.toNat : Int)) = false := by
              simp only [beq_eq_false_iff_ne, ne_eq]
              intro e
              exact hc (UInt8.toNat_inj.1 (by omega))
            rw [hcb] at HFS
            go_wp2_with fail
            go_roundw
            case rel => exact ⟨p + 1, m, by omega, by rw [HFS.out]; simpa using HM.out, by rw [HFS.out]; simpa using HO1.out, HI1.out, HI3.out, HB1.out⟩
            case measure => rw [iterPos_of HI1.out]; omega
        · have hpe : p = l.length := by omega
          have hps : ¬ p < s.size := by rw [HSZ.out]; omega
          have hnx : ∀ ty, (Instr.next (.pointer (some ⟨g, 0, none⟩)) true ty).run Tryd.prog wr = .ok (.tuple #[.bool false]) wr := fun ty => Lib.run_next_end_at wr g s p ty hi hps
          have hmu0 : wr.iterPos w.heap.size = q + 1 := iterPos_of hi0
          have HO1 := Lib.hid hO; have HI0 := Lib.hid hi0; have HB1 := Lib.hid hB
          clear hO hB hi hi0
          go_wp2_with fail
          go_roundw
          case rel =>
            have hO4 := HO1.out
            rw [hpe, List.take_length] at hO4
            have hM := HM.out
            rw [hpe, List.take_length] at hM
            exact ⟨q + 1, m, by omega, by rw [HST.out]; exact hM, by rw [HST.out]; exact hO4, HI0.out, HB1.out⟩
          case measure => omega
    · obtain rfl : q = 7 := by omega
      have hnx : ∀ ty, (Instr.next (.pointer (some ⟨w.heap.size, 0, none⟩)) true ty).run Tryd.prog wr = .ok (.tuple #[.bool false]) wr := fun ty => Lib.run_next_end_at wr w.heap.size ordS 7 ty hi (by decide)
      have HO1 := Lib.hid hO; have HB1 := Lib.hid hB
      clear hO hB hi
      go_wp2_with fail
      go_ret
      exact ⟨_, rfl, by rw [show (ordF l ordB).length = n from HN.out.symm]; exact HO1.out, HB1.out⟩
end Go.Proofs.YtapbkomicihkkaaDoor
