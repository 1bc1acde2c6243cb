/- How many numbers there are in one, and how deep. -/
import Derived.Test.YtapbkomicihkkaaDoorObs
namespace Go.Proofs.YtapbkomicihkkaaDoor
open Go.RowKit
set_option linter.unusedVariables false
set_option linter.unusedSimpArgs false

def Ob.nodes : Ob → Nat
  | .odd _ => 0
  | .const _ | .fix _ => 1
  | .add l r | .mul l r | .max l r => l.nodes + r.nodes + 1
  | .neg o => o.nodes + 1
def Ob.deep : Ob → Nat
  | .odd _ => 0
  | .const _ | .fix _ => 1
  | .add l r | .mul l r | .max l r => Nat.max l.deep r.deep + 1
  | .neg o => o.deep + 1
/-- Of each, and of what is none. -/
def Ob.meas : Ob → Nat
  | .odd _ | .const _ | .fix _ => 1
  | .add l r | .mul l r | .max l r => l.meas + r.meas + 1
  | .neg o => o.meas + 1
theorem Ob.kids_len (o : Ob) : o.kids.length ≤ 2 := by cases o <;> simp [Ob.kids]
theorem Ob.kid_meas (o : Ob) : ∀ k ∈ o.kids, k.meas < o.meas := by
  cases o <;> simp [Ob.kids, Ob.meas] <;> omega
theorem Ob.kid_ok (o : Ob) (ho : o.ok) : ∀ k ∈ o.kids, k.ok := by
  cases o <;> simp_all [Ob.kids, Ob.ok]
theorem Ob.nodes_meas : ∀ o : Ob, o.nodes ≤ o.meas
  | .odd _ | .const _ | .fix _ => by simp [Ob.nodes, Ob.meas]
  | .add l r | .mul l r | .max l r => by have := l.nodes_meas; have := r.nodes_meas; simp only [Ob.nodes, Ob.meas]; omega
  | .neg o => by have := o.nodes_meas; simp only [Ob.nodes, Ob.meas]; omega
theorem Ob.deep_meas : ∀ o : Ob, o.deep ≤ o.meas
  | .odd _ | .const _ | .fix _ => by simp [Ob.deep, Ob.meas]
  | .add l r | .mul l r | .max l r => by have := l.deep_meas; have := r.deep_meas; simp only [Ob.deep, Ob.meas, Nat.max_def]; split <;> omega
  | .neg o => by have := o.deep_meas; simp only [Ob.deep, Ob.meas]; omega
def sumN (l : List Nat) : Nat := l.foldl (· + ·) 0
def maxN (l : List Nat) : Nat := l.foldl Nat.max 0
theorem sumN_snoc (l : List Nat) (x : Nat) : sumN (l ++ [x]) = sumN l + x := by simp [sumN]
theorem maxN_snoc (l : List Nat) (x : Nat) : maxN (l ++ [x]) = Nat.max (maxN l) x := by simp [maxN]
theorem take_snoc' {α : Type} (l : List α) (k : Nat) (h : k < l.length) : l.take (k + 1) = l.take k ++ [l[k]] := by
  rw [List.take_succ_eq_append_getElem h]
theorem Ob.kids_sum (o : Ob) (h : o.isOdd = false) : sumN (o.kids.map Ob.nodes) + 1 = o.nodes ∧ maxN (o.kids.map Ob.deep) + 1 = o.deep ∧ sumN (o.kids.map Ob.meas) + 1 ≤ o.meas := by
  cases o <;> simp_all [Ob.kids, sumN, maxN, Ob.nodes, Ob.deep, Ob.meas, Ob.isOdd, Nat.max_def]
theorem sumN_take_le (l : List Nat) (k : Nat) : sumN (l.take k) ≤ sumN l := by
  have h : ∀ (l : List Nat) (a : Nat), l.foldl (· + ·) a = a + l.foldl (· + ·) 0 := by
    intro l
    induction l with
    | nil => intro a; simp
    | cons x l ih => intro a; simp only [List.foldl_cons]; rw [ih (a + x), ih (0 + x)]; omega
  conv => rhs; rw [← List.take_append_drop k l]
  unfold sumN
  rw [List.foldl_append, h (l.drop k)]
  omega
theorem maxN_le (l : List Nat) (b : Nat) (h : ∀ x ∈ l, x ≤ b) : maxN l ≤ b := by
  have g : ∀ (l : List Nat) (a : Nat), a ≤ b → (∀ x ∈ l, x ≤ b) → l.foldl Nat.max a ≤ b := by
    intro l
    induction l with
    | nil => intro a ha _; exact ha
    | cons x l ih =>
      intro a ha hx
      simp only [List.foldl_cons]
      refine ih _ ?_ (fun y hy => hx y (List.mem_cons_of_mem _ hy))
      have := hx x (List.mem_cons_self ..)
      simp only [Nat.max_def]; split <;> omega
  exact g l 0 (Nat.zero_le _) h

theorem odd_kids (o : Ob) (h : o.isOdd = true) : o.nodes = 0 ∧ o.deep = 0 := by cases o <;> simp_all [Ob.isOdd, Ob.nodes, Ob.deep]
set_option maxRecDepth 100000 in
set_option maxHeartbeats 1000000 in
theorem size_calls (B : Nat) : ∀ (o : Ob), o.meas ≤ B → o.ok → B ≤ 4611686018427387904 → ∀ w : World,
    Calls Tryd.prog 55 #[o.val] w fun e w' => e = .returned (.tuple #[.int .i64 o.nodes, .int .i64 o.deep]) ∧ Below w.heap.size w w' := by
  induction B with
  | zero => intro o h; cases o <;> simp [Ob.meas] at h
  | succ B ih =>
    intro o hm ho hB w
    cases hodd : o.isOdd with
    | true =>
      have hn := none_calls o ho w
      rw [hodd] at hn
      obtain ⟨h1, h2⟩ := odd_kids o hodd
      have H1 := Lib.hid h1; have H2 := Lib.hid h2
      clear hodd h1 h2
      go_enter Tryd.func55, Tryd.ntmps55
      go_wp2_with (go_at_call 75; refine hn.mono ?_; rintro e w1 ⟨rfl, hb1⟩)
      go_ret2
      refine ⟨by rw [H1.out, H2.out]; rfl, ?_⟩
      repeat (first | exact bl_refl _ | refine bl_alloc ?_ _ | refine bl_drew ?_ | refine bl_drewN ?_ _ | refine bl_step (by assumption) ?_)
    | false =>
      have hn := none_calls o ho w
      rw [hodd] at hn
      obtain ⟨h1, h2, h3⟩ := o.kids_sum hodd
      have HS := Lib.hid h1; have HD := Lib.hid h2
      have hkm := Lib.hid (o.kid_meas); have hko := Lib.hid (o.kid_ok ho)
      have hmn := o.nodes_meas
      have hmd := o.deep_meas
      clear hodd h1 h2 h3
      go_enter Tryd.func55, Tryd.ntmps55
      go_wp2_with (first | (go_at_call 75; refine hn.mono ?_; rintro e w1 ⟨rfl, hb1⟩) | (go_at_call 77; refine (obs_kids o ho _).mono ?_; intro e w2 hr; obtain ⟨A, c, rfl, hrd, hb2, hnc⟩ := hr.open_; clear hr))
      have hb : Below w.heap.size w w2 := by
        repeat (first | exact bl_refl _ | refine bl_alloc ?_ _ | refine bl_drew ?_ | refine bl_drewN ?_ _ | refine bl_step (by assumption) ?_)
      have HRD := Lib.hid hrd
      clear hrd hb1 hb2 hn
      go_loopw [2, 3, 13] (fun n d i wr => ∃ k : Nat, k ≤ o.kids.length ∧ i = .int .i64 k ∧ n = .int .i64 (sumN ((o.kids.map Ob.nodes).take k) : Nat) ∧ d = .int .i64 (maxN ((o.kids.map Ob.deep).take k) : Nat) ∧ Below w2.heap.size w2 wr) (fun _ _ i _ => o.kids.length - (intOf i).toNat)
      case atStart => exact ⟨0, Nat.zero_le _, rfl, rfl, rfl, bl_refl w2⟩
      case round =>
        obtain ⟨k, hk, rfl, rfl, rfl, hbk⟩ := hrel
        have e1 := sumN_take_le (o.kids.map Ob.nodes) k
        have e2 := maxN_le ((o.kids.map Ob.deep).take k) (B + 1) (fun x hx => by
          obtain ⟨y, hy, rfl⟩ := List.mem_map.1 (List.mem_of_mem_take hx)
          have := y.deep_meas; have := hkm.out y hy; omega)
        have e3 : sumN (o.kids.map Ob.nodes) ≤ B := by have := HS.out; omega
        have hlen := o.kids_len
        have HB2 := Lib.hid (bl_step hbk hb)
        by_cases hlt : k < o.kids.length
        · obtain ⟨ad, rfl, hcell⟩ := HRD.out k (o.kids[k].val) (by simp [Ob.vals, hlt])
          have hc2 := cell_below hbk hcell
          have hmem := List.getElem_mem hlt
          have hkm' := hkm.out _ hmem
          have hih := ih o.kids[k] (by omega) (hko.out _ hmem) (by omega)
          have d1 := (o.kids[k]).nodes_meas
          have d2 := (o.kids[k]).deep_meas
          have e4 := sumN_take_le (o.kids.map Ob.nodes) (k + 1)
          rw [take_snoc' _ k (by simpa using hlt), sumN_snoc, List.getElem_map] at e4
          have HT1 := Lib.hid (take_snoc' (o.kids.map Ob.nodes) k (by simpa using hlt))
          have HT2 := Lib.hid (take_snoc' (o.kids.map Ob.deep) k (by simpa using hlt))
          simp only [List.getElem_map] at HT1 HT2
          generalize o.kids[k] = y at *
          generalize (o.kids.map Ob.nodes).take k = N at *
          generalize (o.kids.map Ob.deep).take k = D at *
          generalize hSN : sumN N = sn at *
          generalize hMD : maxN D = md at *
          generalize hyn : y.nodes = yn at *
          generalize hyd : y.deep = yd at *
          have H5 := Lib.hid hSN; have H6 := Lib.hid hMD; have H7 := Lib.hid hyn; have H8 := Lib.hid hyd
          clear hSN hMD hyn hyd hcell hmem
          go_wp2_with (go_at_call 55; refine (hih _).mono ?_; rintro e w3 ⟨rfl, hb3⟩)
          go_roundw
          case rel =>
            refine ⟨k + 1, by omega, by go_num, ?_, ?_, bl_step hb3 hbk⟩
            · rw [HT1.out, sumN_snoc, H5.out]; go_num
            · rw [HT2.out, maxN_snoc, H6.out]
              congr 1
              simp only [Nat.max_def]; split <;> split <;> omega
          case measure => simp [intOf]; omega
        · obtain rfl : k = o.kids.length := by omega
          clear hlt
          have t1 := List.take_of_length_le (l := o.kids.map Ob.nodes) (i := o.kids.length) (by simp)
          have t2 := List.take_of_length_le (l := o.kids.map Ob.deep) (i := o.kids.length) (by simp)
          rw [t2] at e2
          rw [t1, t2]
          clear t1 t2 e1
          have hS := HS.out
          have hD := HD.out
          generalize sumN (o.kids.map Ob.nodes) = sn at *
          generalize maxN (o.kids.map Ob.deep) = md at *
          have HS2 := Lib.hid hS
          have HD2 := Lib.hid hD
          clear hS hD HS HD
          go_wp2
          go_ret2
          exact ⟨by rw [← HS2.out, ← HD2.out]; rfl, HB2.out⟩
end Go.Proofs.YtapbkomicihkkaaDoor
