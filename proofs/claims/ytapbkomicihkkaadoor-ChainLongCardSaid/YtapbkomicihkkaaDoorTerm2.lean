/- A contract's parts; how many contracts and numbers there are in one, and how deep. -/
import Derived.Test.YtapbkomicihkkaaDoorTerm1
import Derived.Test.YtapbkomicihkkaaDoorOwn
namespace Go.Proofs.YtapbkomicihkkaaDoor
open Go.RowKit
set_option linter.unusedVariables false
set_option linter.unusedSimpArgs false

theorem bs_term (n : Nat) (parts : Array (Nat × Value)) : Instr.buildSlice 150 n parts = bsN 150 n parts := rfl
theorem run_bs1_term (x : Value) (hx : IsI x) (W : World) : (bsN 150 1 #[(0, x)]).run Tryd.prog W = .ok (.slice (some ⟨W.heap.size, 0, none⟩) 1 1) (W.alloc (.cells #[x] 26)) := by
  rcases hx with rfl | ⟨_, _, rfl⟩ <;> kernel_rfl
theorem run_bs2_term (x y : Value) (hx : IsI x) (hy : IsI y) (W : World) : (bsN 150 2 #[(0, x), (1, y)]).run Tryd.prog W = .ok (.slice (some ⟨W.heap.size, 0, none⟩) 2 2) (W.alloc (.cells #[x, y] 26)) := by
  rcases hx with rfl | ⟨_, _, rfl⟩ <;> rcases hy with rfl | ⟨_, _, rfl⟩ <;> kernel_rfl
attribute [go_sem ↓] bs_term
attribute [go_sem] run_bs1_term run_bs2_term
theorem Blk_new (W : World) (cs : Array Value) (t : TypeId) (g : Nat) (hg : g = W.heap.size) : Blk (W.alloc (.cells cs t)) g cs t := by
  subst hg; exact Blk.new W cs t
/-- A slice that reads so, being nothing, or the whole of a block. -/
def RowAt (t : TypeId) (w : World) (A : Option Addr) (xs : List Value) : Prop := xs = [] ∨ ∃ g, A = some ⟨g, 0, none⟩ ∧ Blk w g xs.toArray t
theorem RowAt.rd {t : TypeId} {w : World} {A : Option Addr} {xs : List Value} (h : RowAt t w A xs) : Rd w A xs := by
  rcases h with rfl | ⟨g, rfl, hb⟩
  · exact Rd.nil _ _
  · exact hb.rd
theorem RowAt.below {t : TypeId} {w w1 : World} {A : Option Addr} {xs : List Value} (h : RowAt t w A xs) (hb : Below w.heap.size w w1) : RowAt t w1 A xs := by
  rcases h with rfl | ⟨g, rfl, h⟩
  · exact .inl rfl
  · exact .inr ⟨g, rfl, h.below hb⟩
theorem RowAt.grown {t : TypeId} {w w1 : World} {A : Option Addr} {xs : List Value} {r : Option Nat} (h : RowAt t w A xs) (hg : w.grownBy w1 r) (hr : ∀ g cs, Blk w g cs t → r ≠ some g) : RowAt t w1 A xs := by
  rcases h with rfl | ⟨g, rfl, h⟩
  · exact .inl rfl
  · exact .inr ⟨g, rfl, h.grown hg (hr g _ h)⟩
def RetRow (t : TypeId) (w : World) (n : Nat) (xs : List Value) (en : Ending) (w' : World) : Prop := ∃ A c, en = .returned (.slice A n c) ∧ RowAt t w' A xs ∧ Below w.heap.size w w' ∧ n ≤ c
theorem RetRow.open_ {t : TypeId} {w : World} {n : Nat} {xs : List Value} {en : Ending} {w' : World} (h : RetRow t w n xs en w') : ∃ A c, en = .returned (.slice A n c) ∧ RowAt t w' A xs ∧ Below w.heap.size w w' ∧ n ≤ c := h
theorem RetRow.rd {t : TypeId} {w : World} {n : Nat} {xs : List Value} {en : Ending} {w' : World} (h : RetRow t w n xs en w') : RetRd w n xs en w' := by
  obtain ⟨A, c, e, hr, hb, hc⟩ := h
  exact ⟨A, c, e, hr.rd, hb, hc⟩
set_option maxRecDepth 100000 in
set_option maxHeartbeats 1000000 in
theorem term_kidsB (o : Tm) (ho : o.ok) (w : World) :
    Calls Tryd.prog 68 #[o.val] w (RetRow 26 w o.kids.length (Tm.vals o.kids)) := by
  have nilcase : ∀ w', Below w.heap.size w w' → RetRow 26 w 0 [] (.returned (.slice none 0 0)) w' := fun w' hb => ⟨none, 0, rfl, .inl rfl, hb, Nat.le_refl _⟩
  cases o with
  | odd v =>
    rcases ho with h | ⟨t, x, h, h1, h2, h3, h4, h5, h6, h7, h8⟩
    · subst h
      unfold Tm.val
      go_enter Tryd.func68, Tryd.ntmps68
      go_wp2
      go_ret
      refine nilcase _ ?_
      repeat (first | exact bl_refl _ | refine bl_alloc ?_ _ | refine bl_drew ?_ | refine bl_drewN ?_ _ | refine bl_step (by assumption) ?_)
    · subst h
      unfold Tm.val
      go_enter Tryd.func68, Tryd.ntmps68
      go_wp2
      go_ret
      refine nilcase _ ?_
      repeat (first | exact bl_refl _ | refine bl_alloc ?_ _ | refine bl_drew ?_ | refine bl_drewN ?_ _ | refine bl_step (by assumption) ?_)
  | zero =>
    unfold Tm.val
    go_enter Tryd.func68, Tryd.ntmps68
    go_wp2
    go_ret
    refine nilcase _ ?_
    repeat (first | exact bl_refl _ | refine bl_alloc ?_ _ | refine bl_drew ?_ | refine bl_drewN ?_ _ | refine bl_step (by assumption) ?_)
  | one s =>
    unfold Tm.val
    go_enter Tryd.func68, Tryd.ntmps68
    go_wp2
    go_ret
    refine nilcase _ ?_
    repeat (first | exact bl_refl _ | refine bl_alloc ?_ _ | refine bl_drew ?_ | refine bl_drewN ?_ _ | refine bl_step (by assumption) ?_)
  | give t =>
    have hb := t.isI ho
    simp only [Tm.ok] at ho
    unfold Tm.val
    go_enter Tryd.func68, Tryd.ntmps68
    go_wp2
    go_ret
    refine ⟨_, _, rfl, .inr ⟨_, rfl, Blk_new _ _ _ _ (by simp)⟩, ?_, Nat.le_refl _⟩
    repeat (first | exact bl_refl _ | refine bl_alloc ?_ _ | refine bl_drew ?_ | refine bl_drewN ?_ _ | refine bl_step (by assumption) ?_)
  | and l r =>
    simp only [Tm.ok] at ho
    have hb := l.isI ho.1
    have hc := r.isI ho.2
    unfold Tm.val
    go_enter Tryd.func68, Tryd.ntmps68
    go_wp2
    go_ret
    refine ⟨_, _, rfl, .inr ⟨_, rfl, Blk_new _ _ _ _ (by simp)⟩, ?_, Nat.le_refl _⟩
    repeat (first | exact bl_refl _ | refine bl_alloc ?_ _ | refine bl_drew ?_ | refine bl_drewN ?_ _ | refine bl_step (by assumption) ?_)
  | or s l r =>
    simp only [Tm.ok] at ho
    have hb := l.isI ho.2.1
    have hc := r.isI ho.2.2
    unfold Tm.val
    go_enter Tryd.func68, Tryd.ntmps68
    go_wp2
    go_ret
    refine ⟨_, _, rfl, .inr ⟨_, rfl, Blk_new _ _ _ _ (by simp)⟩, ?_, Nat.le_refl _⟩
    repeat (first | exact bl_refl _ | refine bl_alloc ?_ _ | refine bl_drew ?_ | refine bl_drewN ?_ _ | refine bl_step (by assumption) ?_)
  | scale s t =>
    simp only [Tm.ok] at ho
    have hb := t.isI ho.2
    unfold Tm.val
    go_enter Tryd.func68, Tryd.ntmps68
    go_wp2
    go_ret
    refine ⟨_, _, rfl, .inr ⟨_, rfl, Blk_new _ _ _ _ (by simp)⟩, ?_, Nat.le_refl _⟩
    repeat (first | exact bl_refl _ | refine bl_alloc ?_ _ | refine bl_drew ?_ | refine bl_drewN ?_ _ | refine bl_step (by assumption) ?_)
  | when_ n t =>
    simp only [Tm.ok] at ho
    have hb := t.isI ho.2
    unfold Tm.val
    go_enter Tryd.func68, Tryd.ntmps68
    go_wp2
    go_ret
    refine ⟨_, _, rfl, .inr ⟨_, rfl, Blk_new _ _ _ _ (by simp)⟩, ?_, Nat.le_refl _⟩
    repeat (first | exact bl_refl _ | refine bl_alloc ?_ _ | refine bl_drew ?_ | refine bl_drewN ?_ _ | refine bl_step (by assumption) ?_)
  | if_ s l r =>
    simp only [Tm.ok] at ho
    have hb := l.isI ho.2.1
    have hc := r.isI ho.2.2
    unfold Tm.val
    go_enter Tryd.func68, Tryd.ntmps68
    go_wp2
    go_ret
    refine ⟨_, _, rfl, .inr ⟨_, rfl, Blk_new _ _ _ _ (by simp)⟩, ?_, Nat.le_refl _⟩
    repeat (first | exact bl_refl _ | refine bl_alloc ?_ _ | refine bl_drew ?_ | refine bl_drewN ?_ _ | refine bl_step (by assumption) ?_)
theorem term_kids (o : Tm) (ho : o.ok) (w : World) :
    Calls Tryd.prog 68 #[o.val] w (RetRd w o.kids.length (Tm.vals o.kids)) := (term_kidsB o ho w).mono fun _ _ h => h.rd

def Tm.nodes : Tm → Nat
  | .odd _ => 0
  | .zero | .one _ => 1
  | .give t | .when_ _ t => t.nodes + 1
  | .and l r | .or _ l r => l.nodes + r.nodes + 1
  | .scale o t => o.nodes + t.nodes + 1
  | .if_ o l r => o.nodes + l.nodes + r.nodes + 1
def Tm.deep : Tm → Nat
  | .odd _ => 0
  | .zero | .one _ => 1
  | .give t | .when_ _ t => t.deep + 1
  | .and l r | .or _ l r => Nat.max l.deep r.deep + 1
  | .scale o t => Nat.max o.deep t.deep + 1
  | .if_ o l r => Nat.max (Nat.max o.deep l.deep) r.deep + 1
def Tm.meas : Tm → Nat
  | .odd _ | .zero | .one _ => 1
  | .give t | .when_ _ t => t.meas + 1
  | .and l r | .or _ l r => l.meas + r.meas + 1
  | .scale o t => o.meas + t.meas + 1
  | .if_ o l r => o.meas + l.meas + r.meas + 1
theorem Tm.kids_len (o : Tm) : o.kids.length ≤ 2 := by cases o <;> simp [Tm.kids]
theorem Tm.kid_meas (o : Tm) : ∀ k ∈ o.kids, k.meas < o.meas := by
  cases o <;> simp [Tm.kids, Tm.meas] <;> omega
theorem Tm.num_meas (o : Tm) (n : Ob) (h : o.num = some n) : n.meas < o.meas := by
  cases o <;> simp_all [Tm.num, Tm.meas] <;> omega
theorem Tm.num_ok (o : Tm) (ho : o.ok) (n : Ob) (h : o.num = some n) : n.ok := by
  cases o <;> simp_all [Tm.num, Tm.ok]
theorem Tm.kid_ok (o : Tm) (ho : o.ok) : ∀ k ∈ o.kids, k.ok := by
  cases o <;> simp_all [Tm.kids, Tm.ok]
theorem Tm.nodes_meas : ∀ o : Tm, o.nodes ≤ o.meas
  | .odd _ | .zero | .one _ => by simp [Tm.nodes, Tm.meas]
  | .give t | .when_ _ t => by have := t.nodes_meas; simp only [Tm.nodes, Tm.meas]; omega
  | .and l r | .or _ l r => by have := l.nodes_meas; have := r.nodes_meas; simp only [Tm.nodes, Tm.meas]; omega
  | .scale o t => by have := o.nodes_meas; have := t.nodes_meas; simp only [Tm.nodes, Tm.meas]; omega
  | .if_ o l r => by have := o.nodes_meas; have := l.nodes_meas; have := r.nodes_meas; simp only [Tm.nodes, Tm.meas]; omega
theorem max_le' {a b c : Nat} (h : a ≤ c) (k : b ≤ c) : Nat.max a b ≤ c := by simp only [Nat.max_def]; split <;> omega
theorem Tm.deep_meas : ∀ o : Tm, o.deep ≤ o.meas
  | .odd _ | .zero | .one _ => by simp [Tm.deep, Tm.meas]
  | .give t | .when_ _ t => by have := t.deep_meas; simp only [Tm.deep, Tm.meas]; omega
  | .and l r | .or _ l r => by
    have := l.deep_meas; have := r.deep_meas; simp only [Tm.deep, Tm.meas]
    have : Nat.max l.deep r.deep ≤ l.meas + r.meas := max_le' (by omega) (by omega)
    omega
  | .scale o t => by
    have := o.deep_meas; have := t.deep_meas; simp only [Tm.deep, Tm.meas]
    have : Nat.max o.deep t.deep ≤ o.meas + t.meas := max_le' (by omega) (by omega)
    omega
  | .if_ o l r => by
    have := o.deep_meas; have := l.deep_meas; have := r.deep_meas; simp only [Tm.deep, Tm.meas]
    have : Nat.max (Nat.max o.deep l.deep) r.deep ≤ o.meas + l.meas + r.meas := max_le' (max_le' (by omega) (by omega)) (by omega)
    omega
def numN (f : Ob → Nat) : Option Ob → Nat
  | some o => f o
  | none => 0
def sumF (a : Nat) (l : List Nat) : Nat := l.foldl (· + ·) a
def maxF (a : Nat) (l : List Nat) : Nat := l.foldl Nat.max a
theorem sumF_snoc (a : Nat) (l : List Nat) (x : Nat) : sumF a (l ++ [x]) = sumF a l + x := by simp [sumF]
theorem maxF_snoc (a : Nat) (l : List Nat) (x : Nat) : maxF a (l ++ [x]) = Nat.max (maxF a l) x := by simp [maxF]
theorem Tm.kids_sum (o : Tm) (h : o.kind ≠ 0) : sumF (numN Ob.nodes o.num) (o.kids.map Tm.nodes) + 1 = o.nodes ∧ maxF (numN Ob.deep o.num) (o.kids.map Tm.deep) + 1 = o.deep := by
  cases o <;> simp_all [Tm.kids, sumF, maxF, Tm.nodes, Tm.deep, Tm.kind, Tm.num, numN, Nat.max_def]
theorem sumF_mono (a : Nat) (l : List Nat) : a ≤ sumF a l := by
  unfold sumF
  induction l generalizing a with
  | nil => exact Nat.le_refl _
  | cons x l ih => exact Nat.le_trans (Nat.le_add_right _ _) (ih (a + x))
theorem sumF_take_le (a : Nat) (l : List Nat) (k : Nat) : sumF a (l.take k) ≤ sumF a l := by
  conv => rhs; rw [← List.take_append_drop k l]
  unfold sumF
  rw [List.foldl_append]
  exact sumF_mono _ _
theorem maxF_le (a : Nat) (l : List Nat) (b : Nat) (ha : a ≤ b) (h : ∀ x ∈ l, x ≤ b) : maxF a l ≤ b := by
  unfold maxF
  induction l generalizing a with
  | nil => exact ha
  | cons x l ih => exact ih _ (max_le' ha (h x (List.mem_cons_self ..))) (fun y hy => h y (List.mem_cons_of_mem _ hy))
theorem Tm.odd_size (o : Tm) (h : o.kind = 0) : o.nodes = 0 ∧ o.deep = 0 := by cases o <;> simp_all [Tm.kind, Tm.nodes, Tm.deep]
set_option maxRecDepth 100000 in
set_option maxHeartbeats 1000000 in
theorem tsize_calls (B : Nat) : ∀ (o : Tm), o.meas ≤ B → o.ok → B ≤ 4611686018427387904 → ∀ w : World,
    Calls Tryd.prog 44 #[o.val] w fun e w' => e = .returned (.tuple #[.int .i64 o.nodes, .int .i64 o.deep]) ∧ Below w.heap.size w w' := by
  induction B with
  | zero => intro o h; cases o <;> simp [Tm.meas] at h
  | succ B ih =>
    intro o hm ho hB w
    by_cases hodd : o.kind = 0
    · have hn := tkind_calls o ho w
      rw [hodd] at hn
      obtain ⟨h1, h2⟩ := o.odd_size hodd
      have H1 := Lib.hid h1; have H2 := Lib.hid h2
      clear hodd h1 h2
      go_enter Tryd.func44, Tryd.ntmps44
      go_wp2_with (go_at_call 64; refine hn.mono ?_; rintro e w1 ⟨rfl, hb1⟩)
      go_ret2
      refine ⟨by rw [H1.out, H2.out]; rfl, ?_⟩
      repeat (first | exact bl_refl _ | refine bl_alloc ?_ _ | refine bl_drew ?_ | refine bl_drewN ?_ _ | refine bl_step (by assumption) ?_)
    · cases hnum : o.num with
      | none =>
        have hn := tkind_calls o ho
        obtain ⟨h1, h2⟩ := o.kids_sum hodd
        have hnz : (o.kind == 0) = false := by simp [hodd]
        have HS := Lib.hid h1; have HD := Lib.hid h2
        have hkm := Lib.hid (o.kid_meas); have hko := Lib.hid (o.kid_ok ho)
        have hnu := tnumber_calls o ho
        skip
        rw [hnum] at HS HD hnu
        simp only [numV, numN, Option.isSome] at HS HD hnu
        have hmn := o.nodes_meas
        have hmd := o.deep_meas
        have hlen := o.kids_len
        clear hodd h1 h2 hnum
        have hb0 := bl_refl w
        go_enter Tryd.func44, Tryd.ntmps44
        generalize hkk : o.kind = kk at *
        have HKK := Lib.hid hkk
        clear hkk
        go_wp2_with fail
        refine (hn _).mono ?_
        rintro e w1 ⟨rfl, hb1⟩
        go_wp2_with fail
        refine (hnu _).mono ?_
        rintro e w2 ⟨rfl, hb2⟩
        skip
        go_wp2_with fail
        refine (term_kids o ho _).mono ?_
        intro e w4 hr; obtain ⟨A, c, rfl, hrd, hb4, hnc⟩ := hr.open_; clear hr
        go_wp2_with fail
        have hb : Below w.heap.size w w4 := by
          repeat (first | exact bl_refl _ | refine bl_alloc ?_ _ | refine bl_drew ?_ | refine bl_drewN ?_ _ | refine bl_step (by assumption) ?_)
        have HRD := Lib.hid hrd
        clear hrd hb1 hb2 hb4 hb0 hn hnu 
        go_loopw [2, 3, 27] (fun n d i wr => ∃ k : Nat, k ≤ o.kids.length ∧ i = .int .i64 k ∧ n = .int .i64 (sumF 0 ((o.kids.map Tm.nodes).take k) : Nat) ∧ d = .int .i64 (maxF 0 ((o.kids.map Tm.deep).take k) : Nat) ∧ Below w4.heap.size w4 wr) (fun _ _ i _ => o.kids.length - (intOf i).toNat)
        case atStart => exact ⟨0, Nat.zero_le _, rfl, rfl, rfl, bl_refl w4⟩
        case round =>
          obtain ⟨k, hk, rfl, rfl, rfl, hbk⟩ := hrel
          have e1 := sumF_take_le 0 (o.kids.map Tm.nodes) k
          have e2 := maxF_le 0 ((o.kids.map Tm.deep).take k) (B + 1) (by omega) (fun x hx => by
            obtain ⟨y, hy, rfl⟩ := List.mem_map.1 (List.mem_of_mem_take hx)
            have := y.deep_meas; have := hkm.out y hy; omega)
          have e3 : sumF 0 (o.kids.map Tm.nodes) ≤ B := by have := HS.out; omega
          have HB2 := Lib.hid (bl_step hbk hb)
          by_cases hlt : k < o.kids.length
          · obtain ⟨ad, rfl, hcell⟩ := HRD.out k (o.kids[k].val) (by simp [Tm.vals, hlt])
            have hc2 := cell_below hbk hcell
            have hmem := List.getElem_mem hlt
            have hkm' := hkm.out _ hmem
            have hih := ih o.kids[k] (by omega) (hko.out _ hmem) (by omega)
            have d1 := (o.kids[k]).nodes_meas
            have d2 := (o.kids[k]).deep_meas
            have e4 := sumF_take_le 0 (o.kids.map Tm.nodes) (k + 1)
            rw [take_snoc' _ k (by simpa using hlt), sumF_snoc, List.getElem_map] at e4
            have HT1 := Lib.hid (take_snoc' (o.kids.map Tm.nodes) k (by simpa using hlt))
            have HT2 := Lib.hid (take_snoc' (o.kids.map Tm.deep) k (by simpa using hlt))
            simp only [List.getElem_map] at HT1 HT2
            generalize o.kids[k] = y at *
            generalize (o.kids.map Tm.nodes).take k = N at *
            generalize (o.kids.map Tm.deep).take k = D at *
            generalize hSN : sumF 0 N = sn at *
            generalize hMD : maxF 0 D = md at *
            generalize hyn : y.nodes = yn at *
            generalize hyd : y.deep = yd at *
            have H5 := Lib.hid hSN; have H6 := Lib.hid hMD; have H7 := Lib.hid hyn; have H8 := Lib.hid hyd
            clear hSN hMD hyn hyd hcell hmem
            go_wp2_with (go_at_call 44; refine (hih _).mono ?_; rintro e w5 ⟨rfl, hb5⟩)
            go_roundw
            case rel =>
              refine ⟨k + 1, by omega, by go_num, ?_, ?_, bl_step hb5 hbk⟩
              · rw [HT1.out, sumF_snoc, H5.out]; go_num
              · rw [HT2.out, maxF_snoc, H6.out]
                congr 1
                simp only [Nat.max_def]; split <;> split <;> omega
            case measure => simp [intOf]; omega
          · obtain rfl : k = o.kids.length := by omega
            clear hlt
            have t1 := List.take_of_length_le (l := o.kids.map Tm.nodes) (i := o.kids.length) (by simp)
            have t2 := List.take_of_length_le (l := o.kids.map Tm.deep) (i := o.kids.length) (by simp)
            rw [t2] at e2
            rw [t1, t2]
            clear t1 t2 e1
            have hS := HS.out
            have hD := HD.out
            generalize sumF 0 (o.kids.map Tm.nodes) = sn at *
            generalize maxF 0 (o.kids.map Tm.deep) = md at *
            have HS2 := Lib.hid hS
            have HD2 := Lib.hid hD
            clear hS hD HS HD
            go_wp2
            go_ret2
            exact ⟨by rw [← HS2.out, ← HD2.out]; rfl, HB2.out⟩
      | some q =>
        have hn := tkind_calls o ho
        obtain ⟨h1, h2⟩ := o.kids_sum hodd
        have hnz : (o.kind == 0) = false := by simp [hodd]
        have HS := Lib.hid h1; have HD := Lib.hid h2
        have hkm := Lib.hid (o.kid_meas); have hko := Lib.hid (o.kid_ok ho)
        have hnu := tnumber_calls o ho
        have hq := o.num_meas q hnum; have hs := size_calls _ q (Nat.le_refl _) (o.num_ok ho q hnum) (by omega); have d3 := q.nodes_meas; have d4 := q.deep_meas
        rw [hnum] at HS HD hnu
        simp only [numV, numN, Option.isSome] at HS HD hnu
        have hmn := o.nodes_meas
        have hmd := o.deep_meas
        have hlen := o.kids_len
        clear hodd h1 h2 hnum
        have hb0 := bl_refl w
        go_enter Tryd.func44, Tryd.ntmps44
        generalize hkk : o.kind = kk at *
        have HKK := Lib.hid hkk
        clear hkk
        go_wp2_with fail
        refine (hn _).mono ?_
        rintro e w1 ⟨rfl, hb1⟩
        go_wp2_with fail
        refine (hnu _).mono ?_
        rintro e w2 ⟨rfl, hb2⟩
        go_wp2_with fail; refine (hs _).mono ?_; rintro e w3 ⟨rfl, hb3⟩
        go_wp2_with fail
        refine (term_kids o ho _).mono ?_
        intro e w4 hr; obtain ⟨A, c, rfl, hrd, hb4, hnc⟩ := hr.open_; clear hr
        go_wp2_with fail
        have hb : Below w.heap.size w w4 := by
          repeat (first | exact bl_refl _ | refine bl_alloc ?_ _ | refine bl_drew ?_ | refine bl_drewN ?_ _ | refine bl_step (by assumption) ?_)
        have HRD := Lib.hid hrd
        clear hrd hb1 hb2 hb4 hb0 hn hnu hb3 hs
        go_loopw [2, 3, 27] (fun n d i wr => ∃ k : Nat, k ≤ o.kids.length ∧ i = .int .i64 k ∧ n = .int .i64 (sumF q.nodes ((o.kids.map Tm.nodes).take k) : Nat) ∧ d = .int .i64 (maxF q.deep ((o.kids.map Tm.deep).take k) : Nat) ∧ Below w4.heap.size w4 wr) (fun _ _ i _ => o.kids.length - (intOf i).toNat)
        case atStart => exact ⟨0, Nat.zero_le _, rfl, rfl, rfl, bl_refl w4⟩
        case round =>
          obtain ⟨k, hk, rfl, rfl, rfl, hbk⟩ := hrel
          have e1 := sumF_take_le q.nodes (o.kids.map Tm.nodes) k
          have e2 := maxF_le q.deep ((o.kids.map Tm.deep).take k) (B + 1) (by omega) (fun x hx => by
            obtain ⟨y, hy, rfl⟩ := List.mem_map.1 (List.mem_of_mem_take hx)
            have := y.deep_meas; have := hkm.out y hy; omega)
          have e3 : sumF q.nodes (o.kids.map Tm.nodes) ≤ B := by have := HS.out; omega
          have HB2 := Lib.hid (bl_step hbk hb)
          by_cases hlt : k < o.kids.length
          · obtain ⟨ad, rfl, hcell⟩ := HRD.out k (o.kids[k].val) (by simp [Tm.vals, hlt])
            have hc2 := cell_below hbk hcell
            have hmem := List.getElem_mem hlt
            have hkm' := hkm.out _ hmem
            have hih := ih o.kids[k] (by omega) (hko.out _ hmem) (by omega)
            have d1 := (o.kids[k]).nodes_meas
            have d2 := (o.kids[k]).deep_meas
            have e4 := sumF_take_le q.nodes (o.kids.map Tm.nodes) (k + 1)
            rw [take_snoc' _ k (by simpa using hlt), sumF_snoc, List.getElem_map] at e4
            have HT1 := Lib.hid (take_snoc' (o.kids.map Tm.nodes) k (by simpa using hlt))
            have HT2 := Lib.hid (take_snoc' (o.kids.map Tm.deep) k (by simpa using hlt))
            simp only [List.getElem_map] at HT1 HT2
            generalize o.kids[k] = y at *
            generalize (o.kids.map Tm.nodes).take k = N at *
            generalize (o.kids.map Tm.deep).take k = D at *
            generalize hSN : sumF q.nodes N = sn at *
            generalize hMD : maxF q.deep D = md at *
            generalize hyn : y.nodes = yn at *
            generalize hyd : y.deep = yd at *
            have H5 := Lib.hid hSN; have H6 := Lib.hid hMD; have H7 := Lib.hid hyn; have H8 := Lib.hid hyd
            clear hSN hMD hyn hyd hcell hmem
            go_wp2_with (go_at_call 44; refine (hih _).mono ?_; rintro e w5 ⟨rfl, hb5⟩)
            go_roundw
            case rel =>
              refine ⟨k + 1, by omega, by go_num, ?_, ?_, bl_step hb5 hbk⟩
              · rw [HT1.out, sumF_snoc, H5.out]; go_num
              · rw [HT2.out, maxF_snoc, H6.out]
                congr 1
                simp only [Nat.max_def]; split <;> split <;> omega
            case measure => simp [intOf]; omega
          · obtain rfl : k = o.kids.length := by omega
            clear hlt
            have t1 := List.take_of_length_le (l := o.kids.map Tm.nodes) (i := o.kids.length) (by simp)
            have t2 := List.take_of_length_le (l := o.kids.map Tm.deep) (i := o.kids.length) (by simp)
            rw [t2] at e2
            rw [t1, t2]
            clear t1 t2 e1
            have hS := HS.out
            have hD := HD.out
            generalize sumF q.nodes (o.kids.map Tm.nodes) = sn at *
            generalize maxF q.deep (o.kids.map Tm.deep) = md at *
            have HS2 := Lib.hid hS
            have HD2 := Lib.hid hD
            clear hS hD HS HD
            go_wp2
            go_ret2
            exact ⟨by rw [← HS2.out, ← HD2.out]; rfl, HB2.out⟩
end Go.Proofs.YtapbkomicihkkaaDoor
