/- Whether a contract may be; whether two are made alike. -/
import Derived.Test.YtnekcijganhknaaGreatDoorObsG
import Derived.Test.YtnekcijganhknaaGreatDoorOwn
namespace Go.Proofs.YtnekcijganhknaaGreatDoor
open Go.RowKit
set_option linter.unusedVariables false
set_option linter.unusedSimpArgs false

def Tm.kind : Tm → Int
  | .zero => 1
  | .one _ => 2
  | .give _ => 3
  | .and _ _ => 4
  | .or _ _ _ => 5
  | .scale _ _ => 6
  | .when_ _ _ => 7
  | .if_ _ _ _ => 8
  | .odd _ => 0
def Tm.ownS : Tm → ByteArray
  | .one s => s
  | .or s _ _ => s
  | _ => ⟨#[]⟩
def Tm.ownN : Tm → Int
  | .when_ n _ => n
  | _ => 0
def Tm.num : Tm → Option Ob
  | .scale o _ => some o
  | .if_ o _ _ => some o
  | _ => none
def numV : Option Ob → Value
  | some o => o.val
  | none => .nilIface
def Tm.kids : Tm → List Tm
  | .give t => [t]
  | .and l r => [l, r]
  | .or _ l r => [l, r]
  | .scale _ t => [t]
  | .when_ _ t => [t]
  | .if_ _ l r => [l, r]
  | _ => []
def Tm.vals (l : List Tm) : List Value := l.map Tm.val
set_option maxRecDepth 100000 in
set_option maxHeartbeats 1000000 in
theorem tkind_calls (o : Tm) (ho : o.ok) (w : World) :
    Calls Tryz.prog 90 #[o.val] w fun e w' => e = .returned (.int .i64 o.kind) ∧ Below w.heap.size w w' := by
  cases o with
  | odd v =>
    rcases ho with h | ⟨t, x, h, h1, h2, h3, h4, h5, h6, h7, h8⟩
    all_goals
      subst h
      unfold Tm.val
      go_enter Tryz.func90, Tryz.ntmps90
      go_wp2
      go_ret
      refine ⟨rfl, ?_⟩
      repeat (first | exact bl_refl _ | refine bl_alloc ?_ _ | refine bl_drew ?_ | refine bl_drewN ?_ _ | refine bl_step (by assumption) ?_)
  | _ =>
    try simp only [Tm.ok] at ho
    unfold Tm.val
    go_enter Tryz.func90, Tryz.ntmps90
    go_wp2
    try (go_quiet (fail); go_wp2)
    go_ret
    refine ⟨rfl, ?_⟩
    repeat (first | exact bl_refl _ | refine bl_alloc ?_ _ | refine bl_drew ?_ | refine bl_drewN ?_ _ | refine bl_step (by assumption) ?_)
set_option maxRecDepth 100000 in
set_option maxHeartbeats 1000000 in
theorem town_calls (o : Tm) (ho : o.ok) (w : World) :
    Calls Tryz.prog 91 #[o.val] w fun e w' => e = .returned (.tuple #[.string o.ownS, .int .i64 o.ownN]) ∧ Below w.heap.size w w' := by
  cases o with
  | odd v =>
    rcases ho with h | ⟨t, x, h, h1, h2, h3, h4, h5, h6, h7, h8⟩
    all_goals
      subst h
      unfold Tm.val
      go_enter Tryz.func91, Tryz.ntmps91
      go_wp2
      go_ret2
      refine ⟨rfl, ?_⟩
      repeat (first | exact bl_refl _ | refine bl_alloc ?_ _ | refine bl_drew ?_ | refine bl_drewN ?_ _ | refine bl_step (by assumption) ?_)
  | _ =>
    try simp only [Tm.ok] at ho
    unfold Tm.val
    go_enter Tryz.func91, Tryz.ntmps91
    go_wp2
    try (go_quiet (fail); go_wp2)
    go_ret2
    refine ⟨rfl, ?_⟩
    repeat (first | exact bl_refl _ | refine bl_alloc ?_ _ | refine bl_drew ?_ | refine bl_drewN ?_ _ | refine bl_step (by assumption) ?_)
set_option maxRecDepth 100000 in
set_option maxHeartbeats 1000000 in
theorem tnumber_calls (o : Tm) (ho : o.ok) (w : World) :
    Calls Tryz.prog 92 #[o.val] w fun e w' => e = .returned (.tuple #[numV o.num, .bool o.num.isSome]) ∧ Below w.heap.size w w' := by
  cases o with
  | odd v =>
    rcases ho with h | ⟨t, x, h, h1, h2, h3, h4, h5, h6, h7, h8⟩
    all_goals
      subst h
      unfold Tm.val
      go_enter Tryz.func92, Tryz.ntmps92
      go_wp2
      go_ret2
      refine ⟨rfl, ?_⟩
      repeat (first | exact bl_refl _ | refine bl_alloc ?_ _ | refine bl_drew ?_ | refine bl_drewN ?_ _ | refine bl_step (by assumption) ?_)
  | _ =>
    try simp only [Tm.ok] at ho
    unfold Tm.val
    go_enter Tryz.func92, Tryz.ntmps92
    go_wp2
    try (go_quiet (fail); go_wp2)
    go_ret2
    refine ⟨rfl, ?_⟩
    repeat (first | exact bl_refl _ | refine bl_alloc ?_ _ | refine bl_drew ?_ | refine bl_drewN ?_ _ | refine bl_step (by assumption) ?_)
end Go.Proofs.YtnekcijganhknaaGreatDoor
namespace Go.Proofs.YtnekcijganhknaaGreatDoor
open Go.RowKit
set_option linter.unusedVariables false
set_option linter.unusedSimpArgs false

theorem bs_term (n : Nat) (parts : Array (Nat × Value)) : Instr.buildSlice 192 n parts = bsN 192 n parts := rfl
theorem run_bs1_term (x : Value) (hx : IsI x) (W : World) : (bsN 192 1 #[(0, x)]).run Tryz.prog W = .ok (.slice (some ⟨W.heap.size, 0, none⟩) 1 1) (W.alloc (.cells #[x] 30)) := by
  rcases hx with rfl | ⟨_, _, rfl⟩ <;> kernel_rfl
theorem run_bs2_term (x y : Value) (hx : IsI x) (hy : IsI y) (W : World) : (bsN 192 2 #[(0, x), (1, y)]).run Tryz.prog W = .ok (.slice (some ⟨W.heap.size, 0, none⟩) 2 2) (W.alloc (.cells #[x, y] 30)) := by
  rcases hx with rfl | ⟨_, _, rfl⟩ <;> rcases hy with rfl | ⟨_, _, rfl⟩ <;> kernel_rfl
attribute [go_sem ↓] bs_term
attribute [go_sem] run_bs1_term run_bs2_term
theorem Blk_new (W : World) (cs : Array Value) (t : TypeId) (g : Nat) (hg : g = W.heap.size) : Blk (W.alloc (.cells cs t)) g cs t := by
  subst hg; exact Blk.new W cs t
/-- A slice that reads so, being nothing, or the whole of a block. -/
def RowAt (t : TypeId) (w : World) (A : Option Addr) (xs : List Value) : Prop := xs = [] ∨ ∃ g, A = some ⟨g, 0, none⟩ ∧ Blk w g xs.toArray t
theorem RowAt.rd {t : TypeId} {w : World} {A : Option Addr} {xs : List Value} (h : RowAt t w A xs) : Rd w A xs := by
  rcases h with rfl | ⟨g, rfl, hb⟩
  · exact Rd.nil _ _
  · exact hb.rd
theorem RowAt.below {t : TypeId} {w w1 : World} {A : Option Addr} {xs : List Value} (h : RowAt t w A xs) (hb : Below w.heap.size w w1) : RowAt t w1 A xs := by
  rcases h with rfl | ⟨g, rfl, h⟩
  · exact .inl rfl
  · exact .inr ⟨g, rfl, h.below hb⟩
theorem RowAt.grown {t : TypeId} {w w1 : World} {A : Option Addr} {xs : List Value} {r : Option Nat} (h : RowAt t w A xs) (hg : w.grownBy w1 r) (hr : ∀ g cs, Blk w g cs t → r ≠ some g) : RowAt t w1 A xs := by
  rcases h with rfl | ⟨g, rfl, h⟩
  · exact .inl rfl
  · exact .inr ⟨g, rfl, h.grown hg (hr g _ h)⟩
def RetRow (t : TypeId) (w : World) (n : Nat) (xs : List Value) (en : Ending) (w' : World) : Prop := ∃ A c, en = .returned (.slice A n c) ∧ RowAt t w' A xs ∧ Below w.heap.size w w' ∧ n ≤ c
theorem RetRow.open_ {t : TypeId} {w : World} {n : Nat} {xs : List Value} {en : Ending} {w' : World} (h : RetRow t w n xs en w') : ∃ A c, en = .returned (.slice A n c) ∧ RowAt t w' A xs ∧ Below w.heap.size w w' ∧ n ≤ c := h
theorem RetRow.rd {t : TypeId} {w : World} {n : Nat} {xs : List Value} {en : Ending} {w' : World} (h : RetRow t w n xs en w') : RetRd w n xs en w' := by
  obtain ⟨A, c, e, hr, hb, hc⟩ := h
  exact ⟨A, c, e, hr.rd, hb, hc⟩
set_option maxRecDepth 100000 in
set_option maxHeartbeats 1000000 in
theorem term_kidsB (o : Tm) (ho : o.ok) (w : World) :
    Calls Tryz.prog 95 #[o.val] w (RetRow 30 w o.kids.length (Tm.vals o.kids)) := by
  have nilcase : ∀ w', Below w.heap.size w w' → RetRow 30 w 0 [] (.returned (.slice none 0 0)) w' := fun w' hb => ⟨none, 0, rfl, .inl rfl, hb, Nat.le_refl _⟩
  cases o with
  | odd v =>
    rcases ho with h | ⟨t, x, h, h1, h2, h3, h4, h5, h6, h7, h8⟩
    · subst h
      unfold Tm.val
      go_enter Tryz.func95, Tryz.ntmps95
      go_wp2
      go_ret
      refine nilcase _ ?_
      repeat (first | exact bl_refl _ | refine bl_alloc ?_ _ | refine bl_drew ?_ | refine bl_drewN ?_ _ | refine bl_step (by assumption) ?_)
    · subst h
      unfold Tm.val
      go_enter Tryz.func95, Tryz.ntmps95
      go_wp2
      go_ret
      refine nilcase _ ?_
      repeat (first | exact bl_refl _ | refine bl_alloc ?_ _ | refine bl_drew ?_ | refine bl_drewN ?_ _ | refine bl_step (by assumption) ?_)
  | zero =>
    unfold Tm.val
    go_enter Tryz.func95, Tryz.ntmps95
    go_wp2
    go_ret
    refine nilcase _ ?_
    repeat (first | exact bl_refl _ | refine bl_alloc ?_ _ | refine bl_drew ?_ | refine bl_drewN ?_ _ | refine bl_step (by assumption) ?_)
  | one s =>
    unfold Tm.val
    go_enter Tryz.func95, Tryz.ntmps95
    go_wp2
    go_ret
    refine nilcase _ ?_
    repeat (first | exact bl_refl _ | refine bl_alloc ?_ _ | refine bl_drew ?_ | refine bl_drewN ?_ _ | refine bl_step (by assumption) ?_)
  | give t =>
    have hb := t.isI ho
    simp only [Tm.ok] at ho
    unfold Tm.val
    go_enter Tryz.func95, Tryz.ntmps95
    go_wp2
    go_ret
    refine ⟨_, _, rfl, .inr ⟨_, rfl, Blk_new _ _ _ _ (by simp)⟩, ?_, Nat.le_refl _⟩
    repeat (first | exact bl_refl _ | refine bl_alloc ?_ _ | refine bl_drew ?_ | refine bl_drewN ?_ _ | refine bl_step (by assumption) ?_)
  | and l r =>
    simp only [Tm.ok] at ho
    have hb := l.isI ho.1
    have hc := r.isI ho.2
    unfold Tm.val
    go_enter Tryz.func95, Tryz.ntmps95
    go_wp2
    go_ret
    refine ⟨_, _, rfl, .inr ⟨_, rfl, Blk_new _ _ _ _ (by simp)⟩, ?_, Nat.le_refl _⟩
    repeat (first | exact bl_refl _ | refine bl_alloc ?_ _ | refine bl_drew ?_ | refine bl_drewN ?_ _ | refine bl_step (by assumption) ?_)
  | or s l r =>
    simp only [Tm.ok] at ho
    have hb := l.isI ho.2.1
    have hc := r.isI ho.2.2
    unfold Tm.val
    go_enter Tryz.func95, Tryz.ntmps95
    go_wp2
    go_ret
    refine ⟨_, _, rfl, .inr ⟨_, rfl, Blk_new _ _ _ _ (by simp)⟩, ?_, Nat.le_refl _⟩
    repeat (first | exact bl_refl _ | refine bl_alloc ?_ _ | refine bl_drew ?_ | refine bl_drewN ?_ _ | refine bl_step (by assumption) ?_)
  | scale s t =>
    simp only [Tm.ok] at ho
    have hb := t.isI ho.2
    unfold Tm.val
    go_enter Tryz.func95, Tryz.ntmps95
    go_wp2
    go_ret
    refine ⟨_, _, rfl, .inr ⟨_, rfl, Blk_new _ _ _ _ (by simp)⟩, ?_, Nat.le_refl _⟩
    repeat (first | exact bl_refl _ | refine bl_alloc ?_ _ | refine bl_drew ?_ | refine bl_drewN ?_ _ | refine bl_step (by assumption) ?_)
  | when_ n t =>
    simp only [Tm.ok] at ho
    have hb := t.isI ho.2
    unfold Tm.val
    go_enter Tryz.func95, Tryz.ntmps95
    go_wp2
    go_ret
    refine ⟨_, _, rfl, .inr ⟨_, rfl, Blk_new _ _ _ _ (by simp)⟩, ?_, Nat.le_refl _⟩
    repeat (first | exact bl_refl _ | refine bl_alloc ?_ _ | refine bl_drew ?_ | refine bl_drewN ?_ _ | refine bl_step (by assumption) ?_)
  | if_ s l r =>
    simp only [Tm.ok] at ho
    have hb := l.isI ho.2.1
    have hc := r.isI ho.2.2
    unfold Tm.val
    go_enter Tryz.func95, Tryz.ntmps95
    go_wp2
    go_ret
    refine ⟨_, _, rfl, .inr ⟨_, rfl, Blk_new _ _ _ _ (by simp)⟩, ?_, Nat.le_refl _⟩
    repeat (first | exact bl_refl _ | refine bl_alloc ?_ _ | refine bl_drew ?_ | refine bl_drewN ?_ _ | refine bl_step (by assumption) ?_)
theorem term_kids (o : Tm) (ho : o.ok) (w : World) :
    Calls Tryz.prog 95 #[o.val] w (RetRd w o.kids.length (Tm.vals o.kids)) := (term_kidsB o ho w).mono fun _ _ h => h.rd

def Tm.nodes : Tm → Nat
  | .odd _ => 0
  | .zero | .one _ => 1
  | .give t | .when_ _ t => t.nodes + 1
  | .and l r | .or _ l r => l.nodes + r.nodes + 1
  | .scale o t => o.nodes + t.nodes + 1
  | .if_ o l r => o.nodes + l.nodes + r.nodes + 1
def Tm.deep : Tm → Nat
  | .odd _ => 0
  | .zero | .one _ => 1
  | .give t | .when_ _ t => t.deep + 1
  | .and l r | .or _ l r => Nat.max l.deep r.deep + 1
  | .scale o t => Nat.max o.deep t.deep + 1
  | .if_ o l r => Nat.max (Nat.max o.deep l.deep) r.deep + 1
def Tm.meas : Tm → Nat
  | .odd _ | .zero | .one _ => 1
  | .give t | .when_ _ t => t.meas + 1
  | .and l r | .or _ l r => l.meas + r.meas + 1
  | .scale o t => o.meas + t.meas + 1
  | .if_ o l r => o.meas + l.meas + r.meas + 1
theorem Tm.kids_len (o : Tm) : o.kids.length ≤ 2 := by cases o <;> simp [Tm.kids]
theorem Tm.kid_meas (o : Tm) : ∀ k ∈ o.kids, k.meas < o.meas := by
  cases o <;> simp [Tm.kids, Tm.meas] <;> omega
theorem Tm.num_meas (o : Tm) (n : Ob) (h : o.num = some n) : n.meas < o.meas := by
  cases o <;> simp_all [Tm.num, Tm.meas] <;> omega
theorem Tm.num_ok (o : Tm) (ho : o.ok) (n : Ob) (h : o.num = some n) : n.ok := by
  cases o <;> simp_all [Tm.num, Tm.ok]
theorem Tm.kid_ok (o : Tm) (ho : o.ok) : ∀ k ∈ o.kids, k.ok := by
  cases o <;> simp_all [Tm.kids, Tm.ok]
theorem Tm.nodes_meas : ∀ o : Tm, o.nodes ≤ o.meas
  | .odd _ | .zero | .one _ => by simp [Tm.nodes, Tm.meas]
  | .give t | .when_ _ t => by have := t.nodes_meas; simp only [Tm.nodes, Tm.meas]; omega
  | .and l r | .or _ l r => by have := l.nodes_meas; have := r.nodes_meas; simp only [Tm.nodes, Tm.meas]; omega
  | .scale o t => by have := o.nodes_meas; have := t.nodes_meas; simp only [Tm.nodes, Tm.meas]; omega
  | .if_ o l r => by have := o.nodes_meas; have := l.nodes_meas; have := r.nodes_meas; simp only [Tm.nodes, Tm.meas]; omega
theorem max_le' {a b c : Nat} (h : a ≤ c) (k : b ≤ c) : Nat.max a b ≤ c := by simp only [Nat.max_def]; split <;> omega
theorem Tm.deep_meas : ∀ o : Tm, o.deep ≤ o.meas
  | .odd _ | .zero | .one _ => by simp [Tm.deep, Tm.meas]
  | .give t | .when_ _ t => by have := t.deep_meas; simp only [Tm.deep, Tm.meas]; omega
  | .and l r | .or _ l r => by
    have := l.deep_meas; have := r.deep_meas; simp only [Tm.deep, Tm.meas]
    have : Nat.max l.deep r.deep ≤ l.meas + r.meas := max_le' (by omega) (by omega)
    omega
  | .scale o t => by
    have := o.deep_meas; have := t.deep_meas; simp only [Tm.deep, Tm.meas]
    have : Nat.max o.deep t.deep ≤ o.meas + t.meas := max_le' (by omega) (by omega)
    omega
  | .if_ o l r => by
    have := o.deep_meas; have := l.deep_meas; have := r.deep_meas; simp only [Tm.deep, Tm.meas]
    have : Nat.max (Nat.max o.deep l.deep) r.deep ≤ o.meas + l.meas + r.meas := max_le' (max_le' (by omega) (by omega)) (by omega)
    omega
def numN (f : Ob → Nat) : Option Ob → Nat
  | some o => f o
  | none => 0
def sumF (a : Nat) (l : List Nat) : Nat := l.foldl (· + ·) a
def maxF (a : Nat) (l : List Nat) : Nat := l.foldl Nat.max a
theorem sumF_snoc (a : Nat) (l : List Nat) (x : Nat) : sumF a (l ++ [x]) = sumF a l + x := by simp [sumF]
theorem maxF_snoc (a : Nat) (l : List Nat) (x : Nat) : maxF a (l ++ [x]) = Nat.max (maxF a l) x := by simp [maxF]
theorem Tm.kids_sum (o : Tm) (h : o.kind ≠ 0) : sumF (numN Ob.nodes o.num) (o.kids.map Tm.nodes) + 1 = o.nodes ∧ maxF (numN Ob.deep o.num) (o.kids.map Tm.deep) + 1 = o.deep := by
  cases o <;> simp_all [Tm.kids, sumF, maxF, Tm.nodes, Tm.deep, Tm.kind, Tm.num, numN, Nat.max_def]
theorem sumF_mono (a : Nat) (l : List Nat) : a ≤ sumF a l := by
  unfold sumF
  induction l generalizing a with
  | nil => exact Nat.le_refl _
  | cons x l ih => exact Nat.le_trans (Nat.le_add_right _ _) (ih (a + x))
theorem sumF_take_le (a : Nat) (l : List Nat) (k : Nat) : sumF a (l.take k) ≤ sumF a l := by
  conv => rhs; rw [← List.take_append_drop k l]
  unfold sumF
  rw [List.foldl_append]
  exact sumF_mono _ _
theorem maxF_le (a : Nat) (l : List Nat) (b : Nat) (ha : a ≤ b) (h : ∀ x ∈ l, x ≤ b) : maxF a l ≤ b := by
  unfold maxF
  induction l generalizing a with
  | nil => exact ha
  | cons x l ih => exact ih _ (max_le' ha (h x (List.mem_cons_self ..))) (fun y hy => h y (List.mem_cons_of_mem _ hy))
theorem Tm.odd_size (o : Tm) (h : o.kind = 0) : o.nodes = 0 ∧ o.deep = 0 := by cases o <;> simp_all [Tm.kind, Tm.nodes, Tm.deep]
set_option maxRecDepth 100000 in
set_option maxHeartbeats 1000000 in
theorem tsize_calls (B : Nat) : ∀ (o : Tm), o.meas ≤ B → o.ok → B ≤ 4611686018427387904 → ∀ w : World,
    Calls Tryz.prog 132 #[o.val] w fun e w' => e = .returned (.tuple #[.int .i64 o.nodes, .int .i64 o.deep]) ∧ Below w.heap.size w w' := by
  induction B with
  | zero => intro o h; cases o <;> simp [Tm.meas] at h
  | succ B ih =>
    intro o hm ho hB w
    by_cases hodd : o.kind = 0
    · have hn := tkind_calls o ho w
      rw [hodd] at hn
      obtain ⟨h1, h2⟩ := o.odd_size hodd
      have H1 := Lib.hid h1; have H2 := Lib.hid h2
      clear hodd h1 h2
      go_enter Tryz.func132, Tryz.ntmps132
      go_wp2_with (go_at_call 90; refine hn.mono ?_; rintro e w1 ⟨rfl, hb1⟩)
      go_ret2
      refine ⟨by rw [H1.out, H2.out]; rfl, ?_⟩
      repeat (first | exact bl_refl _ | refine bl_alloc ?_ _ | refine bl_drew ?_ | refine bl_drewN ?_ _ | refine bl_step (by assumption) ?_)
    · cases hnum : o.num with
      | none =>
        have hn := tkind_calls o ho
        obtain ⟨h1, h2⟩ := o.kids_sum hodd
        have hnz : (o.kind == 0) = false := by simp [hodd]
        have HS := Lib.hid h1; have HD := Lib.hid h2
        have hkm := Lib.hid (o.kid_meas); have hko := Lib.hid (o.kid_ok ho)
        have hnu := tnumber_calls o ho
        skip
        rw [hnum] at HS HD hnu
        simp only [numV, numN, Option.isSome] at HS HD hnu
        have hmn := o.nodes_meas
        have hmd := o.deep_meas
        have hlen := o.kids_len
        clear hodd h1 h2 hnum
        have hb0 := bl_refl w
        go_enter Tryz.func132, Tryz.ntmps132
        generalize hkk : o.kind = kk at *
        have HKK := Lib.hid hkk
        clear hkk
        go_wp2_with fail
        refine (hn _).mono ?_
        rintro e w1 ⟨rfl, hb1⟩
        go_wp2_with fail
        refine (hnu _).mono ?_
        rintro e w2 ⟨rfl, hb2⟩
        skip
        go_wp2_with fail
        refine (term_kids o ho _).mono ?_
        intro e w4 hr; obtain ⟨A, c, rfl, hrd, hb4, hnc⟩ := hr.open_; clear hr
        go_wp2_with fail
        have hb : Below w.heap.size w w4 := by
          repeat (first | exact bl_refl _ | refine bl_alloc ?_ _ | refine bl_drew ?_ | refine bl_drewN ?_ _ | refine bl_step (by assumption) ?_)
        have HRD := Lib.hid hrd
        clear hrd hb1 hb2 hb4 hb0 hn hnu 
        go_loopw [2, 3, 27] (fun n d i wr => ∃ k : Nat, k ≤ o.kids.length ∧ i = .int .i64 k ∧ n = .int .i64 (sumF 0 ((o.kids.map Tm.nodes).take k) : Nat) ∧ d = .int .i64 (maxF 0 ((o.kids.map Tm.deep).take k) : Nat) ∧ Below w4.heap.size w4 wr) (fun _ _ i _ => o.kids.length - (intOf i).toNat)
        case atStart => exact ⟨0, Nat.zero_le _, rfl, rfl, rfl, bl_refl w4⟩
        case round =>
          obtain ⟨k, hk, rfl, rfl, rfl, hbk⟩ := hrel
          have e1 := sumF_take_le 0 (o.kids.map Tm.nodes) k
          have e2 := maxF_le 0 ((o.kids.map Tm.deep).take k) (B + 1) (by omega) (fun x hx => by
            obtain ⟨y, hy, rfl⟩ := List.mem_map.1 (List.mem_of_mem_take hx)
            have := y.deep_meas; have := hkm.out y hy; omega)
          have e3 : sumF 0 (o.kids.map Tm.nodes) ≤ B := by have := HS.out; omega
          have HB2 := Lib.hid (bl_step hbk hb)
          by_cases hlt : k < o.kids.length
          · obtain ⟨ad, rfl, hcell⟩ := HRD.out k (o.kids[k].val) (by simp [Tm.vals, hlt])
            have hc2 := cell_below hbk hcell
            have hmem := List.getElem_mem hlt
            have hkm' := hkm.out _ hmem
            have hih := ih o.kids[k] (by omega) (hko.out _ hmem) (by omega)
            have d1 := (o.kids[k]).nodes_meas
            have d2 := (o.kids[k]).deep_meas
            have e4 := sumF_take_le 0 (o.kids.map Tm.nodes) (k + 1)
            rw [take_snoc' _ k (by simpa using hlt), sumF_snoc, List.getElem_map] at e4
            have HT1 := Lib.hid (take_snoc' (o.kids.map Tm.nodes) k (by simpa using hlt))
            have HT2 := Lib.hid (take_snoc' (o.kids.map Tm.deep) k (by simpa using hlt))
            simp only [List.getElem_map] at HT1 HT2
            generalize o.kids[k] = y at *
            generalize (o.kids.map Tm.nodes).take k = N at *
            generalize (o.kids.map Tm.deep).take k = D at *
            generalize hSN : sumF 0 N = sn at *
            generalize hMD : maxF 0 D = md at *
            generalize hyn : y.nodes = yn at *
            generalize hyd : y.deep = yd at *
            have H5 := Lib.hid hSN; have H6 := Lib.hid hMD; have H7 := Lib.hid hyn; have H8 := Lib.hid hyd
            clear hSN hMD hyn hyd hcell hmem
            go_wp2_with (go_at_call 132; refine (hih _).mono ?_; rintro e w5 ⟨rfl, hb5⟩)
            go_roundw
            case rel =>
              refine ⟨k + 1, by omega, by go_num, ?_, ?_, bl_step hb5 hbk⟩
              · rw [HT1.out, sumF_snoc, H5.out]; go_num
              · rw [HT2.out, maxF_snoc, H6.out]
                congr 1
                simp only [Nat.max_def]; split <;> split <;> omega
            case measure => simp [intOf]; omega
          · obtain rfl : k = o.kids.length := by omega
            clear hlt
            have t1 := List.take_of_length_le (l := o.kids.map Tm.nodes) (i := o.kids.length) (by simp)
            have t2 := List.take_of_length_le (l := o.kids.map Tm.deep) (i := o.kids.length) (by simp)
            rw [t2] at e2
            rw [t1, t2]
            clear t1 t2 e1
            have hS := HS.out
            have hD := HD.out
            generalize sumF 0 (o.kids.map Tm.nodes) = sn at *
            generalize maxF 0 (o.kids.map Tm.deep) = md at *
            have HS2 := Lib.hid hS
            have HD2 := Lib.hid hD
            clear hS hD HS HD
            go_wp2
            go_ret2
            exact ⟨by rw [← HS2.out, ← HD2.out]; rfl, HB2.out⟩
      | some q =>
        have hn := tkind_calls o ho
        obtain ⟨h1, h2⟩ := o.kids_sum hodd
        have hnz : (o.kind == 0) = false := by simp [hodd]
        have HS := Lib.hid h1; have HD := Lib.hid h2
        have hkm := Lib.hid (o.kid_meas); have hko := Lib.hid (o.kid_ok ho)
        have hnu := tnumber_calls o ho
        have hq := o.num_meas q hnum; have hs := size_calls _ q (Nat.le_refl _) (o.num_ok ho q hnum) (by omega); have d3 := q.nodes_meas; have d4 := q.deep_meas
        rw [hnum] at HS HD hnu
        simp only [numV, numN, Option.isSome] at HS HD hnu
        have hmn := o.nodes_meas
        have hmd := o.deep_meas
        have hlen := o.kids_len
        clear hodd h1 h2 hnum
        have hb0 := bl_refl w
        go_enter Tryz.func132, Tryz.ntmps132
        generalize hkk : o.kind = kk at *
        have HKK := Lib.hid hkk
        clear hkk
        go_wp2_with fail
        refine (hn _).mono ?_
        rintro e w1 ⟨rfl, hb1⟩
        go_wp2_with fail
        refine (hnu _).mono ?_
        rintro e w2 ⟨rfl, hb2⟩
        go_wp2_with fail; refine (hs _).mono ?_; rintro e w3 ⟨rfl, hb3⟩
        go_wp2_with fail
        refine (term_kids o ho _).mono ?_
        intro e w4 hr; obtain ⟨A, c, rfl, hrd, hb4, hnc⟩ := hr.open_; clear hr
        go_wp2_with fail
        have hb : Below w.heap.size w w4 := by
          repeat (first | exact bl_refl _ | refine bl_alloc ?_ _ | refine bl_drew ?_ | refine bl_drewN ?_ _ | refine bl_step (by assumption) ?_)
        have HRD := Lib.hid hrd
        clear hrd hb1 hb2 hb4 hb0 hn hnu hb3 hs
        go_loopw [2, 3, 27] (fun n d i wr => ∃ k : Nat, k ≤ o.kids.length ∧ i = .int .i64 k ∧ n = .int .i64 (sumF q.nodes ((o.kids.map Tm.nodes).take k) : Nat) ∧ d = .int .i64 (maxF q.deep ((o.kids.map Tm.deep).take k) : Nat) ∧ Below w4.heap.size w4 wr) (fun _ _ i _ => o.kids.length - (intOf i).toNat)
        case atStart => exact ⟨0, Nat.zero_le _, rfl, rfl, rfl, bl_refl w4⟩
        case round =>
          obtain ⟨k, hk, rfl, rfl, rfl, hbk⟩ := hrel
          have e1 := sumF_take_le q.nodes (o.kids.map Tm.nodes) k
          have e2 := maxF_le q.deep ((o.kids.map Tm.deep).take k) (B + 1) (by omega) (fun x hx => by
            obtain ⟨y, hy, rfl⟩ := List.mem_map.1 (List.mem_of_mem_take hx)
            have := y.deep_meas; have := hkm.out y hy; omega)
          have e3 : sumF q.nodes (o.kids.map Tm.nodes) ≤ B := by have := HS.out; omega
          have HB2 := Lib.hid (bl_step hbk hb)
          by_cases hlt : k < o.kids.length
          · obtain ⟨ad, rfl, hcell⟩ := HRD.out k (o.kids[k].val) (by simp [Tm.vals, hlt])
            have hc2 := cell_below hbk hcell
            have hmem := List.getElem_mem hlt
            have hkm' := hkm.out _ hmem
            have hih := ih o.kids[k] (by omega) (hko.out _ hmem) (by omega)
            have d1 := (o.kids[k]).nodes_meas
            have d2 := (o.kids[k]).deep_meas
            have e4 := sumF_take_le q.nodes (o.kids.map Tm.nodes) (k + 1)
            rw [take_snoc' _ k (by simpa using hlt), sumF_snoc, List.getElem_map] at e4
            have HT1 := Lib.hid (take_snoc' (o.kids.map Tm.nodes) k (by simpa using hlt))
            have HT2 := Lib.hid (take_snoc' (o.kids.map Tm.deep) k (by simpa using hlt))
            simp only [List.getElem_map] at HT1 HT2
            generalize o.kids[k] = y at *
            generalize (o.kids.map Tm.nodes).take k = N at *
            generalize (o.kids.map Tm.deep).take k = D at *
            generalize hSN : sumF q.nodes N = sn at *
            generalize hMD : maxF q.deep D = md at *
            generalize hyn : y.nodes = yn at *
            generalize hyd : y.deep = yd at *
            have H5 := Lib.hid hSN; have H6 := Lib.hid hMD; have H7 := Lib.hid hyn; have H8 := Lib.hid hyd
            clear hSN hMD hyn hyd hcell hmem
            go_wp2_with (go_at_call 132; refine (hih _).mono ?_; rintro e w5 ⟨rfl, hb5⟩)
            go_roundw
            case rel =>
              refine ⟨k + 1, by omega, by go_num, ?_, ?_, bl_step hb5 hbk⟩
              · rw [HT1.out, sumF_snoc, H5.out]; go_num
              · rw [HT2.out, maxF_snoc, H6.out]
                congr 1
                simp only [Nat.max_def]; split <;> split <;> omega
            case measure => simp [intOf]; omega
          · obtain rfl : k = o.kids.length := by omega
            clear hlt
            have t1 := List.take_of_length_le (l := o.kids.map Tm.nodes) (i := o.kids.length) (by simp)
            have t2 := List.take_of_length_le (l := o.kids.map Tm.deep) (i := o.kids.length) (by simp)
            rw [t2] at e2
            rw [t1, t2]
            clear t1 t2 e1
            have hS := HS.out
            have hD := HD.out
            generalize sumF q.nodes (o.kids.map Tm.nodes) = sn at *
            generalize maxF q.deep (o.kids.map Tm.deep) = md at *
            have HS2 := Lib.hid hS
            have HD2 := Lib.hid hD
            clear hS hD HS HD
            go_wp2
            go_ret2
            exact ⟨by rw [← HS2.out, ← HD2.out]; rfl, HB2.out⟩
end Go.Proofs.YtnekcijganhknaaGreatDoor
namespace Go.Proofs.YtnekcijganhknaaGreatDoor
open Go.RowKit
set_option linter.unusedVariables false
set_option linter.unusedSimpArgs false

theorem hcall_tform (args : Array Value) (W : World) : (callFunc 149 args).run Tryz.prog W = .ok (.enter 149 args) W := by kernel_rfl
def dayB (n : Int) : Bool := decide (0 ≤ n ∧ n ≤ 10000)
def Tm.form : Tm → Bool
  | .zero => true
  | .one s => nameB s
  | .give t => t.form
  | .and l r => l.form && r.form
  | .or s l r => nameB s && (l.form && r.form)
  | .scale o t => o.form && t.form
  | .when_ n t => dayB n && t.form
  | .if_ o l r => o.form && (l.form && r.form)
  | .odd _ => false
def tkidNot (o : Tm) (j : Nat) : Bool := match o.kids[j]? with | some k => !k.form | none => false
def Tm.kidsForm (o : Tm) : Bool := !anyTo (tkidNot o) o.kids.length
theorem kind_of_one (w : World) : Calls Tryz.prog 90 #[.iface 28 (.agg #[.string ⟨#[]⟩])] w fun e w' => e = .returned (.int .i64 2) ∧ Below w.heap.size w w' := tkind_calls (.one ⟨#[]⟩) (by simp [Tm.ok]; decide) w
theorem kind_of_or (w : World) : Calls Tryz.prog 90 #[.iface 78 (.agg #[.string ⟨#[]⟩, .nilIface, .nilIface])] w fun e w' => e = .returned (.int .i64 5) ∧ Below w.heap.size w w' := tkind_calls (.or ⟨#[]⟩ (.odd .nilIface) (.odd .nilIface)) ⟨by decide, .inl rfl, .inl rfl⟩ w
theorem Ob.check_two (o : Ob) : (o.check == 2) = !o.form := by
  unfold Ob.check
  cases o.form
  · rfl
  · by_cases h : 60 < o.nodes ∨ 12 < o.deep <;> simp [h]
set_option maxRecDepth 100000 in
set_option maxHeartbeats 4000000 in
theorem tform_calls (B : Nat) : ∀ (o : Tm), o.meas ≤ B → B ≤ 4611686018427387904 → o.ok → ∀ w : World,
    Calls Tryz.prog 131 #[o.val] w fun e w' => e = .returned (.bool o.form) ∧ Below w.heap.size w w' := by
  induction B with
  | zero => intro o h; cases o <;> simp [Tm.meas] at h
  | succ B ih =>
    intro o hm hB ho w
    have hp : ∀ W, PredOn 149 W (Tm.vals o.kids) (tkidNot o) := by
      intro W j x hx W' _
      unfold Tm.vals at hx
      rw [List.getElem?_map] at hx
      obtain ⟨k, hk, rfl⟩ := Option.map_eq_some_iff.1 hx
      have hmem := List.mem_of_getElem? hk
      have h1 := ih k (by have := o.kid_meas k hmem; omega) (by omega) (o.kid_ok ho k hmem)
      have h2 : tkidNot o j = !k.form := by unfold tkidNot; rw [hk]
      rw [h2]
      clear hx hk h2 ih hmem
      go_enter Tryz.func149, Tryz.ntmps149
      go_wp2_with (go_at_call 131; refine (h1 _).mono ?_; rintro e w1 ⟨rfl, hb1⟩)
      go_ret
      exact ⟨rfl, hb1⟩
    have HP := Lib.hid hp
    clear hp
    cases o with
    | odd v =>
      have ho1 := fun w => town_calls (.odd v) ho w
      have hk1 := fun w => tkind_calls (.odd v) ho w
      have hn1 := fun w => tnumber_calls (.odd v) ho w
      have hkd := fun w => term_kids (.odd v) ho w
      have HKD := Lib.hid hkd
      clear hkd ih
      simp only [Tm.ownS, Tm.ownN, Tm.kind, Tm.num, numV, Option.isSome] at ho1 hk1 hn1
      have hb0 := bl_refl w
      go_enter Tryz.func131, Tryz.ntmps131
      go_wp2_with fail
      refine (ho1 _).mono ?_
      rintro e w1 ⟨rfl, hb1⟩
      go_wp2_with fail
      refine (hk1 _).mono ?_
      rintro e w2 ⟨rfl, hb2⟩
      go_wp2_with fail
      refine (kind_of_one _).mono ?_
      rintro e w3 ⟨rfl, hb3⟩
      go_wp2_with fail
      refine (hk1 _).mono ?_
      rintro e w4 ⟨rfl, hb4⟩
      go_wp2_with fail
      refine (kind_of_or _).mono ?_
      rintro e w5 ⟨rfl, hb5⟩
      go_wp2_with fail
      refine (hk1 _).mono ?_
      rintro e w6 ⟨rfl, hb6⟩
      go_wp2_with fail
      go_ret
      refine ⟨rfl, ?_⟩
      repeat (first | exact bl_refl _ | refine bl_alloc ?_ _ | refine bl_drew ?_ | refine bl_drewN ?_ _ | refine bl_step (by assumption) ?_)
    | zero =>
      have hf : Tm.zero.form = Tm.zero.kidsForm := by simp [Tm.form, Tm.kidsForm, Tm.kids, anyTo]
      have HF := Lib.hid hf
      clear hf
      have ho1 := fun w => town_calls .zero ho w
      have hk1 := fun w => tkind_calls .zero ho w
      have hn1 := fun w => tnumber_calls .zero ho w
      have hkd := fun w => term_kids .zero ho w
      have HKD := Lib.hid hkd
      clear hkd ih
      simp only [Tm.ownS, Tm.ownN, Tm.kind, Tm.num, numV, Option.isSome] at ho1 hk1 hn1
      have hb0 := bl_refl w
      go_enter Tryz.func131, Tryz.ntmps131
      go_wp2_with fail
      refine (ho1 _).mono ?_
      rintro e w1 ⟨rfl, hb1⟩
      go_wp2_with fail
      refine (hk1 _).mono ?_
      rintro e w2 ⟨rfl, hb2⟩
      go_wp2_with fail
      refine (kind_of_one _).mono ?_
      rintro e w3 ⟨rfl, hb3⟩
      go_wp2_with fail
      refine (hk1 _).mono ?_
      rintro e w4 ⟨rfl, hb4⟩
      go_wp2_with fail
      refine (kind_of_or _).mono ?_
      rintro e w5 ⟨rfl, hb5⟩
      go_wp2_with fail
      refine (hk1 _).mono ?_
      rintro e w6 ⟨rfl, hb6⟩
      go_wp2_with fail
      refine (hn1 _).mono ?_
      rintro e w7 ⟨rfl, hb7⟩
      go_wp2_with fail
      refine (HKD.out _).mono ?_
      intro e w8 hr; obtain ⟨A, c, rfl, hrd, hb8, hnc⟩ := hr.open_; clear hr
      have HRD := Lib.hid hrd
      clear hrd
      go_wp2_with fail
      refine (term_contains _ hcall_tform A _ c _ (by simp [Tm.vals]) _ _ HRD.out (by simp [Tm.kids]) (HP.out _)).mono ?_
      rintro e w9 ⟨rfl, hb9⟩
      go_wp2_with fail
      go_ret
      refine ⟨ret_bool ?_, ?_⟩
      · exact HF.out.symm
      repeat (first | exact bl_refl _ | refine bl_alloc ?_ _ | refine bl_drew ?_ | refine bl_drewN ?_ _ | refine bl_step (by assumption) ?_)
    | give t =>
      have hf : (Tm.give t).form = (Tm.give t).kidsForm := by simp [Tm.form, Tm.kidsForm, Tm.kids, anyTo, tkidNot, List.range_succ]
      have HF := Lib.hid hf
      clear hf
      have ho1 := fun w => town_calls (.give t) ho w
      have hk1 := fun w => tkind_calls (.give t) ho w
      have hn1 := fun w => tnumber_calls (.give t) ho w
      have hkd := fun w => term_kids (.give t) ho w
      have HKD := Lib.hid hkd
      clear hkd ih
      simp only [Tm.ownS, Tm.ownN, Tm.kind, Tm.num, numV, Option.isSome] at ho1 hk1 hn1
      have hb0 := bl_refl w
      go_enter Tryz.func131, Tryz.ntmps131
      go_wp2_with fail
      refine (ho1 _).mono ?_
      rintro e w1 ⟨rfl, hb1⟩
      go_wp2_with fail
      refine (hk1 _).mono ?_
      rintro e w2 ⟨rfl, hb2⟩
      go_wp2_with fail
      refine (kind_of_one _).mono ?_
      rintro e w3 ⟨rfl, hb3⟩
      go_wp2_with fail
      refine (hk1 _).mono ?_
      rintro e w4 ⟨rfl, hb4⟩
      go_wp2_with fail
      refine (kind_of_or _).mono ?_
      rintro e w5 ⟨rfl, hb5⟩
      go_wp2_with fail
      refine (hk1 _).mono ?_
      rintro e w6 ⟨rfl, hb6⟩
      go_wp2_with fail
      refine (hn1 _).mono ?_
      rintro e w7 ⟨rfl, hb7⟩
      go_wp2_with fail
      refine (HKD.out _).mono ?_
      intro e w8 hr; obtain ⟨A, c, rfl, hrd, hb8, hnc⟩ := hr.open_; clear hr
      have HRD := Lib.hid hrd
      clear hrd
      go_wp2_with fail
      refine (term_contains _ hcall_tform A _ c _ (by simp [Tm.vals]) _ _ HRD.out (by simp [Tm.kids]) (HP.out _)).mono ?_
      rintro e w9 ⟨rfl, hb9⟩
      go_wp2_with fail
      go_ret
      refine ⟨ret_bool ?_, ?_⟩
      · exact HF.out.symm
      repeat (first | exact bl_refl _ | refine bl_alloc ?_ _ | refine bl_drew ?_ | refine bl_drewN ?_ _ | refine bl_step (by assumption) ?_)
    | and l r =>
      have hf : (Tm.and l r).form = (Tm.and l r).kidsForm := by simp [Tm.form, Tm.kidsForm, Tm.kids, anyTo, tkidNot, List.range_succ]
      have HF := Lib.hid hf
      clear hf
      have ho1 := fun w => town_calls (.and l r) ho w
      have hk1 := fun w => tkind_calls (.and l r) ho w
      have hn1 := fun w => tnumber_calls (.and l r) ho w
      have hkd := fun w => term_kids (.and l r) ho w
      have HKD := Lib.hid hkd
      clear hkd ih
      simp only [Tm.ownS, Tm.ownN, Tm.kind, Tm.num, numV, Option.isSome] at ho1 hk1 hn1
      have hb0 := bl_refl w
      go_enter Tryz.func131, Tryz.ntmps131
      go_wp2_with fail
      refine (ho1 _).mono ?_
      rintro e w1 ⟨rfl, hb1⟩
      go_wp2_with fail
      refine (hk1 _).mono ?_
      rintro e w2 ⟨rfl, hb2⟩
      go_wp2_with fail
      refine (kind_of_one _).mono ?_
      rintro e w3 ⟨rfl, hb3⟩
      go_wp2_with fail
      refine (hk1 _).mono ?_
      rintro e w4 ⟨rfl, hb4⟩
      go_wp2_with fail
      refine (kind_of_or _).mono ?_
      rintro e w5 ⟨rfl, hb5⟩
      go_wp2_with fail
      refine (hk1 _).mono ?_
      rintro e w6 ⟨rfl, hb6⟩
      go_wp2_with fail
      refine (hn1 _).mono ?_
      rintro e w7 ⟨rfl, hb7⟩
      go_wp2_with fail
      refine (HKD.out _).mono ?_
      intro e w8 hr; obtain ⟨A, c, rfl, hrd, hb8, hnc⟩ := hr.open_; clear hr
      have HRD := Lib.hid hrd
      clear hrd
      go_wp2_with fail
      refine (term_contains _ hcall_tform A _ c _ (by simp [Tm.vals]) _ _ HRD.out (by simp [Tm.kids]) (HP.out _)).mono ?_
      rintro e w9 ⟨rfl, hb9⟩
      go_wp2_with fail
      go_ret
      refine ⟨ret_bool ?_, ?_⟩
      · exact HF.out.symm
      repeat (first | exact bl_refl _ | refine bl_alloc ?_ _ | refine bl_drew ?_ | refine bl_drewN ?_ _ | refine bl_step (by assumption) ?_)
    | one s =>
      have hnm := fun w => name_calls s w
      cases hv : nameB s with
      | false =>
        have hf : (Tm.one s).form = false := hv
        simp only [hv] at hnm
        have HF := Lib.hid hf
        clear hf hv
        have ho1 := fun w => town_calls (.one s) ho w
        have hk1 := fun w => tkind_calls (.one s) ho w
        have hn1 := fun w => tnumber_calls (.one s) ho w
        have hkd := fun w => term_kids (.one s) ho w
        have HKD := Lib.hid hkd
        clear hkd ih
        simp only [Tm.ownS, Tm.ownN, Tm.kind, Tm.num, numV, Option.isSome] at ho1 hk1 hn1
        have hb0 := bl_refl w
        go_enter Tryz.func131, Tryz.ntmps131
        go_wp2_with fail
        refine (ho1 _).mono ?_
        rintro e w1 ⟨rfl, hb1⟩
        go_wp2_with fail
        refine (hk1 _).mono ?_
        rintro e w2 ⟨rfl, hb2⟩
        go_wp2_with fail
        refine (kind_of_one _).mono ?_
        rintro e w3 ⟨rfl, hb3⟩
        go_wp2_with fail
        refine (hk1 _).mono ?_
        rintro e w4 ⟨rfl, hb4⟩
        go_wp2_with fail
        refine (hnm _).mono ?_
        rintro e w5 ⟨rfl, hb5⟩
        go_wp2_with fail
        go_ret
        refine ⟨ret_bool HF.out.symm, ?_⟩
        repeat (first | exact bl_refl _ | refine bl_alloc ?_ _ | refine bl_drew ?_ | refine bl_drewN ?_ _ | refine bl_step (by assumption) ?_)
      | true =>
        have hf : (Tm.one s).form = (Tm.one s).kidsForm := by simp [Tm.form, Tm.kidsForm, Tm.kids, anyTo, hv]
        simp only [hv] at hnm
        have HF := Lib.hid hf
        clear hf hv
        have ho1 := fun w => town_calls (.one s) ho w
        have hk1 := fun w => tkind_calls (.one s) ho w
        have hn1 := fun w => tnumber_calls (.one s) ho w
        have hkd := fun w => term_kids (.one s) ho w
        have HKD := Lib.hid hkd
        clear hkd ih
        simp only [Tm.ownS, Tm.ownN, Tm.kind, Tm.num, numV, Option.isSome] at ho1 hk1 hn1
        have hb0 := bl_refl w
        go_enter Tryz.func131, Tryz.ntmps131
        go_wp2_with fail
        refine (ho1 _).mono ?_
        rintro e w1 ⟨rfl, hb1⟩
        go_wp2_with fail
        refine (hk1 _).mono ?_
        rintro e w2 ⟨rfl, hb2⟩
        go_wp2_with fail
        refine (kind_of_one _).mono ?_
        rintro e w3 ⟨rfl, hb3⟩
        go_wp2_with fail
        refine (hk1 _).mono ?_
        rintro e w4 ⟨rfl, hb4⟩
        go_wp2_with fail
        refine (hnm _).mono ?_
        rintro e w5 ⟨rfl, hb5⟩
        go_wp2_with fail
        refine (hn1 _).mono ?_
        rintro e w7 ⟨rfl, hb7⟩
        go_wp2_with fail
        refine (HKD.out _).mono ?_
        intro e w8 hr; obtain ⟨A, c, rfl, hrd, hb8, hnc⟩ := hr.open_; clear hr
        have HRD := Lib.hid hrd
        clear hrd
        go_wp2_with fail
        refine (term_contains _ hcall_tform A _ c _ (by simp [Tm.vals]) _ _ HRD.out (by simp [Tm.kids]) (HP.out _)).mono ?_
        rintro e w9 ⟨rfl, hb9⟩
        go_wp2_with fail
        go_ret
        refine ⟨ret_bool ?_, ?_⟩
        · exact HF.out.symm
        repeat (first | exact bl_refl _ | refine bl_alloc ?_ _ | refine bl_drew ?_ | refine bl_drewN ?_ _ | refine bl_step (by assumption) ?_)
    | or s l r =>
      have hnm := fun w => name_calls s w
      cases hv : nameB s with
      | false =>
        have hf : (Tm.or s l r).form = false := by simp [Tm.form, hv]
        simp only [hv] at hnm
        have HF := Lib.hid hf
        clear hf hv
        have ho1 := fun w => town_calls (.or s l r) ho w
        have hk1 := fun w => tkind_calls (.or s l r) ho w
        have hn1 := fun w => tnumber_calls (.or s l r) ho w
        have hkd := fun w => term_kids (.or s l r) ho w
        have HKD := Lib.hid hkd
        clear hkd ih
        simp only [Tm.ownS, Tm.ownN, Tm.kind, Tm.num, numV, Option.isSome] at ho1 hk1 hn1
        have hb0 := bl_refl w
        go_enter Tryz.func131, Tryz.ntmps131
        go_wp2_with fail
        refine (ho1 _).mono ?_
        rintro e w1 ⟨rfl, hb1⟩
        go_wp2_with fail
        refine (hk1 _).mono ?_
        rintro e w2 ⟨rfl, hb2⟩
        go_wp2_with fail
        refine (kind_of_one _).mono ?_
        rintro e w3 ⟨rfl, hb3⟩
        go_wp2_with fail
        refine (hk1 _).mono ?_
        rintro e w4 ⟨rfl, hb4⟩
        go_wp2_with fail
        refine (kind_of_or _).mono ?_
        rintro e w5 ⟨rfl, hb5⟩
        go_wp2_with fail
        refine (hk1 _).mono ?_
        rintro e w6 ⟨rfl, hb6⟩
        go_wp2_with fail
        refine (hnm _).mono ?_
        rintro e w7 ⟨rfl, hb7⟩
        go_wp2_with fail
        go_ret
        refine ⟨ret_bool HF.out.symm, ?_⟩
        repeat (first | exact bl_refl _ | refine bl_alloc ?_ _ | refine bl_drew ?_ | refine bl_drewN ?_ _ | refine bl_step (by assumption) ?_)
      | true =>
        have hf : (Tm.or s l r).form = (Tm.or s l r).kidsForm := by simp [Tm.form, Tm.kidsForm, Tm.kids, anyTo, tkidNot, List.range_succ, hv]
        simp only [hv] at hnm
        have HF := Lib.hid hf
        clear hf hv
        have ho1 := fun w => town_calls (.or s l r) ho w
        have hk1 := fun w => tkind_calls (.or s l r) ho w
        have hn1 := fun w => tnumber_calls (.or s l r) ho w
        have hkd := fun w => term_kids (.or s l r) ho w
        have HKD := Lib.hid hkd
        clear hkd ih
        simp only [Tm.ownS, Tm.ownN, Tm.kind, Tm.num, numV, Option.isSome] at ho1 hk1 hn1
        have hb0 := bl_refl w
        go_enter Tryz.func131, Tryz.ntmps131
        go_wp2_with fail
        refine (ho1 _).mono ?_
        rintro e w1 ⟨rfl, hb1⟩
        go_wp2_with fail
        refine (hk1 _).mono ?_
        rintro e w2 ⟨rfl, hb2⟩
        go_wp2_with fail
        refine (kind_of_one _).mono ?_
        rintro e w3 ⟨rfl, hb3⟩
        go_wp2_with fail
        refine (hk1 _).mono ?_
        rintro e w4 ⟨rfl, hb4⟩
        go_wp2_with fail
        refine (kind_of_or _).mono ?_
        rintro e w5 ⟨rfl, hb5⟩
        go_wp2_with fail
        refine (hk1 _).mono ?_
        rintro e w6 ⟨rfl, hb6⟩
        go_wp2_with fail
        refine (hnm _).mono ?_
        rintro e w7 ⟨rfl, hb7⟩
        go_wp2_with fail
        refine (hn1 _).mono ?_
        rintro e w10 ⟨rfl, hb10⟩
        go_wp2_with fail
        refine (HKD.out _).mono ?_
        intro e w8 hr; obtain ⟨A, c, rfl, hrd, hb8, hnc⟩ := hr.open_; clear hr
        have HRD := Lib.hid hrd
        clear hrd
        go_wp2_with fail
        refine (term_contains _ hcall_tform A _ c _ (by simp [Tm.vals]) _ _ HRD.out (by simp [Tm.kids]) (HP.out _)).mono ?_
        rintro e w9 ⟨rfl, hb9⟩
        go_wp2_with fail
        go_ret
        refine ⟨ret_bool ?_, ?_⟩
        · exact HF.out.symm
        repeat (first | exact bl_refl _ | refine bl_alloc ?_ _ | refine bl_drew ?_ | refine bl_drewN ?_ _ | refine bl_step (by assumption) ?_)
    | when_ n t =>
      by_cases hv : 0 ≤ n ∧ n ≤ 10000
      · have hf : (Tm.when_ n t).form = (Tm.when_ n t).kidsForm := by simp [Tm.form, Tm.kidsForm, Tm.kids, anyTo, tkidNot, List.range_succ, dayB, hv]
        have HF := Lib.hid hf
        obtain ⟨hv0, hv1⟩ := hv
        clear hf
        have ho1 := fun w => town_calls (.when_ n t) ho w
        have hk1 := fun w => tkind_calls (.when_ n t) ho w
        have hn1 := fun w => tnumber_calls (.when_ n t) ho w
        have hkd := fun w => term_kids (.when_ n t) ho w
        have HKD := Lib.hid hkd
        clear hkd ih
        simp only [Tm.ownS, Tm.ownN, Tm.kind, Tm.num, numV, Option.isSome] at ho1 hk1 hn1
        have hb0 := bl_refl w
        go_enter Tryz.func131, Tryz.ntmps131
        go_wp2_with fail
        refine (ho1 _).mono ?_
        rintro e w1 ⟨rfl, hb1⟩
        go_wp2_with fail
        refine (hk1 _).mono ?_
        rintro e w2 ⟨rfl, hb2⟩
        go_wp2_with fail
        refine (kind_of_one _).mono ?_
        rintro e w3 ⟨rfl, hb3⟩
        go_wp2_with fail
        refine (hk1 _).mono ?_
        rintro e w4 ⟨rfl, hb4⟩
        go_wp2_with fail
        refine (kind_of_or _).mono ?_
        rintro e w5 ⟨rfl, hb5⟩
        go_wp2_with fail
        refine (hk1 _).mono ?_
        rintro e w6 ⟨rfl, hb6⟩
        go_wp2_with fail
        refine (hn1 _).mono ?_
        rintro e w7 ⟨rfl, hb7⟩
        go_wp2_with fail
        refine (HKD.out _).mono ?_
        intro e w8 hr; obtain ⟨A, c, rfl, hrd, hb8, hnc⟩ := hr.open_; clear hr
        have HRD := Lib.hid hrd
        clear hrd
        go_wp2_with fail
        refine (term_contains _ hcall_tform A _ c _ (by simp [Tm.vals]) _ _ HRD.out (by simp [Tm.kids]) (HP.out _)).mono ?_
        rintro e w9 ⟨rfl, hb9⟩
        go_wp2_with fail
        go_ret
        refine ⟨ret_bool ?_, ?_⟩
        · exact HF.out.symm
        repeat (first | exact bl_refl _ | refine bl_alloc ?_ _ | refine bl_drew ?_ | refine bl_drewN ?_ _ | refine bl_step (by assumption) ?_)
      · have hf : (Tm.when_ n t).form = false := by simp [Tm.form, dayB]; intro h1 h2; exact absurd ⟨h1, h2⟩ hv
        have HF := Lib.hid hf
        have HV := Lib.hid hv
        clear hf hv
        have ho1 := fun w => town_calls (.when_ n t) ho w
        have hk1 := fun w => tkind_calls (.when_ n t) ho w
        have hn1 := fun w => tnumber_calls (.when_ n t) ho w
        have hkd := fun w => term_kids (.when_ n t) ho w
        have HKD := Lib.hid hkd
        clear hkd ih
        simp only [Tm.ownS, Tm.ownN, Tm.kind, Tm.num, numV, Option.isSome] at ho1 hk1 hn1
        have hb0 := bl_refl w
        go_enter Tryz.func131, Tryz.ntmps131
        go_wp2_with fail
        refine (ho1 _).mono ?_
        rintro e w1 ⟨rfl, hb1⟩
        go_wp2_with fail
        refine (hk1 _).mono ?_
        rintro e w2 ⟨rfl, hb2⟩
        go_wp2_with fail
        refine (kind_of_one _).mono ?_
        rintro e w3 ⟨rfl, hb3⟩
        go_wp2_with fail
        refine (hk1 _).mono ?_
        rintro e w4 ⟨rfl, hb4⟩
        go_wp2_with fail
        refine (kind_of_or _).mono ?_
        rintro e w5 ⟨rfl, hb5⟩
        go_wp2_with fail
        refine (hk1 _).mono ?_
        rintro e w6 ⟨rfl, hb6⟩
        by_cases hv0 : n < 0
        · go_wp2_with fail
          go_ret
          refine ⟨ret_bool HF.out.symm, ?_⟩
          repeat (first | exact bl_refl _ | refine bl_alloc ?_ _ | refine bl_drew ?_ | refine bl_drewN ?_ _ | refine bl_step (by assumption) ?_)
        · have hv1 : 10000 < n := by have := HV.out; omega
          go_wp2_with fail
          go_ret
          refine ⟨ret_bool HF.out.symm, ?_⟩
          repeat (first | exact bl_refl _ | refine bl_alloc ?_ _ | refine bl_drew ?_ | refine bl_drewN ?_ _ | refine bl_step (by assumption) ?_)
    | scale q t =>
      have hck := fun w => check_calls q ho.1 (by simp only [Tm.meas] at hm; omega) w
      have hc2 := q.check_two
      cases hv : q.form with
      | false =>
        have hf : (Tm.scale q t).form = false := by simp [Tm.form, hv]
        have HF := Lib.hid hf
        rw [hv] at hc2
        simp only [Bool.not_true, Bool.not_false] at hc2
        clear hf hv
        have ho1 := fun w => town_calls (.scale q t) ho w
        have hk1 := fun w => tkind_calls (.scale q t) ho w
        have hn1 := fun w => tnumber_calls (.scale q t) ho w
        have hkd := fun w => term_kids (.scale q t) ho w
        have HKD := Lib.hid hkd
        clear hkd ih
        simp only [Tm.ownS, Tm.ownN, Tm.kind, Tm.num, numV, Option.isSome] at ho1 hk1 hn1
        generalize q.check = qc at *
        have hb0 := bl_refl w
        go_enter Tryz.func131, Tryz.ntmps131
        go_wp2_with fail
        refine (ho1 _).mono ?_
        rintro e w1 ⟨rfl, hb1⟩
        go_wp2_with fail
        refine (hk1 _).mono ?_
        rintro e w2 ⟨rfl, hb2⟩
        go_wp2_with fail
        refine (kind_of_one _).mono ?_
        rintro e w3 ⟨rfl, hb3⟩
        go_wp2_with fail
        refine (hk1 _).mono ?_
        rintro e w4 ⟨rfl, hb4⟩
        go_wp2_with fail
        refine (kind_of_or _).mono ?_
        rintro e w5 ⟨rfl, hb5⟩
        go_wp2_with fail
        refine (hk1 _).mono ?_
        rintro e w6 ⟨rfl, hb6⟩
        go_wp2_with fail
        refine (hn1 _).mono ?_
        rintro e w7 ⟨rfl, hb7⟩
        go_wp2_with fail
        refine (hck _).mono ?_
        rintro e w10 ⟨rfl, hb10⟩
        go_wp2_with fail
        go_ret
        refine ⟨ret_bool HF.out.symm, ?_⟩
        repeat (first | exact bl_refl _ | refine bl_alloc ?_ _ | refine bl_drew ?_ | refine bl_drewN ?_ _ | refine bl_step (by assumption) ?_)
      | true =>
        have hf : (Tm.scale q t).form = (Tm.scale q t).kidsForm := by simp [Tm.form, Tm.kidsForm, Tm.kids, anyTo, tkidNot, List.range_succ, hv]
        have HF := Lib.hid hf
        rw [hv] at hc2
        simp only [Bool.not_true, Bool.not_false] at hc2
        clear hf hv
        have ho1 := fun w => town_calls (.scale q t) ho w
        have hk1 := fun w => tkind_calls (.scale q t) ho w
        have hn1 := fun w => tnumber_calls (.scale q t) ho w
        have hkd := fun w => term_kids (.scale q t) ho w
        have HKD := Lib.hid hkd
        clear hkd ih
        simp only [Tm.ownS, Tm.ownN, Tm.kind, Tm.num, numV, Option.isSome] at ho1 hk1 hn1
        generalize q.check = qc at *
        have hb0 := bl_refl w
        go_enter Tryz.func131, Tryz.ntmps131
        go_wp2_with fail
        refine (ho1 _).mono ?_
        rintro e w1 ⟨rfl, hb1⟩
        go_wp2_with fail
        refine (hk1 _).mono ?_
        rintro e w2 ⟨rfl, hb2⟩
        go_wp2_with fail
        refine (kind_of_one _).mono ?_
        rintro e w3 ⟨rfl, hb3⟩
        go_wp2_with fail
        refine (hk1 _).mono ?_
        rintro e w4 ⟨rfl, hb4⟩
        go_wp2_with fail
        refine (kind_of_or _).mono ?_
        rintro e w5 ⟨rfl, hb5⟩
        go_wp2_with fail
        refine (hk1 _).mono ?_
        rintro e w6 ⟨rfl, hb6⟩
        go_wp2_with fail
        refine (hn1 _).mono ?_
        rintro e w7 ⟨rfl, hb7⟩
        go_wp2_with fail
        refine (hck _).mono ?_
        rintro e w10 ⟨rfl, hb10⟩
        go_wp2_with fail
        refine (HKD.out _).mono ?_
        intro e w8 hr; obtain ⟨A, c, rfl, hrd, hb8, hnc⟩ := hr.open_; clear hr
        have HRD := Lib.hid hrd
        clear hrd
        go_wp2_with fail
        refine (term_contains _ hcall_tform A _ c _ (by simp [Tm.vals]) _ _ HRD.out (by simp [Tm.kids]) (HP.out _)).mono ?_
        rintro e w9 ⟨rfl, hb9⟩
        go_wp2_with fail
        go_ret
        refine ⟨ret_bool ?_, ?_⟩
        · exact HF.out.symm
        repeat (first | exact bl_refl _ | refine bl_alloc ?_ _ | refine bl_drew ?_ | refine bl_drewN ?_ _ | refine bl_step (by assumption) ?_)
    | if_ q l r =>
      have hck := fun w => check_calls q ho.1 (by simp only [Tm.meas] at hm; omega) w
      have hc2 := q.check_two
      cases hv : q.form with
      | false =>
        have hf : (Tm.if_ q l r).form = false := by simp [Tm.form, hv]
        have HF := Lib.hid hf
        rw [hv] at hc2
        simp only [Bool.not_true, Bool.not_false] at hc2
        clear hf hv
        have ho1 := fun w => town_calls (.if_ q l r) ho w
        have hk1 := fun w => tkind_calls (.if_ q l r) ho w
        have hn1 := fun w => tnumber_calls (.if_ q l r) ho w
        have hkd := fun w => term_kids (.if_ q l r) ho w
        have HKD := Lib.hid hkd
        clear hkd ih
        simp only [Tm.ownS, Tm.ownN, Tm.kind, Tm.num, numV, Option.isSome] at ho1 hk1 hn1
        generalize q.check = qc at *
        have hb0 := bl_refl w
        go_enter Tryz.func131, Tryz.ntmps131
        go_wp2_with fail
        refine (ho1 _).mono ?_
        rintro e w1 ⟨rfl, hb1⟩
        go_wp2_with fail
        refine (hk1 _).mono ?_
        rintro e w2 ⟨rfl, hb2⟩
        go_wp2_with fail
        refine (kind_of_one _).mono ?_
        rintro e w3 ⟨rfl, hb3⟩
        go_wp2_with fail
        refine (hk1 _).mono ?_
        rintro e w4 ⟨rfl, hb4⟩
        go_wp2_with fail
        refine (kind_of_or _).mono ?_
        rintro e w5 ⟨rfl, hb5⟩
        go_wp2_with fail
        refine (hk1 _).mono ?_
        rintro e w6 ⟨rfl, hb6⟩
        go_wp2_with fail
        refine (hn1 _).mono ?_
        rintro e w7 ⟨rfl, hb7⟩
        go_wp2_with fail
        refine (hck _).mono ?_
        rintro e w10 ⟨rfl, hb10⟩
        go_wp2_with fail
        go_ret
        refine ⟨ret_bool HF.out.symm, ?_⟩
        repeat (first | exact bl_refl _ | refine bl_alloc ?_ _ | refine bl_drew ?_ | refine bl_drewN ?_ _ | refine bl_step (by assumption) ?_)
      | true =>
        have hf : (Tm.if_ q l r).form = (Tm.if_ q l r).kidsForm := by simp [Tm.form, Tm.kidsForm, Tm.kids, anyTo, tkidNot, List.range_succ, hv]
        have HF := Lib.hid hf
        rw [hv] at hc2
        simp only [Bool.not_true, Bool.not_false] at hc2
        clear hf hv
        have ho1 := fun w => town_calls (.if_ q l r) ho w
        have hk1 := fun w => tkind_calls (.if_ q l r) ho w
        have hn1 := fun w => tnumber_calls (.if_ q l r) ho w
        have hkd := fun w => term_kids (.if_ q l r) ho w
        have HKD := Lib.hid hkd
        clear hkd ih
        simp only [Tm.ownS, Tm.ownN, Tm.kind, Tm.num, numV, Option.isSome] at ho1 hk1 hn1
        generalize q.check = qc at *
        have hb0 := bl_refl w
        go_enter Tryz.func131, Tryz.ntmps131
        go_wp2_with fail
        refine (ho1 _).mono ?_
        rintro e w1 ⟨rfl, hb1⟩
        go_wp2_with fail
        refine (hk1 _).mono ?_
        rintro e w2 ⟨rfl, hb2⟩
        go_wp2_with fail
        refine (kind_of_one _).mono ?_
        rintro e w3 ⟨rfl, hb3⟩
        go_wp2_with fail
        refine (hk1 _).mono ?_
        rintro e w4 ⟨rfl, hb4⟩
        go_wp2_with fail
        refine (kind_of_or _).mono ?_
        rintro e w5 ⟨rfl, hb5⟩
        go_wp2_with fail
        refine (hk1 _).mono ?_
        rintro e w6 ⟨rfl, hb6⟩
        go_wp2_with fail
        refine (hn1 _).mono ?_
        rintro e w7 ⟨rfl, hb7⟩
        go_wp2_with fail
        refine (hck _).mono ?_
        rintro e w10 ⟨rfl, hb10⟩
        go_wp2_with fail
        refine (HKD.out _).mono ?_
        intro e w8 hr; obtain ⟨A, c, rfl, hrd, hb8, hnc⟩ := hr.open_; clear hr
        have HRD := Lib.hid hrd
        clear hrd
        go_wp2_with fail
        refine (term_contains _ hcall_tform A _ c _ (by simp [Tm.vals]) _ _ HRD.out (by simp [Tm.kids]) (HP.out _)).mono ?_
        rintro e w9 ⟨rfl, hb9⟩
        go_wp2_with fail
        go_ret
        refine ⟨ret_bool ?_, ?_⟩
        · exact HF.out.symm
        repeat (first | exact bl_refl _ | refine bl_alloc ?_ _ | refine bl_drew ?_ | refine bl_drewN ?_ _ | refine bl_step (by assumption) ?_)
end Go.Proofs.YtnekcijganhknaaGreatDoor
namespace Go.Proofs.YtnekcijganhknaaGreatDoor
open Go.RowKit
set_option linter.unusedVariables false
set_option linter.unusedSimpArgs false

def strs (l : List ByteArray) : List Value := l.map fun s => .string s
theorem strs_length (l : List ByteArray) : (strs l).length = l.length := by simp [strs]
theorem strs_get (l : List ByteArray) (j : Nat) (h : j < l.length) : (strs l)[j]? = some (.string l[j]) := by simp [strs, h]
theorem strs_snoc (l : List ByteArray) (s : ByteArray) : strs (l ++ [s]) = strs l ++ [.string s] := by simp [strs]
theorem strs_append (l m : List ByteArray) : strs (l ++ m) = strs l ++ strs m := by simp [strs]
theorem strs_one (l : List ByteArray) : ∀ u ∈ strs l, u.oneCell' = true := by
  intro u hu
  obtain ⟨s, _, rfl⟩ := List.mem_map.1 hu
  rfl
theorem info_str : (Tryz.prog.info? 9).map (fun i => (i.zero, i.size, i.bytes)) = some (some (.string ⟨#[]⟩), 1, 16) := by kernel_rfl
theorem bs_str (s : ByteArray) (W : World) : (Instr.buildSlice 54 1 #[(0, .string s)]).run Tryz.prog W = .ok (.slice (some ⟨W.heap.size, 0, none⟩) 1 1) (W.alloc (.cells #[.string s] 9)) := by kernel_rfl
theorem append_oneG {P : Program} {ops : Array Oper} {rest : List Oper} {o : Oper} {a : Act} {Q : Exit → Act → World → Prop} {w0 W : World} (hgd : Region.wanted o (yielded ops a.tmps) = true) (s x : Operand) (t e : TypeId) (z : Value) (bytes : Nat)
    (ho : o.op = .call { callee := .builtin .append, args := #[s, x], argTypes := #[t, t] })
    (ht : P.underlying t = some (.slice e)) (hinfo : (P.info? e).map (fun i => (i.zero, i.size, i.bytes)) = some (some z, 1, bytes)) (hz : z.cells.size = 1)
    (v : Value) (n : Nat) (xs : List Value) (y : Value) (g : Nat) (HO : Own w0 W e 1 v n xs) (HB : Below w0.heap.size w0 W) (hs : a.eval s = v) (hx : a.eval x = .slice (some ⟨g, 0, none⟩) 1 1) (hg : g = W.heap.size) (h1 : y.oneCell' = true)
    (hl : (n + 1) * bytes ≤ 140737488355328) (hn : n + 1 ≤ 140737488355328)
    (h : ∀ v1 w1, Own w0 w1 e 1 v1 (n + 1) (xs ++ [y]) → Below w0.heap.size w0 w1 → W.grownBy w1 v.ownBlock → wpList P ops Q rest (a.put o.dst v1) w1) :
    wpList P ops Q (o :: rest) a (W.alloc (.cells #[y] e)) := by
  subst hg
  exact append_one hgd s x t e z bytes ho ht hinfo hz v n xs y HO HB hs hx h1 hl hn h
/-- It returns texts, in a row of its own. -/
def RetStrs (w : World) (l : List ByteArray) (e : Ending) (w' : World) : Prop := ∃ v, e = .returned v ∧ Own w w' 9 1 v l.length (strs l) ∧ Below w.heap.size w w'
def Tm.ownL : Tm → List ByteArray
  | .or s _ _ => [s]
  | _ => []
def Tm.labels : Tm → List ByteArray
  | .zero | .one _ | .odd _ => []
  | .give t | .scale _ t | .when_ _ t => t.labels
  | .and l r | .if_ _ l r => l.labels ++ r.labels
  | .or s l r => s :: (l.labels ++ r.labels)
def catF (a : List ByteArray) (l : List (List ByteArray)) : List ByteArray := l.foldl (· ++ ·) a
theorem catF_snoc (a : List ByteArray) (l : List (List ByteArray)) (x : List ByteArray) : catF a (l ++ [x]) = catF a l ++ x := by simp [catF]
theorem Tm.labels_cat (o : Tm) : catF o.ownL (o.kids.map Tm.labels) = o.labels := by
  cases o <;> simp [catF, Tm.ownL, Tm.kids, Tm.labels]
theorem Tm.labels_meas : ∀ o : Tm, o.labels.length ≤ o.meas
  | .odd _ | .zero | .one _ => by simp [Tm.labels]
  | .give t | .when_ _ t => by have := t.labels_meas; simp only [Tm.labels, Tm.meas]; omega
  | .and l r => by have := l.labels_meas; have := r.labels_meas; simp only [Tm.labels, Tm.meas, List.length_append]; omega
  | .or _ l r => by have := l.labels_meas; have := r.labels_meas; simp only [Tm.labels, Tm.meas, List.length_append, List.length_cons]; omega
  | .scale o t => by have := t.labels_meas; simp only [Tm.labels, Tm.meas]; omega
  | .if_ o l r => by have := l.labels_meas; have := r.labels_meas; simp only [Tm.labels, Tm.meas, List.length_append]; omega
theorem catF_take_le (a : List ByteArray) (l : List (List ByteArray)) (k : Nat) : (catF a (l.take k)).length ≤ (catF a l).length := by
  conv => rhs; rw [← List.take_append_drop k l]
  unfold catF
  rw [List.foldl_append]
  generalize List.foldl (· ++ ·) a (List.take k l) = x
  generalize List.drop k l = y
  induction y generalizing x with
  | nil => exact Nat.le_refl _
  | cons z y ih => exact Nat.le_trans (by simp) (ih (x ++ z))
set_option maxRecDepth 100000 in
set_option maxHeartbeats 1000000 in
theorem labels_calls (B : Nat) : ∀ (o : Tm), o.meas ≤ B → B ≤ 1099511627776 → o.ok → ∀ w : World,
    Calls Tryz.prog 133 #[o.val] w (RetStrs w o.labels) := by
  induction B with
  | zero => intro o h; cases o <;> simp [Tm.meas] at h
  | succ B ih =>
    intro o hm hB ho w
    have HCAT := Lib.hid (o.labels_cat)
    have hlb := o.labels_meas
    have hkm := Lib.hid (o.kid_meas); have hko := Lib.hid (o.kid_ok ho)
    have hlen := o.kids_len
    have hkd := Lib.hid (fun w => term_kidsB o ho w)
    have hb1 := bs_str
    by_cases hor : ∃ s l r, o = .or s l r
    · obtain ⟨s, l, r, rfl⟩ := hor
      simp only [Tm.ok] at ho
      have hown : Tm.ownL (.or s l r) = [s] := rfl
      have HOWN := Lib.hid hown
      clear hown
      have hBA := bl_alloc (bl_refl w) (.cells #[.string s, l.val, r.val] 78)
      have e1 := l.cells_ ho.2.1
      unfold Tm.val
      go_enter Tryz.func133, Tryz.ntmps133
      go_wp2_with (at_builtin; refine append_oneG (w0 := w) rfl _ _ 54 9 _ 16 rfl Tryz.underlying54 info_str rfl _ 0 [] _ _ (Own.nil _ _ _ _) hBA rfl rfl (by simp) rfl (by omega) (by omega) ?_; intro v1 w3 HO1 HB1 HG1)
      go_wp2_with fail
      refine (hkd.out _).mono ?_
      intro e w4 hr
      obtain ⟨A, c, rfl, hrow, hb4, hnc⟩ := hr.open_
      clear hr
      go_wp2_with fail
      skip
      have hB4 : Below w.heap.size w w4 := by
        repeat (first | exact bl_refl _ | refine bl_alloc ?_ _ | refine bl_drew ?_ | refine bl_drewN ?_ _ | refine bl_step (by assumption) ?_)
      have HOb := HO1.below hb4
      go_loopw [3, 22] (fun v i wr => ∃ k : Nat, k ≤ (Tm.or s l r).kids.length ∧ i = .int .i64 k ∧ Own w wr 9 1 v (catF (Tm.or s l r).ownL (((Tm.or s l r).kids.map Tm.labels).take k)).length (strs (catF (Tm.or s l r).ownL (((Tm.or s l r).kids.map Tm.labels).take k))) ∧ Below w.heap.size w wr ∧ RowAt 30 wr A (Tm.vals (Tm.or s l r).kids)) (fun _ i _ => (Tm.or s l r).kids.length - (intOf i).toNat)
      case atStart => exact ⟨0, Nat.zero_le _, rfl, (by rw [HOWN.out]; exact HOb), hB4, hrow⟩
      case round =>
        clear hrow
        obtain ⟨k, hk, rfl, HO, HB, hrow⟩ := hrel
        have hlm := catF_take_le (Tm.or s l r).ownL ((Tm.or s l r).kids.map Tm.labels) k
        rw [HCAT.out] at hlm
        by_cases hlt : k < (Tm.or s l r).kids.length
        · obtain ⟨ad, e1, hcell⟩ := hrow.rd k ((Tm.or s l r).kids[k].val) (by simp [Tm.vals, hlt])
          have hrow := Lib.hid hrow
          subst e1
          have hmem := List.getElem_mem hlt
          have hkm' := hkm.out _ hmem
          have hih := Lib.hid (ih (Tm.or s l r).kids[k] (by omega) (by omega) (hko.out _ hmem))
          have d1 := ((Tm.or s l r).kids[k]).labels_meas
          have HT := Lib.hid (take_snoc' ((Tm.or s l r).kids.map Tm.labels) k (by simpa using hlt))
          simp only [List.getElem_map] at HT
          generalize (Tm.or s l r).kids[k] = y at *
          generalize ((Tm.or s l r).kids.map Tm.labels).take k = L at *
          generalize hCL : catF (Tm.or s l r).ownL L = cl at *
          have H5 := Lib.hid hCL
          generalize hyl : y.labels = yl at *
          have H6 := Lib.hid hyl
          have hll := strs_length cl
          clear hCL hyl hmem
          obtain ⟨A0, c0, rfl, _, hc0, _⟩ := HO.read
          go_wp2_with fail
          refine (hih.out _).mono ?_
          intro e w5 hq
          obtain ⟨v5, rfl, HO5, HB5⟩ := hq
          have HOk := HO.below HB5
          have HBk := bl_step HB5 HB
          have hrow5 := hrow.out.below HB5
          obtain ⟨A5, c5, rfl, hrd5, _, hl5⟩ := HO5.read
          clear HO HO5
          go_wp2_with (at_builtin; refine append_any (w0 := w) rfl _ _ 54 9 _ 1 16 rfl Tryz.underlying54 info_str rfl (by decide) _ _ _ A5 _ c5 (strs yl) HOk HBk hrd5 rfl rfl (by omega) (strs_one yl) (by omega) (by omega) ?_; intro v6 w6 HO6 HB6 HG6)
          have hrow6 := hrow5.grown HG6 (fun g cs hb => HOk.ne_blk hb (by decide))
          go_roundw
          case rel =>
            refine ⟨k + 1, by omega, by go_num, ?_, HB6, hrow6⟩
            rw [HT.out, catF_snoc, H5.out, strs_append, List.length_append]
            exact HO6
          case measure => simp [intOf]; omega
        · obtain rfl : k = (Tm.or s l r).kids.length := by omega
          clear hlt
          have t1 := List.take_of_length_le (l := (Tm.or s l r).kids.map Tm.labels) (i := (Tm.or s l r).kids.length) (by simp)
          rw [t1, HCAT.out] at HO
          clear t1
          go_wp2
          go_ret
          exact ⟨_, rfl, HO, HB⟩
    · have hta : ∀ (t : TypeId) (w : World), (Instr.typeAssert o.val t 78 true).run Tryz.prog w = .ok (.tuple #[.agg #[.string ⟨#[]⟩, .nilIface, .nilIface], .bool false]) w := by
        intro t w
        cases o with
        | or s l r => exact absurd ⟨s, l, r, rfl⟩ hor
        | odd v =>
          rcases ho with h | ⟨t', x, h, h1, h2, h3, h4, h5, h6, h7, h8⟩
          · subst h; exact as_nil_Or _ _
          · subst h; exact as_no_Or _ h5 _ _ _
        | _ => exact as_no_Or _ (by decide) _ _ _
      have hown : o.ownL = [] := by
        cases o <;> first | rfl | exact absurd ⟨_, _, _, rfl⟩ hor
      have HOWN := Lib.hid hown
      clear hor hown
      skip
      go_enter Tryz.func133, Tryz.ntmps133
      skip
      go_wp2_with fail
      refine (hkd.out _).mono ?_
      intro e w4 hr
      obtain ⟨A, c, rfl, hrow, hb4, hnc⟩ := hr.open_
      clear hr
      go_wp2_with fail
      skip
      have hB4 : Below w.heap.size w w4 := by
        repeat (first | exact bl_refl _ | refine bl_alloc ?_ _ | refine bl_drew ?_ | refine bl_drewN ?_ _ | refine bl_step (by assumption) ?_)
      go_loopw [3, 22] (fun v i wr => ∃ k : Nat, k ≤ o.kids.length ∧ i = .int .i64 k ∧ Own w wr 9 1 v (catF o.ownL ((o.kids.map Tm.labels).take k)).length (strs (catF o.ownL ((o.kids.map Tm.labels).take k))) ∧ Below w.heap.size w wr ∧ RowAt 30 wr A (Tm.vals o.kids)) (fun _ i _ => o.kids.length - (intOf i).toNat)
      case atStart => exact ⟨0, Nat.zero_le _, rfl, (by rw [HOWN.out]; exact Own.nil _ _ _ _), hB4, hrow⟩
      case round =>
        clear hrow
        obtain ⟨k, hk, rfl, HO, HB, hrow⟩ := hrel
        have hlm := catF_take_le o.ownL (o.kids.map Tm.labels) k
        rw [HCAT.out] at hlm
        by_cases hlt : k < o.kids.length
        · obtain ⟨ad, e1, hcell⟩ := hrow.rd k (o.kids[k].val) (by simp [Tm.vals, hlt])
          have hrow := Lib.hid hrow
          subst e1
          have hmem := List.getElem_mem hlt
          have hkm' := hkm.out _ hmem
          have hih := Lib.hid (ih o.kids[k] (by omega) (by omega) (hko.out _ hmem))
          have d1 := (o.kids[k]).labels_meas
          have HT := Lib.hid (take_snoc' (o.kids.map Tm.labels) k (by simpa using hlt))
          simp only [List.getElem_map] at HT
          generalize o.kids[k] = y at *
          generalize (o.kids.map Tm.labels).take k = L at *
          generalize hCL : catF o.ownL L = cl at *
          have H5 := Lib.hid hCL
          generalize hyl : y.labels = yl at *
          have H6 := Lib.hid hyl
          have hll := strs_length cl
          clear hCL hyl hmem
          obtain ⟨A0, c0, rfl, _, hc0, _⟩ := HO.read
          go_wp2_with fail
          refine (hih.out _).mono ?_
          intro e w5 hq
          obtain ⟨v5, rfl, HO5, HB5⟩ := hq
          have HOk := HO.below HB5
          have HBk := bl_step HB5 HB
          have hrow5 := hrow.out.below HB5
          obtain ⟨A5, c5, rfl, hrd5, _, hl5⟩ := HO5.read
          clear HO HO5
          go_wp2_with (at_builtin; refine append_any (w0 := w) rfl _ _ 54 9 _ 1 16 rfl Tryz.underlying54 info_str rfl (by decide) _ _ _ A5 _ c5 (strs yl) HOk HBk hrd5 rfl rfl (by omega) (strs_one yl) (by omega) (by omega) ?_; intro v6 w6 HO6 HB6 HG6)
          have hrow6 := hrow5.grown HG6 (fun g cs hb => HOk.ne_blk hb (by decide))
          go_roundw
          case rel =>
            refine ⟨k + 1, by omega, by go_num, ?_, HB6, hrow6⟩
            rw [HT.out, catF_snoc, H5.out, strs_append, List.length_append]
            exact HO6
          case measure => simp [intOf]; omega
        · obtain rfl : k = o.kids.length := by omega
          clear hlt
          have t1 := List.take_of_length_le (l := o.kids.map Tm.labels) (i := o.kids.length) (by simp)
          rw [t1, HCAT.out] at HO
          clear t1
          go_wp2
          go_ret
          exact ⟨_, rfl, HO, HB⟩
def strAt (l : List ByteArray) (j : Nat) : ByteArray := l.getD j ⟨#[]⟩
theorem strAt_val (l : List ByteArray) (j : Nat) (h : j < l.length) : (strs l)[j]? = some (.string (strAt l j)) := by
  rw [strs_get l j h]; simp [strAt, h]
def eqTo (l : List ByteArray) (s : ByteArray) (j : Nat) : Bool := s.toList == (strAt l j).toList
set_option maxRecDepth 100000 in
set_option maxHeartbeats 1000000 in
theorem sindex_calls (A : Option Addr) (n c : Nat) (l : List ByteArray) (s : ByteArray) (hx : n ≤ l.length) (w : World) (hr : Rd w A (strs l)) (hn : n ≤ 140737488355328) :
    Calls Tryz.prog 151 #[.slice A n c, .string s] w (RetIdx w (eqTo l s) n) := by
  have HR := Lib.hid hr
  clear hr
  go_enter Tryz.func151, Tryz.ntmps151
  go_wp2
  go_loopw [8] (fun i wr => ∃ k : Nat, k ≤ n ∧ i = .int .i64 k ∧ Hid (∀ j, j < k → eqTo l s j = false) ∧ Below w.heap.size w wr) (fun i _ => n - (intOf i).toNat)
  case atStart => exact ⟨0, Nat.zero_le _, rfl, Lib.hid (fun j hj => by omega), bl_refl w⟩
  case round =>
    obtain ⟨k, hk, rfl, hno, hb⟩ := hrel
    by_cases hlt : k < n
    · have hxk := strAt_val l k (by omega)
      obtain ⟨ad, rfl, hcell⟩ := HR.out k _ hxk
      have hc2 := cell_below hb hcell
      clear hxk hcell
      have HV : Hid (eqTo l s k = (s.toList == (strAt l k).toList)) := rfl
      generalize strAt l k = x at *
      cases hpv : (s.toList == x.toList) with
      | true =>
        have HP := Lib.hid hpv
        go_wp2
        go_ret
        exact RetIdx.yes hlt (HV.out.trans HP.out) hno.out hb
      | false =>
        have HP := Lib.hid hpv
        go_wp2
        go_roundw
        case rel =>
          refine ⟨k + 1, by omega, by go_num, Lib.hid (fun j hj => ?_), hb⟩
          by_cases e : j = k
          · subst e; exact HV.out.trans HP.out
          · exact hno.out j (by omega)
        case measure => simp [intOf]; omega
    · obtain rfl : k = n := by omega
      go_wp2
      go_ret
      exact RetIdx.no hno.out hb
set_option maxRecDepth 100000 in
set_option maxHeartbeats 1000000 in
theorem scontains_calls (A : Option Addr) (n c : Nat) (l : List ByteArray) (s : ByteArray) (hx : n ≤ l.length) (w : World) (hr : Rd w A (strs l)) (hn : n ≤ 140737488355328) :
    Calls Tryz.prog 134 #[.slice A n c, .string s] w fun e w' => e = .returned (.bool (anyTo (eqTo l s) n)) ∧ Below w.heap.size w w' := by
  have hi := sindex_calls A n c l s hx w hr hn
  have HI := Lib.hid hi
  clear hr hi hx
  go_enter Tryz.func134, Tryz.ntmps134
  go_wp2_with (refine HI.out.mono ?_; intro e w1 hq; obtain ⟨r, rfl, h0, h1, h2, hb⟩ := hq)
  have H1 := Lib.hid h1; have H2 := Lib.hid h2
  clear h1 h2 HI
  by_cases hr : 0 ≤ r
  · go_wp2
    go_ret
    obtain ⟨j, hj, _, hpj, _⟩ := H2.out hr
    refine ⟨ret_boolS ?_, hb⟩
    rw [anyTo_true hj hpj]
    simpa using hr
  · go_wp2
    go_ret
    refine ⟨ret_boolS ?_, hb⟩
    rw [H1.out (by omega)]
    simpa using hr
end Go.Proofs.YtnekcijganhknaaGreatDoor
namespace Go.Proofs.YtnekcijganhknaaGreatDoor
open Go.RowKit
set_option linter.unusedVariables false
set_option linter.unusedSimpArgs false

/-- Is a text there twice? -/
def dupL (l : List ByteArray) : Bool := anyTo (fun i => anyTo (eqTo l (strAt l i)) i) l.length
def Tm.check (t : Tm) : Int := if t.form then (if 60 < t.nodes ∨ 12 < t.deep then 5 else if dupL t.labels then 4 else 0) else 2
set_option maxRecDepth 100000 in
set_option maxHeartbeats 1000000 in
theorem tcheck_calls (o : Tm) (ho : o.ok) (hm : o.meas ≤ 1099511627776) (w : World) :
    Calls Tryz.prog 117 #[o.val] w fun e w' => e = .returned (.int .i64 o.check) ∧ Below w.heap.size w w' := by
  have hf := tform_calls _ o (Nat.le_refl _) (by omega) ho
  have hs := tsize_calls _ o (Nat.le_refl _) ho (by omega)
  have hl := labels_calls _ o (Nat.le_refl _) hm ho
  have hc : Hid (o.check = if o.form then (if 60 < o.nodes ∨ 12 < o.deep then 5 else if dupL o.labels then 4 else 0) else 2) := rfl
  have hb0 := bl_refl w
  cases hfo : o.form with
  | false =>
    rw [hfo] at hf hc
    have HC := Lib.hid hc.out
    clear hfo hc
    go_enter Tryz.func117, Tryz.ntmps117
    go_wp2_with fail
    refine (hf _).mono ?_
    rintro e w1 ⟨rfl, hb1⟩
    go_wp2_with fail
    go_ret
    exact ⟨by rw [HC.out]; rfl, hb1⟩
  | true =>
    rw [hfo] at hf hc
    have HC := Lib.hid hc.out
    clear hfo hc
    by_cases hsz : 60 < o.nodes ∨ 12 < o.deep
    · have HSZ := Lib.hid hsz
      clear hsz
      go_enter Tryz.func117, Tryz.ntmps117
      go_wp2_with fail
      refine (hf _).mono ?_
      rintro e w1 ⟨rfl, hb1⟩
      go_wp2_with fail
      refine (hs _).mono ?_
      rintro e w2 ⟨rfl, hb2⟩
      by_cases h60 : 60 < o.nodes
      · go_wp2_with fail
        go_ret
        refine ⟨ret_int ?_, bl_step hb2 hb1⟩
        simp only [HC.out, if_true]; rw [if_pos HSZ.out]
      · have h12 : 12 < o.deep := by have := HSZ.out; omega
        go_wp2_with fail
        go_ret
        refine ⟨ret_int ?_, bl_step hb2 hb1⟩
        simp only [HC.out, if_true]; rw [if_pos HSZ.out]
    · have h60 : o.nodes ≤ 60 := by omega
      have h12 : o.deep ≤ 12 := by omega
      have HSZ := Lib.hid hsz
      have hlm := o.labels_meas
      clear hsz
      go_enter Tryz.func117, Tryz.ntmps117
      go_wp2_with fail
      refine (hf _).mono ?_
      rintro e w1 ⟨rfl, hb1⟩
      go_wp2_with fail
      refine (hs _).mono ?_
      rintro e w2 ⟨rfl, hb2⟩
      go_wp2_with fail
      refine (hl _).mono ?_
      intro e w3 hq; obtain ⟨v, rfl, HO, hb3⟩ := hq
      obtain ⟨A, c, rfl, hrd, hnc, _⟩ := HO.read
      have hb : Below w.heap.size w w3 := by
        repeat (first | exact bl_refl _ | refine bl_alloc ?_ _ | refine bl_drew ?_ | refine bl_drewN ?_ _ | refine bl_step (by assumption) ?_)
      have HRD := Lib.hid hrd
      clear hrd HO hb1 hb2 hb3
      go_wp2_with fail
      go_loopw [26] (fun i wr => ∃ k : Nat, k ≤ o.labels.length ∧ i = .int .i64 k ∧ Hid (∀ j, j < k → anyTo (eqTo o.labels (strAt o.labels j)) j = false) ∧ Below w3.heap.size w3 wr) (fun i _ => o.labels.length - (intOf i).toNat)
      case atStart => exact ⟨0, Nat.zero_le _, rfl, Lib.hid (fun j hj => by omega), bl_refl w3⟩
      case round =>
        obtain ⟨k, hk, rfl, hno, hbk⟩ := hrel
        have HBK := Lib.hid (bl_step hbk hb)
        by_cases hlt : k < o.labels.length
        · have hxk := strAt_val o.labels k hlt
          obtain ⟨ad, rfl, hcell⟩ := HRD.out k _ hxk
          have hc2 := cell_below hbk hcell
          have hct := Lib.hid (fun c' => scontains_calls (some ad) k c' o.labels (strAt o.labels k) (by omega) wr (HRD.out.below hbk) (by omega))
          have hkc : k ≤ c := by omega
          clear hxk hcell
          have HV : Hid (anyTo (eqTo o.labels (strAt o.labels k)) k = anyTo (eqTo o.labels (strAt o.labels k)) k) := rfl
          generalize hz : anyTo (eqTo o.labels (strAt o.labels k)) k = z at *
          have HZ := Lib.hid hz
          clear hz
          generalize hxx : strAt o.labels k = x at *
          have HXX := Lib.hid hxx
          clear hxx
          cases z with
          | true =>
            go_wp2_with fail
            refine (hct.out _).mono ?_
            rintro e w5 ⟨rfl, hb5⟩
            go_wp2_with fail
            go_ret
            refine ⟨ret_int ?_, bl_step hb5 HBK.out⟩
            simp only [HC.out, if_true]; rw [if_neg HSZ.out, if_pos]
            have hz := HZ.out
            rw [← HXX.out] at hz
            exact anyTo_true hlt hz
          | false =>
            go_wp2_with fail
            refine (hct.out _).mono ?_
            rintro e w5 ⟨rfl, hb5⟩
            go_wp2_with fail
            go_roundw
            case rel =>
              refine ⟨k + 1, by omega, by go_num, Lib.hid (fun j hj => ?_), bl_step hb5 hbk⟩
              by_cases e : j = k
              · subst e
                have hz := HZ.out
                rw [← HXX.out] at hz
                exact hz
              · exact hno.out j (by omega)
            case measure => simp [intOf]; omega
        · obtain rfl : k = o.labels.length := by omega
          go_wp2_with fail
          go_ret
          refine ⟨ret_int ?_, HBK.out⟩
          simp only [HC.out, if_true]; rw [if_neg HSZ.out, if_neg]
          unfold dupL
          rw [anyTo_false hno.out]; simp

theorem hcall_tsame (args : Array Value) (W : World) : (callFunc 59 args).run Tryz.prog W = .ok (.enter 59 args) W := by kernel_rfl
def Tm.same : Tm → Tm → Bool
  | .zero, .zero => true
  | .one s, .one t => s.toList == t.toList
  | .give t, .give t' => t.same t'
  | .and l r, .and l' r' => l.same l' && r.same r'
  | .or s l r, .or s' l' r' => s.toList == s'.toList && (l.same l' && r.same r')
  | .scale o t, .scale o' t' => o.same o' && t.same t'
  | .when_ n t, .when_ n' t' => n == n' && t.same t'
  | .if_ o l r, .if_ o' l' r' => o.same o' && (l.same l' && r.same r')
  | _, _ => false
def tkidSame (o p : Tm) (j : Nat) : Bool := match o.kids[j]?, p.kids[j]? with | some k, some l => k.same l | _, _ => false
def numSame : Option Ob → Option Ob → Bool
  | some a, some b => a.same b
  | none, none => true
  | _, _ => false
theorem toList_nil (s : ByteArray) : True := trivial
theorem Tm.same_parts (o p : Tm) (h : o.kind = p.kind) (h0 : o.kind ≠ 0) : o.same p = (o.ownS.toList == p.ownS.toList && (o.ownN == p.ownN && (numSame o.num p.num && allTo (tkidSame o p) o.kids.length))) ∧ o.kids.length = p.kids.length ∧ o.num.isSome = p.num.isSome := by
  cases o <;> cases p <;> simp_all [Tm.kind, Tm.same, Tm.ownS, Tm.ownN, Tm.num, numSame, allTo, tkidSame, Tm.kids, List.range_succ]
set_option maxRecDepth 100000 in
set_option maxHeartbeats 4000000 in
theorem tsame_calls (B : Nat) : ∀ (o p : Tm), o.meas ≤ B → o.ok → p.ok → ∀ w : World,
    Calls Tryz.prog 59 #[o.val, p.val] w fun e w' => e = .returned (.bool (o.same p)) ∧ Below w.heap.size w w' := by
  induction B with
  | zero => intro o p h; cases o <;> simp [Tm.meas] at h
  | succ B ih =>
    intro o p hm ho hp w
    have hb0 := bl_refl w
    have hk1 := tkind_calls o ho
    have hk2 := tkind_calls p hp
    have ho1 := town_calls o ho
    have ho2 := town_calls p hp
    have hn1 := tnumber_calls o ho
    have hn2 := tnumber_calls p hp
    have hkd1 := term_kids o ho
    have hkd2 := term_kids p hp
    have hp2 : ∀ W, Pred2On 59 W (Tm.vals o.kids) (Tm.vals p.kids) (tkidSame o p) := by
      intro W j x y hx hy W' _
      unfold Tm.vals at hx hy
      rw [List.getElem?_map] at hx hy
      obtain ⟨k, hk, rfl⟩ := Option.map_eq_some_iff.1 hx
      obtain ⟨l, hl, rfl⟩ := Option.map_eq_some_iff.1 hy
      have hmem := List.mem_of_getElem? hk
      have h1 := ih k l (by have := o.kid_meas k hmem; omega) (o.kid_ok ho k hmem) (p.kid_ok hp l (List.mem_of_getElem? hl)) W'
      have h2 : tkidSame o p j = k.same l := by unfold tkidSame; rw [hk, hl]
      rw [h2]
      exact h1
    have HP2 := Lib.hid hp2
    have hlen := o.kids_len
    clear hp2
    by_cases hk : o.kind = 0 ∨ o.kind ≠ p.kind
    · have hs : o.same p = false := by
        cases o <;> cases p <;> simp_all [Tm.kind, Tm.same]
      have HS := Lib.hid hs
      clear hs ih ho1 ho2 hn1 hn2 hkd1 hkd2
      generalize o.kind = a at *
      generalize p.kind = b at *
      by_cases h0 : a = 0
      · subst h0
        clear hk
        go_enter Tryz.func59, Tryz.ntmps59
        go_wp2_with fail
        refine (hk1 _).mono ?_
        rintro e w1 ⟨rfl, hb1⟩
        go_wp2_with fail
        go_ret
        exact ⟨ret_bool HS.out.symm, hb1⟩
      · have h1 : (a == 0) = false := by simp [h0]
        have h2 : (a != b) = true := by simp; omega
        clear hk h0
        go_enter Tryz.func59, Tryz.ntmps59
        go_wp2_with fail
        refine (hk1 _).mono ?_
        rintro e w1 ⟨rfl, hb1⟩
        go_wp2_with fail
        refine (hk1 _).mono ?_
        rintro e w2 ⟨rfl, hb2⟩
        go_wp2_with fail
        refine (hk2 _).mono ?_
        rintro e w3 ⟨rfl, hb3⟩
        go_wp2_with fail
        go_ret
        refine ⟨ret_bool HS.out.symm, ?_⟩
        repeat (first | exact bl_refl _ | refine bl_alloc ?_ _ | refine bl_drew ?_ | refine bl_drewN ?_ _ | refine bl_step (by assumption) ?_)
    · have hk0 : o.kind ≠ 0 := fun h => hk (.inl h)
      have hkk : o.kind = p.kind := by
        by_cases h : o.kind = p.kind
        · exact h
        · exact absurd (.inr h) hk
      obtain ⟨hs, hl, hns⟩ := o.same_parts p hkk hk0
      have HS := Lib.hid hs
      have HL := Lib.hid hl
      rw [← hkk] at hk2
      rw [← hns] at hn2
      have h1 : (o.kind == 0) = false := by simp [hk0]
      clear hk hk0 hkk hs hl ih
      generalize o.kind = kk at *
      generalize o.ownS = s1 at *
      generalize p.ownS = s2 at *
      generalize o.ownN = n1 at *
      generalize p.ownN = n2 at *
      go_enter Tryz.func59, Tryz.ntmps59
      go_wp2_with fail
      refine (hk1 _).mono ?_
      rintro e w1 ⟨rfl, hb1⟩
      go_wp2_with fail
      refine (hk1 _).mono ?_
      rintro e w2 ⟨rfl, hb2⟩
      go_wp2_with fail
      refine (hk2 _).mono ?_
      rintro e w3 ⟨rfl, hb3⟩
      go_wp2_with fail
      refine (ho1 _).mono ?_
      rintro e w4 ⟨rfl, hb4⟩
      go_wp2_with fail
      refine (ho2 _).mono ?_
      rintro e w5 ⟨rfl, hb5⟩
      cases hs : (s1.toList == s2.toList) with
      | false =>
        have hs' : (s1.toList != s2.toList) = true := by simp [bne, hs]
        have HX := Lib.hid hs
        go_wp2_with fail
        go_ret
        refine ⟨ret_bool ?_, ?_⟩
        · rw [HS.out, HX.out]; rfl
        repeat (first | exact bl_refl _ | refine bl_alloc ?_ _ | refine bl_drew ?_ | refine bl_drewN ?_ _ | refine bl_step (by assumption) ?_)
      | true =>
        have hs' : (s1.toList != s2.toList) = false := by simp [bne, hs]
        have HX := Lib.hid hs
        cases hn : (n1 == n2) with
        | false =>
          have hn' : (n1 != n2) = true := by simp [bne, hn]
          have HY := Lib.hid hn
          go_wp2_with fail
          go_ret
          refine ⟨ret_bool ?_, ?_⟩
          · rw [HS.out, HX.out, HY.out]; rfl
          repeat (first | exact bl_refl _ | refine bl_alloc ?_ _ | refine bl_drew ?_ | refine bl_drewN ?_ _ | refine bl_step (by assumption) ?_)
        | true =>
          have hn' : (n1 != n2) = false := by simp [bne, hn]
          have HY := Lib.hid hn
          cases hq1 : o.num with
          | none =>
            cases hq2 : p.num with
            | some q => rw [hq1, hq2] at hns; cases hns
            | none =>
              rw [hq1] at HS hn1 hn2
              rw [hq2] at HS hn2
              simp only [numSame, numV, Option.isSome, Bool.true_and] at HS hn1 hn2
              have HN1 := Lib.hid hn1
              clear hq1 hq2 hns hn1 hn2
              go_wp2_with fail
              refine (HN1.out _).mono ?_
              rintro e w6 ⟨rfl, hb6⟩
              go_wp2_with fail
              refine (hkd1 _).mono ?_
              intro e w13 hr; obtain ⟨A, c, rfl, hrd, hb13, hnc⟩ := hr.open_; clear hr
              have HR1 := Lib.hid hrd
              clear hrd
              go_wp2_with fail
              refine (hkd2 _).mono ?_
              intro e w14 hr; obtain ⟨A', c', rfl, hrd, hb14, hnc'⟩ := hr.open_; clear hr
              have HR2 := Lib.hid hrd
              clear hrd
              go_wp2_with fail
              rw [← HL.out]
              refine (term_equal _ hcall_tsame A A' _ c c' _ _ (by simp [Tm.vals]) (by simp [Tm.vals, HL.out]) _ _ (HR1.out.below hb14) HR2.out (by omega) (HP2.out _)).mono ?_
              rintro e w15 ⟨rfl, hb15⟩
              go_wp2_with fail
              go_ret
              refine ⟨ret_bool ?_, ?_⟩
              · rw [HS.out, HX.out, HY.out]; simp
              repeat (first | exact bl_refl _ | refine bl_alloc ?_ _ | refine bl_drew ?_ | refine bl_drewN ?_ _ | refine bl_step (by assumption) ?_)
          | some q =>
            cases hq2 : p.num with
            | none => rw [hq1, hq2] at hns; cases hns
            | some q2 =>
              have hoq := same_calls _ q q2 (Nat.le_refl _) (o.num_ok ho q hq1) (p.num_ok hp q2 hq2)
              rw [hq1] at HS hn1 hn2
              rw [hq2] at HS hn2
              simp only [numSame, numV, Option.isSome, Bool.true_and] at HS hn1 hn2
              have HN1 := Lib.hid hn1
              have HN2 := Lib.hid hn2
              clear hq1 hq2 hns hn1 hn2
              generalize q.same q2 = z at *
              have HOQ := Lib.hid hoq
              clear hoq
              cases z with
              | false =>
                go_wp2_with fail
                refine (HN1.out _).mono ?_
                rintro e w6 ⟨rfl, hb6⟩
                go_wp2_with fail
                refine (HN2.out _).mono ?_
                rintro e w7 ⟨rfl, hb7⟩
                go_wp2_with fail
                refine (HOQ.out _).mono ?_
                rintro e w8 ⟨rfl, hb8⟩
                go_wp2_with fail
                go_ret
                refine ⟨ret_bool ?_, ?_⟩
                · rw [HS.out, HX.out, HY.out]; rfl
                repeat (first | exact bl_refl _ | refine bl_alloc ?_ _ | refine bl_drew ?_ | refine bl_drewN ?_ _ | refine bl_step (by assumption) ?_)
              | true =>
                go_wp2_with fail
                refine (HN1.out _).mono ?_
                rintro e w6 ⟨rfl, hb6⟩
                go_wp2_with fail
                refine (HN2.out _).mono ?_
                rintro e w7 ⟨rfl, hb7⟩
                go_wp2_with fail
                refine (HOQ.out _).mono ?_
                rintro e w8 ⟨rfl, hb8⟩
                go_wp2_with fail
                refine (hkd1 _).mono ?_
                intro e w13 hr; obtain ⟨A, c, rfl, hrd, hb13, hnc⟩ := hr.open_; clear hr
                have HR1 := Lib.hid hrd
                clear hrd
                go_wp2_with fail
                refine (hkd2 _).mono ?_
                intro e w14 hr; obtain ⟨A', c', rfl, hrd, hb14, hnc'⟩ := hr.open_; clear hr
                have HR2 := Lib.hid hrd
                clear hrd
                go_wp2_with fail
                rw [← HL.out]
                refine (term_equal _ hcall_tsame A A' _ c c' _ _ (by simp [Tm.vals]) (by simp [Tm.vals, HL.out]) _ _ (HR1.out.below hb14) HR2.out (by omega) (HP2.out _)).mono ?_
                rintro e w15 ⟨rfl, hb15⟩
                go_wp2_with fail
                go_ret
                refine ⟨ret_bool ?_, ?_⟩
                · rw [HS.out, HX.out, HY.out]; simp
                repeat (first | exact bl_refl _ | refine bl_alloc ?_ _ | refine bl_drew ?_ | refine bl_drewN ?_ _ | refine bl_step (by assumption) ?_)
end Go.Proofs.YtnekcijganhknaaGreatDoor
