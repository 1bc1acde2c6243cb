/- Whether a number is of its form; whether two are made alike; whether one may be. -/
import Derived.Test.YtnekcijganhknaaGreatDoorTreeG
import Derived.Test.YtnekcijganhknaaGreatDoorRd
import Derived.Laws.StructEq
namespace Go.Proofs.YtnekcijganhknaaGreatDoor
open Go.RowKit
set_option linter.unusedVariables false
set_option linter.unusedSimpArgs false

/-- An interface value. -/
def IsI (x : Value) : Prop := x = .nilIface ∨ ∃ t a, x = .iface t a
theorem Ob.isI (o : Ob) (h : o.ok) : IsI o.val := o.shape h
theorem Tm.isI (o : Tm) (h : o.ok) : IsI o.val := o.shape h
/-- A slice literal under a name of its own, so that the walk does not lay it open. -/
def bsN (t : TypeId) (n : Nat) (parts : Array (Nat × Value)) : Sem Value := Instr.buildSlice t n parts
theorem bs_obs (n : Nat) (parts : Array (Nat × Value)) : Instr.buildSlice 230 n parts = bsN 230 n parts := rfl
theorem run_bs1_obs (x : Value) (hx : IsI x) (W : World) : (bsN 230 1 #[(0, x)]).run Tryz.prog W = .ok (.slice (some ⟨W.heap.size, 0, none⟩) 1 1) (W.alloc (.cells #[x] 29)) := by
  rcases hx with rfl | ⟨_, _, rfl⟩ <;> kernel_rfl
theorem run_bs2_obs (x y : Value) (hx : IsI x) (hy : IsI y) (W : World) : (bsN 230 2 #[(0, x), (1, y)]).run Tryz.prog W = .ok (.slice (some ⟨W.heap.size, 0, none⟩) 2 2) (W.alloc (.cells #[x, y] 29)) := by
  rcases hx with rfl | ⟨_, _, rfl⟩ <;> rcases hy with rfl | ⟨_, _, rfl⟩ <;> kernel_rfl
attribute [go_sem ↓] bs_obs
attribute [go_sem] run_bs1_obs run_bs2_obs

theorem Rd_new (W : World) (cs : Array Value) (t : TypeId) (g : Nat) (xs : List Value) (hx : cs.toList = xs) (hg : g = W.heap.size) : Rd (W.alloc (.cells cs t)) (some ⟨g, 0, none⟩) xs := by
  subst hx hg; exact (Blk.new W cs t).rd
/-- It returns a slice that reads so. -/
def RetRd (w : World) (n : Nat) (xs : List Value) (en : Ending) (w' : World) : Prop := ∃ A c, en = .returned (.slice A n c) ∧ Rd w' A xs ∧ Below w.heap.size w w' ∧ n ≤ c
def Ob.vals (l : List Ob) : List Value := l.map Ob.val

set_option maxRecDepth 100000 in
set_option maxHeartbeats 1000000 in
theorem obs_kids (o : Ob) (ho : o.ok) (w : World) :
    Calls Tryz.prog 125 #[o.val] w (RetRd w o.kids.length (Ob.vals o.kids)) := by
  have nilcase : ∀ w', Below w.heap.size w w' → RetRd w 0 [] (.returned (.slice none 0 0)) w' := fun w' hb => ⟨none, 0, rfl, Rd.nil _ _, hb, Nat.le_refl _⟩
  cases o with
  | odd v =>
    rcases ho with h | ⟨t, x, h, h1, h2, h3, h4, h5, h6⟩
    · subst h
      unfold Ob.val
      go_enter Tryz.func125, Tryz.ntmps125
      go_wp2
      go_ret
      refine nilcase _ ?_
      repeat (first | exact bl_refl _ | refine bl_alloc ?_ _ | refine bl_drew ?_ | refine bl_drewN ?_ _ | refine bl_step (by assumption) ?_)
    · subst h
      unfold Ob.val
      go_enter Tryz.func125, Tryz.ntmps125
      go_wp2
      go_ret
      refine nilcase _ ?_
      repeat (first | exact bl_refl _ | refine bl_alloc ?_ _ | refine bl_drew ?_ | refine bl_drewN ?_ _ | refine bl_step (by assumption) ?_)
  | const n =>
    unfold Ob.val
    go_enter Tryz.func125, Tryz.ntmps125
    go_wp2
    go_ret
    refine nilcase _ ?_
    repeat (first | exact bl_refl _ | refine bl_alloc ?_ _ | refine bl_drew ?_ | refine bl_drewN ?_ _ | refine bl_step (by assumption) ?_)
  | fix s =>
    unfold Ob.val
    go_enter Tryz.func125, Tryz.ntmps125
    go_wp2
    go_ret
    refine nilcase _ ?_
    repeat (first | exact bl_refl _ | refine bl_alloc ?_ _ | refine bl_drew ?_ | refine bl_drewN ?_ _ | refine bl_step (by assumption) ?_)
  | neg o =>
    have ho' : o.ok := ho
    have hb := o.isI ho'
    unfold Ob.val
    go_enter Tryz.func125, Tryz.ntmps125
    go_wp2
    go_ret
    refine ⟨_, _, rfl, Rd_new _ _ _ _ _ rfl (by simp), ?_, Nat.le_refl _⟩
    repeat (first | exact bl_refl _ | refine bl_alloc ?_ _ | refine bl_drew ?_ | refine bl_drewN ?_ _ | refine bl_step (by assumption) ?_)
  | add l r =>
    obtain ⟨hl, hr⟩ : l.ok ∧ r.ok := ho
    have hb := l.isI hl
    have hc := r.isI hr
    unfold Ob.val
    go_enter Tryz.func125, Tryz.ntmps125
    go_wp2
    go_ret
    refine ⟨_, _, rfl, Rd_new _ _ _ _ _ rfl (by simp), ?_, Nat.le_refl _⟩
    repeat (first | exact bl_refl _ | refine bl_alloc ?_ _ | refine bl_drew ?_ | refine bl_drewN ?_ _ | refine bl_step (by assumption) ?_)
  | mul l r =>
    obtain ⟨hl, hr⟩ : l.ok ∧ r.ok := ho
    have hb := l.isI hl
    have hc := r.isI hr
    unfold Ob.val
    go_enter Tryz.func125, Tryz.ntmps125
    go_wp2
    go_ret
    refine ⟨_, _, rfl, Rd_new _ _ _ _ _ rfl (by simp), ?_, Nat.le_refl _⟩
    repeat (first | exact bl_refl _ | refine bl_alloc ?_ _ | refine bl_drew ?_ | refine bl_drewN ?_ _ | refine bl_step (by assumption) ?_)
  | max l r =>
    obtain ⟨hl, hr⟩ : l.ok ∧ r.ok := ho
    have hb := l.isI hl
    have hc := r.isI hr
    unfold Ob.val
    go_enter Tryz.func125, Tryz.ntmps125
    go_wp2
    go_ret
    refine ⟨_, _, rfl, Rd_new _ _ _ _ _ rfl (by simp), ?_, Nat.le_refl _⟩
    repeat (first | exact bl_refl _ | refine bl_alloc ?_ _ | refine bl_drew ?_ | refine bl_drewN ?_ _ | refine bl_step (by assumption) ?_)

def validB (n : Int) : Bool := decide (-1000000000000 ≤ n ∧ n ≤ 1000000000000)
theorem valid_calls (n : Int) (w : World) :
    Calls Tryz.prog 63 #[.int .i64 n] w fun e w' => e = .returned (.bool (validB n)) ∧ w' = w := by
  go_enter Tryz.func63, Tryz.ntmps63
  go_wp2
  all_goals go_ret
  all_goals
    refine ⟨ret_bool ?_, rfl⟩
    rw [Bool.eq_iff_iff]
    simp [validB] at *
    try omega
def Ob.leaf : Ob → Bool × Bool
  | .const n => (true, validB n)
  | .fix s => (true, nameB s)
  | _ => (false, false)
def Ob.isOdd : Ob → Bool
  | .odd _ => true
  | _ => false
def pairB (p : Bool × Bool) : Value := .tuple #[.bool p.1, .bool p.2]
set_option maxRecDepth 100000 in
set_option maxHeartbeats 400000 in
theorem leaf_calls (o : Ob) (ho : o.ok) (w : World) :
    Calls Tryz.prog 171 #[o.val] w fun e w' => e = .returned (pairB o.leaf) ∧ Below w.heap.size w w' := by
  cases o with
  | const n =>
    unfold Ob.val
    go_enter Tryz.func171, Tryz.ntmps171
    go_wp2_with (go_at_call 63; refine (valid_calls _ _).mono ?_; rintro e w' ⟨rfl, rfl⟩)
    go_ret2
    refine ⟨rfl, ?_⟩
    repeat (first | exact bl_refl _ | refine bl_alloc ?_ _ | refine bl_drew ?_ | refine bl_drewN ?_ _ | refine bl_step (by assumption) ?_)
  | fix s =>
    unfold Ob.val
    go_enter Tryz.func171, Tryz.ntmps171
    go_wp2_with (go_at_call 61; refine (name_calls _ _).mono ?_; rintro e w1 ⟨rfl, hb1⟩)
    go_ret2
    refine ⟨rfl, ?_⟩
    repeat (first | exact bl_refl _ | refine bl_alloc ?_ _ | refine bl_drew ?_ | refine bl_drewN ?_ _ | refine bl_step (by assumption) ?_)
  | odd v =>
    rcases ho with h | ⟨t, x, h, h1, h2, h3, h4, h5, h6⟩
    all_goals
      subst h
      unfold Ob.val
      go_enter Tryz.func171, Tryz.ntmps171
      go_wp2
      go_ret2
      refine ⟨rfl, ?_⟩
      repeat (first | exact bl_refl _ | refine bl_alloc ?_ _ | refine bl_drew ?_ | refine bl_drewN ?_ _ | refine bl_step (by assumption) ?_)
  | _ =>
    unfold Ob.val
    go_enter Tryz.func171, Tryz.ntmps171
    go_wp2
    go_ret2
    refine ⟨rfl, ?_⟩
    repeat (first | exact bl_refl _ | refine bl_alloc ?_ _ | refine bl_drew ?_ | refine bl_drewN ?_ _ | refine bl_step (by assumption) ?_)
theorem RetRd.open_ {w : World} {n : Nat} {xs : List Value} {en : Ending} {w' : World} (h : RetRd w n xs en w') : ∃ A c, en = .returned (.slice A n c) ∧ Rd w' A xs ∧ Below w.heap.size w w' ∧ n ≤ c := h
theorem Ob.kids_none (o : Ob) : (!o.leaf.1 && decide (o.kids.length = 0)) = o.isOdd := by cases o <;> rfl
set_option maxRecDepth 100000 in
set_option maxHeartbeats 400000 in
theorem none_calls (o : Ob) (ho : o.ok) (w : World) :
    Calls Tryz.prog 160 #[o.val] w fun e w' => e = .returned (.bool o.isOdd) ∧ Below w.heap.size w w' := by
  have hk := o.kids_none
  have HK := Lib.hid hk
  clear hk
  cases hl : o.leaf.1 with
  | true =>
    have hp : pairB o.leaf = .tuple #[.bool true, .bool o.leaf.2] := by unfold pairB; rw [hl]
    have hc := leaf_calls o ho w
    rw [hp] at hc
    have HL := Lib.hid hl
    clear hl hp
    go_enter Tryz.func160, Tryz.ntmps160
    go_wp2_with (go_at_call 171; refine hc.mono ?_; rintro e w1 ⟨rfl, hb1⟩)
    go_ret
    refine ⟨ret_bool ?_, ?_⟩
    · rw [← HK.out, HL.out]; rfl
    repeat (first | exact bl_refl _ | refine bl_alloc ?_ _ | refine bl_drew ?_ | refine bl_drewN ?_ _ | refine bl_step (by assumption) ?_)
  | false =>
    have hp : pairB o.leaf = .tuple #[.bool false, .bool o.leaf.2] := by unfold pairB; rw [hl]
    have hc := leaf_calls o ho w
    rw [hp] at hc
    have HL := Lib.hid hl
    clear hl hp
    go_enter Tryz.func160, Tryz.ntmps160
    go_wp2_with (first | (go_at_call 171; refine hc.mono ?_; rintro e w1 ⟨rfl, hb1⟩) | (go_at_call 125; refine (obs_kids o ho _).mono ?_; intro e w2 hr; obtain ⟨A, c, rfl, hrd, hb2, hnc⟩ := hr.open_; clear hr))
    go_ret
    refine ⟨ret_bool ?_, ?_⟩
    · rw [← HK.out, HL.out, Bool.eq_iff_iff]; simp
    repeat (first | exact bl_refl _ | refine bl_alloc ?_ _ | refine bl_drew ?_ | refine bl_drewN ?_ _ | refine bl_step (by assumption) ?_)
end Go.Proofs.YtnekcijganhknaaGreatDoor
namespace Go.Proofs.YtnekcijganhknaaGreatDoor
open Go.RowKit
set_option linter.unusedVariables false
set_option linter.unusedSimpArgs false

def Ob.nodes : Ob → Nat
  | .odd _ => 0
  | .const _ | .fix _ => 1
  | .add l r | .mul l r | .max l r => l.nodes + r.nodes + 1
  | .neg o => o.nodes + 1
def Ob.deep : Ob → Nat
  | .odd _ => 0
  | .const _ | .fix _ => 1
  | .add l r | .mul l r | .max l r => Nat.max l.deep r.deep + 1
  | .neg o => o.deep + 1
/-- Of each, and of what is none. -/
def Ob.meas : Ob → Nat
  | .odd _ | .const _ | .fix _ => 1
  | .add l r | .mul l r | .max l r => l.meas + r.meas + 1
  | .neg o => o.meas + 1
theorem Ob.kids_len (o : Ob) : o.kids.length ≤ 2 := by cases o <;> simp [Ob.kids]
theorem Ob.kid_meas (o : Ob) : ∀ k ∈ o.kids, k.meas < o.meas := by
  cases o <;> simp [Ob.kids, Ob.meas] <;> omega
theorem Ob.kid_ok (o : Ob) (ho : o.ok) : ∀ k ∈ o.kids, k.ok := by
  cases o <;> simp_all [Ob.kids, Ob.ok]
theorem Ob.nodes_meas : ∀ o : Ob, o.nodes ≤ o.meas
  | .odd _ | .const _ | .fix _ => by simp [Ob.nodes, Ob.meas]
  | .add l r | .mul l r | .max l r => by have := l.nodes_meas; have := r.nodes_meas; simp only [Ob.nodes, Ob.meas]; omega
  | .neg o => by have := o.nodes_meas; simp only [Ob.nodes, Ob.meas]; omega
theorem Ob.deep_meas : ∀ o : Ob, o.deep ≤ o.meas
  | .odd _ | .const _ | .fix _ => by simp [Ob.deep, Ob.meas]
  | .add l r | .mul l r | .max l r => by have := l.deep_meas; have := r.deep_meas; simp only [Ob.deep, Ob.meas, Nat.max_def]; split <;> omega
  | .neg o => by have := o.deep_meas; simp only [Ob.deep, Ob.meas]; omega
def sumN (l : List Nat) : Nat := l.foldl (· + ·) 0
def maxN (l : List Nat) : Nat := l.foldl Nat.max 0
theorem sumN_snoc (l : List Nat) (x : Nat) : sumN (l ++ [x]) = sumN l + x := by simp [sumN]
theorem maxN_snoc (l : List Nat) (x : Nat) : maxN (l ++ [x]) = Nat.max (maxN l) x := by simp [maxN]
theorem take_snoc' {α : Type} (l : List α) (k : Nat) (h : k < l.length) : l.take (k + 1) = l.take k ++ [l[k]] := by
  rw [List.take_succ_eq_append_getElem h]
theorem Ob.kids_sum (o : Ob) (h : o.isOdd = false) : sumN (o.kids.map Ob.nodes) + 1 = o.nodes ∧ maxN (o.kids.map Ob.deep) + 1 = o.deep ∧ sumN (o.kids.map Ob.meas) + 1 ≤ o.meas := by
  cases o <;> simp_all [Ob.kids, sumN, maxN, Ob.nodes, Ob.deep, Ob.meas, Ob.isOdd, Nat.max_def]
theorem sumN_take_le (l : List Nat) (k : Nat) : sumN (l.take k) ≤ sumN l := by
  have h : ∀ (l : List Nat) (a : Nat), l.foldl (· + ·) a = a + l.foldl (· + ·) 0 := by
    intro l
    induction l with
    | nil => intro a; simp
    | cons x l ih => intro a; simp only [List.foldl_cons]; rw [ih (a + x), ih (0 + x)]; omega
  conv => rhs; rw [← List.take_append_drop k l]
  unfold sumN
  rw [List.foldl_append, h (l.drop k)]
  omega
theorem maxN_le (l : List Nat) (b : Nat) (h : ∀ x ∈ l, x ≤ b) : maxN l ≤ b := by
  have g : ∀ (l : List Nat) (a : Nat), a ≤ b → (∀ x ∈ l, x ≤ b) → l.foldl Nat.max a ≤ b := by
    intro l
    induction l with
    | nil => intro a ha _; exact ha
    | cons x l ih =>
      intro a ha hx
      simp only [List.foldl_cons]
      refine ih _ ?_ (fun y hy => hx y (List.mem_cons_of_mem _ hy))
      have := hx x (List.mem_cons_self ..)
      simp only [Nat.max_def]; split <;> omega
  exact g l 0 (Nat.zero_le _) h

theorem odd_kids (o : Ob) (h : o.isOdd = true) : o.nodes = 0 ∧ o.deep = 0 := by cases o <;> simp_all [Ob.isOdd, Ob.nodes, Ob.deep]
set_option maxRecDepth 100000 in
set_option maxHeartbeats 1000000 in
theorem size_calls (B : Nat) : ∀ (o : Ob), o.meas ≤ B → o.ok → B ≤ 4611686018427387904 → ∀ w : World,
    Calls Tryz.prog 150 #[o.val] w fun e w' => e = .returned (.tuple #[.int .i64 o.nodes, .int .i64 o.deep]) ∧ Below w.heap.size w w' := by
  induction B with
  | zero => intro o h; cases o <;> simp [Ob.meas] at h
  | succ B ih =>
    intro o hm ho hB w
    cases hodd : o.isOdd with
    | true =>
      have hn := none_calls o ho w
      rw [hodd] at hn
      obtain ⟨h1, h2⟩ := odd_kids o hodd
      have H1 := Lib.hid h1; have H2 := Lib.hid h2
      clear hodd h1 h2
      go_enter Tryz.func150, Tryz.ntmps150
      go_wp2_with (go_at_call 160; refine hn.mono ?_; rintro e w1 ⟨rfl, hb1⟩)
      go_ret2
      refine ⟨by rw [H1.out, H2.out]; rfl, ?_⟩
      repeat (first | exact bl_refl _ | refine bl_alloc ?_ _ | refine bl_drew ?_ | refine bl_drewN ?_ _ | refine bl_step (by assumption) ?_)
    | false =>
      have hn := none_calls o ho w
      rw [hodd] at hn
      obtain ⟨h1, h2, h3⟩ := o.kids_sum hodd
      have HS := Lib.hid h1; have HD := Lib.hid h2
      have hkm := Lib.hid (o.kid_meas); have hko := Lib.hid (o.kid_ok ho)
      have hmn := o.nodes_meas
      have hmd := o.deep_meas
      clear hodd h1 h2 h3
      go_enter Tryz.func150, Tryz.ntmps150
      go_wp2_with (first | (go_at_call 160; refine hn.mono ?_; rintro e w1 ⟨rfl, hb1⟩) | (go_at_call 125; refine (obs_kids o ho _).mono ?_; intro e w2 hr; obtain ⟨A, c, rfl, hrd, hb2, hnc⟩ := hr.open_; clear hr))
      have hb : Below w.heap.size w w2 := by
        repeat (first | exact bl_refl _ | refine bl_alloc ?_ _ | refine bl_drew ?_ | refine bl_drewN ?_ _ | refine bl_step (by assumption) ?_)
      have HRD := Lib.hid hrd
      clear hrd hb1 hb2 hn
      go_loopw [2, 3, 13] (fun n d i wr => ∃ k : Nat, k ≤ o.kids.length ∧ i = .int .i64 k ∧ n = .int .i64 (sumN ((o.kids.map Ob.nodes).take k) : Nat) ∧ d = .int .i64 (maxN ((o.kids.map Ob.deep).take k) : Nat) ∧ Below w2.heap.size w2 wr) (fun _ _ i _ => o.kids.length - (intOf i).toNat)
      case atStart => exact ⟨0, Nat.zero_le _, rfl, rfl, rfl, bl_refl w2⟩
      case round =>
        obtain ⟨k, hk, rfl, rfl, rfl, hbk⟩ := hrel
        have e1 := sumN_take_le (o.kids.map Ob.nodes) k
        have e2 := maxN_le ((o.kids.map Ob.deep).take k) (B + 1) (fun x hx => by
          obtain ⟨y, hy, rfl⟩ := List.mem_map.1 (List.mem_of_mem_take hx)
          have := y.deep_meas; have := hkm.out y hy; omega)
        have e3 : sumN (o.kids.map Ob.nodes) ≤ B := by have := HS.out; omega
        have hlen := o.kids_len
        have HB2 := Lib.hid (bl_step hbk hb)
        by_cases hlt : k < o.kids.length
        · obtain ⟨ad, rfl, hcell⟩ := HRD.out k (o.kids[k].val) (by simp [Ob.vals, hlt])
          have hc2 := cell_below hbk hcell
          have hmem := List.getElem_mem hlt
          have hkm' := hkm.out _ hmem
          have hih := ih o.kids[k] (by omega) (hko.out _ hmem) (by omega)
          have d1 := (o.kids[k]).nodes_meas
          have d2 := (o.kids[k]).deep_meas
          have e4 := sumN_take_le (o.kids.map Ob.nodes) (k + 1)
          rw [take_snoc' _ k (by simpa using hlt), sumN_snoc, List.getElem_map] at e4
          have HT1 := Lib.hid (take_snoc' (o.kids.map Ob.nodes) k (by simpa using hlt))
          have HT2 := Lib.hid (take_snoc' (o.kids.map Ob.deep) k (by simpa using hlt))
          simp only [List.getElem_map] at HT1 HT2
          generalize o.kids[k] = y at *
          generalize (o.kids.map Ob.nodes).take k = N at *
          generalize (o.kids.map Ob.deep).take k = D at *
          generalize hSN : sumN N = sn at *
          generalize hMD : maxN D = md at *
          generalize hyn : y.nodes = yn at *
          generalize hyd : y.deep = yd at *
          have H5 := Lib.hid hSN; have H6 := Lib.hid hMD; have H7 := Lib.hid hyn; have H8 := Lib.hid hyd
          clear hSN hMD hyn hyd hcell hmem
          go_wp2_with (go_at_call 150; refine (hih _).mono ?_; rintro e w3 ⟨rfl, hb3⟩)
          go_roundw
          case rel =>
            refine ⟨k + 1, by omega, by go_num, ?_, ?_, bl_step hb3 hbk⟩
            · rw [HT1.out, sumN_snoc, H5.out]; go_num
            · rw [HT2.out, maxN_snoc, H6.out]
              congr 1
              simp only [Nat.max_def]; split <;> split <;> omega
          case measure => simp [intOf]; omega
        · obtain rfl : k = o.kids.length := by omega
          clear hlt
          have t1 := List.take_of_length_le (l := o.kids.map Ob.nodes) (i := o.kids.length) (by simp)
          have t2 := List.take_of_length_le (l := o.kids.map Ob.deep) (i := o.kids.length) (by simp)
          rw [t2] at e2
          rw [t1, t2]
          clear t1 t2 e1
          have hS := HS.out
          have hD := HD.out
          generalize sumN (o.kids.map Ob.nodes) = sn at *
          generalize maxN (o.kids.map Ob.deep) = md at *
          have HS2 := Lib.hid hS
          have HD2 := Lib.hid hD
          clear hS hD HS HD
          go_wp2
          go_ret2
          exact ⟨by rw [← HS2.out, ← HD2.out]; rfl, HB2.out⟩
end Go.Proofs.YtnekcijganhknaaGreatDoor
namespace Go.Proofs.YtnekcijganhknaaGreatDoor
open Go.RowKit
set_option linter.unusedVariables false
set_option linter.unusedSimpArgs false

theorem ret_boolS {a b : Bool} (h : a = b) : Ending.returned (.bool a) = .returned (.bool b) := by rw [h]
def anyTo (p : Nat → Bool) (n : Nat) : Bool := (List.range n).any p
theorem anyTo_true {p : Nat → Bool} {n j : Nat} (hj : j < n) (h : p j = true) : anyTo p n = true := by
  unfold anyTo; rw [List.any_eq_true]; exact ⟨j, List.mem_range.2 hj, h⟩
theorem anyTo_false {p : Nat → Bool} {n : Nat} (h : ∀ j, j < n → p j = false) : anyTo p n = false := by
  unfold anyTo; rw [List.any_eq_false]; intro j hj; rw [h j (List.mem_range.1 hj)]; simp
/-- What a predicate answers of each element, in whatever memory is made later. -/
def PredOn (g : FuncId) (w : World) (xs : List Value) (p : Nat → Bool) : Prop :=
  ∀ (j : Nat) (x : Value), xs[j]? = some x → ∀ W, Below w.heap.size w W → Calls Tryz.prog g #[x] W fun e W' => e = .returned (.bool (p j)) ∧ Below W.heap.size W W'
/-- The first place where it is so, or -1. -/
def RetIdx (w : World) (p : Nat → Bool) (n : Nat) (e : Ending) (w' : World) : Prop :=
  ∃ r : Int, e = .returned (.int .i64 r) ∧ -1 ≤ r ∧ (r < 0 → anyTo p n = false) ∧ (0 ≤ r → ∃ j, j < n ∧ r = (j : Int) ∧ p j = true ∧ ∀ i, i < j → p i = false) ∧ Below w.heap.size w w'
theorem RetIdx.no {w w' : World} {p : Nat → Bool} {n : Nat} (h : ∀ j, j < n → p j = false) (hb : Below w.heap.size w w') : RetIdx w p n (.returned (.int .i64 (-1))) w' :=
  ⟨-1, rfl, by omega, fun _ => anyTo_false h, fun h0 => by omega, hb⟩
theorem RetIdx.yes {w w' : World} {p : Nat → Bool} {n j : Nat} (hj : j < n) (hp : p j = true) (h : ∀ i, i < j → p i = false) (hb : Below w.heap.size w w') : RetIdx w p n (.returned (.int .i64 (j : Int))) w' :=
  ⟨j, rfl, by omega, fun h0 => by omega, fun _ => ⟨j, hj, rfl, hp, h⟩, hb⟩
set_option maxRecDepth 100000 in
set_option maxHeartbeats 1000000 in
theorem obs_index (g : FuncId) (hcall : ∀ args W, (callFunc g args).run Tryz.prog W = .ok (.enter g args) W) (A : Option Addr) (n c : Nat) (xs : List Value) (hx : xs.length = n) (p : Nat → Bool) (w : World) (hr : Rd w A xs) (hn : n ≤ 140737488355328) (hp : PredOn g w xs p) :
    Calls Tryz.prog 188 #[.slice A n c, .func (.func g) #[] #[]] w (RetIdx w p n) := by
  have HR := Lib.hid hr; have HP := Lib.hid hp; have HX := Lib.hid hx
  clear hr hp hx
  go_enter Tryz.func188, Tryz.ntmps188
  go_wp2
  go_loopw [8] (fun i wr => ∃ k : Nat, k ≤ n ∧ i = .int .i64 k ∧ Hid (∀ j, j < k → p j = false) ∧ Below w.heap.size w wr) (fun i _ => n - (intOf i).toNat)
  case atStart => exact ⟨0, Nat.zero_le _, rfl, Lib.hid (fun j hj => by omega), bl_refl w⟩
  case round =>
    obtain ⟨k, hk, rfl, hno, hb⟩ := hrel
    by_cases hlt : k < n
    · have hxk : xs[k]? = some xs[k]! := by rw [getElem!_pos xs k (by rw [HX.out]; exact hlt)]; exact List.getElem?_eq_getElem _
      obtain ⟨ad, rfl, hcell⟩ := HR.out k _ hxk
      have hc2 := cell_below hb hcell
      have hpk := HP.out k _ hxk wr hb
      clear hxk hcell
      generalize xs[k]! = x at *
      have HPK := Lib.hid hpk
      clear hpk
      cases hpv : p k with
      | true =>
        have HV := Lib.hid hpv
        have hpk := HPK.out
        rw [hpv] at hpk
        clear hpv HPK
        go_wp2_with (refine hpk.mono ?_; rintro e w3 ⟨rfl, hb3⟩)
        go_ret
        exact RetIdx.yes hlt HV.out hno.out (bl_step hb3 hb)
      | false =>
        have HV := Lib.hid hpv
        have hpk := HPK.out
        rw [hpv] at hpk
        clear hpv HPK
        go_wp2_with (refine hpk.mono ?_; rintro e w3 ⟨rfl, hb3⟩)
        go_roundw
        case rel =>
          refine ⟨k + 1, by omega, by go_num, Lib.hid (fun j hj => ?_), bl_step hb3 hb⟩
          by_cases e : j = k
          · subst e; exact HV.out
          · exact hno.out j (by omega)
        case measure => simp [intOf]; omega
    · obtain rfl : k = n := by omega
      go_wp2
      go_ret
      exact RetIdx.no hno.out hb
set_option maxRecDepth 100000 in
set_option maxHeartbeats 1000000 in
theorem obs_contains (g : FuncId) (hcall : ∀ args W, (callFunc g args).run Tryz.prog W = .ok (.enter g args) W) (A : Option Addr) (n c : Nat) (xs : List Value) (hx : xs.length = n) (p : Nat → Bool) (w : World) (hr : Rd w A xs) (hn : n ≤ 140737488355328) (hp : PredOn g w xs p) :
    Calls Tryz.prog 172 #[.slice A n c, .func (.func g) #[] #[]] w fun e w' => e = .returned (.bool (anyTo p n)) ∧ Below w.heap.size w w' := by
  have hi := obs_index g hcall A n c xs hx p w hr hn hp
  have HI := Lib.hid hi
  clear hr hp hi hx
  go_enter Tryz.func172, Tryz.ntmps172
  go_wp2_with (refine HI.out.mono ?_; intro e w1 hq; obtain ⟨r, rfl, h0, h1, h2, hb⟩ := hq)
  have H1 := Lib.hid h1; have H2 := Lib.hid h2
  clear h1 h2 HI
  by_cases hr : 0 ≤ r
  · go_wp2
    go_ret
    obtain ⟨j, hj, _, hpj, _⟩ := H2.out hr
    refine ⟨ret_boolS ?_, hb⟩
    rw [anyTo_true hj hpj]
    simpa using hr
  · go_wp2
    go_ret
    refine ⟨ret_boolS ?_, hb⟩
    rw [H1.out (by omega)]
    simpa using hr
set_option maxRecDepth 100000 in
set_option maxHeartbeats 1000000 in
theorem term_index (g : FuncId) (hcall : ∀ args W, (callFunc g args).run Tryz.prog W = .ok (.enter g args) W) (A : Option Addr) (n c : Nat) (xs : List Value) (hx : xs.length = n) (p : Nat → Bool) (w : World) (hr : Rd w A xs) (hn : n ≤ 140737488355328) (hp : PredOn g w xs p) :
    Calls Tryz.prog 159 #[.slice A n c, .func (.func g) #[] #[]] w (RetIdx w p n) := by
  have HR := Lib.hid hr; have HP := Lib.hid hp; have HX := Lib.hid hx
  clear hr hp hx
  go_enter Tryz.func159, Tryz.ntmps159
  go_wp2
  go_loopw [8] (fun i wr => ∃ k : Nat, k ≤ n ∧ i = .int .i64 k ∧ Hid (∀ j, j < k → p j = false) ∧ Below w.heap.size w wr) (fun i _ => n - (intOf i).toNat)
  case atStart => exact ⟨0, Nat.zero_le _, rfl, Lib.hid (fun j hj => by omega), bl_refl w⟩
  case round =>
    obtain ⟨k, hk, rfl, hno, hb⟩ := hrel
    by_cases hlt : k < n
    · have hxk : xs[k]? = some xs[k]! := by rw [getElem!_pos xs k (by rw [HX.out]; exact hlt)]; exact List.getElem?_eq_getElem _
      obtain ⟨ad, rfl, hcell⟩ := HR.out k _ hxk
      have hc2 := cell_below hb hcell
      have hpk := HP.out k _ hxk wr hb
      clear hxk hcell
      generalize xs[k]! = x at *
      have HPK := Lib.hid hpk
      clear hpk
      cases hpv : p k with
      | true =>
        have HV := Lib.hid hpv
        have hpk := HPK.out
        rw [hpv] at hpk
        clear hpv HPK
        go_wp2_with (refine hpk.mono ?_; rintro e w3 ⟨rfl, hb3⟩)
        go_ret
        exact RetIdx.yes hlt HV.out hno.out (bl_step hb3 hb)
      | false =>
        have HV := Lib.hid hpv
        have hpk := HPK.out
        rw [hpv] at hpk
        clear hpv HPK
        go_wp2_with (refine hpk.mono ?_; rintro e w3 ⟨rfl, hb3⟩)
        go_roundw
        case rel =>
          refine ⟨k + 1, by omega, by go_num, Lib.hid (fun j hj => ?_), bl_step hb3 hb⟩
          by_cases e : j = k
          · subst e; exact HV.out
          · exact hno.out j (by omega)
        case measure => simp [intOf]; omega
    · obtain rfl : k = n := by omega
      go_wp2
      go_ret
      exact RetIdx.no hno.out hb
set_option maxRecDepth 100000 in
set_option maxHeartbeats 1000000 in
theorem term_contains (g : FuncId) (hcall : ∀ args W, (callFunc g args).run Tryz.prog W = .ok (.enter g args) W) (A : Option Addr) (n c : Nat) (xs : List Value) (hx : xs.length = n) (p : Nat → Bool) (w : World) (hr : Rd w A xs) (hn : n ≤ 140737488355328) (hp : PredOn g w xs p) :
    Calls Tryz.prog 148 #[.slice A n c, .func (.func g) #[] #[]] w fun e w' => e = .returned (.bool (anyTo p n)) ∧ Below w.heap.size w w' := by
  have hi := term_index g hcall A n c xs hx p w hr hn hp
  have HI := Lib.hid hi
  clear hr hp hi hx
  go_enter Tryz.func148, Tryz.ntmps148
  go_wp2_with (refine HI.out.mono ?_; intro e w1 hq; obtain ⟨r, rfl, h0, h1, h2, hb⟩ := hq)
  have H1 := Lib.hid h1; have H2 := Lib.hid h2
  clear h1 h2 HI
  by_cases hr : 0 ≤ r
  · go_wp2
    go_ret
    obtain ⟨j, hj, _, hpj, _⟩ := H2.out hr
    refine ⟨ret_boolS ?_, hb⟩
    rw [anyTo_true hj hpj]
    simpa using hr
  · go_wp2
    go_ret
    refine ⟨ret_boolS ?_, hb⟩
    rw [H1.out (by omega)]
    simpa using hr
def allTo (p : Nat → Bool) (n : Nat) : Bool := (List.range n).all p
theorem allTo_false {p : Nat → Bool} {n j : Nat} (hj : j < n) (h : p j = false) : allTo p n = false := by
  unfold allTo; rw [List.all_eq_false]; exact ⟨j, List.mem_range.2 hj, by rw [h]; simp⟩
theorem allTo_true {p : Nat → Bool} {n : Nat} (h : ∀ j, j < n → p j = true) : allTo p n = true := by
  unfold allTo; rw [List.all_eq_true]; intro j hj; exact h j (List.mem_range.1 hj)
/-- What a comparison answers of each two elements, in whatever memory is made later. -/
def Pred2On (g : FuncId) (w : World) (xs ys : List Value) (p : Nat → Bool) : Prop :=
  ∀ (j : Nat) (x y : Value), xs[j]? = some x → ys[j]? = some y → ∀ W, Below w.heap.size w W → Calls Tryz.prog g #[x, y] W fun e W' => e = .returned (.bool (p j)) ∧ Below W.heap.size W W'
set_option maxRecDepth 100000 in
set_option maxHeartbeats 1000000 in
theorem obs_equal (g : FuncId) (hcall : ∀ args W, (callFunc g args).run Tryz.prog W = .ok (.enter g args) W) (A A' : Option Addr) (n c c' : Nat) (xs ys : List Value) (hx : xs.length = n) (hy : ys.length = n) (p : Nat → Bool) (w : World) (hr : Rd w A xs) (hr' : Rd w A' ys) (hn : n ≤ 140737488355328) (hp : Pred2On g w xs ys p) :
    Calls Tryz.prog 124 #[.slice A n c, .slice A' n c', .func (.func g) #[] #[]] w fun e w' => e = .returned (.bool (allTo p n)) ∧ Below w.heap.size w w' := by
  have HR := Lib.hid hr; have HR' := Lib.hid hr'; have HP := Lib.hid hp; have HX := Lib.hid hx; have HY := Lib.hid hy
  clear hr hr' hp hx hy
  go_enter Tryz.func124, Tryz.ntmps124
  go_wp2
  go_loopw [17] (fun i wr => ∃ k : Nat, k ≤ n ∧ i = .int .i64 k ∧ Hid (∀ j, j < k → p j = true) ∧ Below w.heap.size w wr) (fun i _ => n - (intOf i).toNat)
  case atStart => exact ⟨0, Nat.zero_le _, rfl, Lib.hid (fun j hj => by omega), bl_refl w⟩
  case round =>
    obtain ⟨k, hk, rfl, hno, hb⟩ := hrel
    by_cases hlt : k < n
    · have hxk : xs[k]? = some xs[k]! := by rw [getElem!_pos xs k (by rw [HX.out]; exact hlt)]; exact List.getElem?_eq_getElem _
      have hyk : ys[k]? = some ys[k]! := by rw [getElem!_pos ys k (by rw [HY.out]; exact hlt)]; exact List.getElem?_eq_getElem _
      obtain ⟨ad, rfl, hcell⟩ := HR.out k _ hxk
      obtain ⟨ad', rfl, hcell'⟩ := HR'.out k _ hyk
      have hc2 := cell_below hb hcell
      have hc3 := cell_below hb hcell'
      have hpk := HP.out k _ _ hxk hyk wr hb
      clear hxk hyk hcell hcell'
      generalize xs[k]! = x at *
      generalize ys[k]! = y at *
      have HPK := Lib.hid hpk
      clear hpk
      cases hpv : p k with
      | false =>
        have HV := Lib.hid hpv
        have hpk := HPK.out
        rw [hpv] at hpk
        clear hpv HPK
        go_wp2_with (refine hpk.mono ?_; rintro e w3 ⟨rfl, hb3⟩)
        go_ret
        exact ⟨ret_boolS (allTo_false hlt HV.out).symm, bl_step hb3 hb⟩
      | true =>
        have HV := Lib.hid hpv
        have hpk := HPK.out
        rw [hpv] at hpk
        clear hpv HPK
        go_wp2_with (refine hpk.mono ?_; rintro e w3 ⟨rfl, hb3⟩)
        go_roundw
        case rel =>
          refine ⟨k + 1, by omega, by go_num, Lib.hid (fun j hj => ?_), bl_step hb3 hb⟩
          by_cases e : j = k
          · subst e; exact HV.out
          · exact hno.out j (by omega)
        case measure => simp [intOf]; omega
    · obtain rfl : k = n := by omega
      go_wp2
      go_ret
      exact ⟨ret_boolS (allTo_true hno.out).symm, hb⟩
set_option maxRecDepth 100000 in
set_option maxHeartbeats 1000000 in
theorem term_equal (g : FuncId) (hcall : ∀ args W, (callFunc g args).run Tryz.prog W = .ok (.enter g args) W) (A A' : Option Addr) (n c c' : Nat) (xs ys : List Value) (hx : xs.length = n) (hy : ys.length = n) (p : Nat → Bool) (w : World) (hr : Rd w A xs) (hr' : Rd w A' ys) (hn : n ≤ 140737488355328) (hp : Pred2On g w xs ys p) :
    Calls Tryz.prog 94 #[.slice A n c, .slice A' n c', .func (.func g) #[] #[]] w fun e w' => e = .returned (.bool (allTo p n)) ∧ Below w.heap.size w w' := by
  have HR := Lib.hid hr; have HR' := Lib.hid hr'; have HP := Lib.hid hp; have HX := Lib.hid hx; have HY := Lib.hid hy
  clear hr hr' hp hx hy
  go_enter Tryz.func94, Tryz.ntmps94
  go_wp2
  go_loopw [17] (fun i wr => ∃ k : Nat, k ≤ n ∧ i = .int .i64 k ∧ Hid (∀ j, j < k → p j = true) ∧ Below w.heap.size w wr) (fun i _ => n - (intOf i).toNat)
  case atStart => exact ⟨0, Nat.zero_le _, rfl, Lib.hid (fun j hj => by omega), bl_refl w⟩
  case round =>
    obtain ⟨k, hk, rfl, hno, hb⟩ := hrel
    by_cases hlt : k < n
    · have hxk : xs[k]? = some xs[k]! := by rw [getElem!_pos xs k (by rw [HX.out]; exact hlt)]; exact List.getElem?_eq_getElem _
      have hyk : ys[k]? = some ys[k]! := by rw [getElem!_pos ys k (by rw [HY.out]; exact hlt)]; exact List.getElem?_eq_getElem _
      obtain ⟨ad, rfl, hcell⟩ := HR.out k _ hxk
      obtain ⟨ad', rfl, hcell'⟩ := HR'.out k _ hyk
      have hc2 := cell_below hb hcell
      have hc3 := cell_below hb hcell'
      have hpk := HP.out k _ _ hxk hyk wr hb
      clear hxk hyk hcell hcell'
      generalize xs[k]! = x at *
      generalize ys[k]! = y at *
      have HPK := Lib.hid hpk
      clear hpk
      cases hpv : p k with
      | false =>
        have HV := Lib.hid hpv
        have hpk := HPK.out
        rw [hpv] at hpk
        clear hpv HPK
        go_wp2_with (refine hpk.mono ?_; rintro e w3 ⟨rfl, hb3⟩)
        go_ret
        exact ⟨ret_boolS (allTo_false hlt HV.out).symm, bl_step hb3 hb⟩
      | true =>
        have HV := Lib.hid hpv
        have hpk := HPK.out
        rw [hpv] at hpk
        clear hpv HPK
        go_wp2_with (refine hpk.mono ?_; rintro e w3 ⟨rfl, hb3⟩)
        go_roundw
        case rel =>
          refine ⟨k + 1, by omega, by go_num, Lib.hid (fun j hj => ?_), bl_step hb3 hb⟩
          by_cases e : j = k
          · subst e; exact HV.out
          · exact hno.out j (by omega)
        case measure => simp [intOf]; omega
    · obtain rfl : k = n := by omega
      go_wp2
      go_ret
      exact ⟨ret_boolS (allTo_true hno.out).symm, hb⟩
end Go.Proofs.YtnekcijganhknaaGreatDoor
namespace Go.Proofs.YtnekcijganhknaaGreatDoor
open Go.RowKit
set_option linter.unusedVariables false
set_option linter.unusedSimpArgs false

theorem hcall_oform (args : Array Value) (W : World) : (callFunc 173 args).run Tryz.prog W = .ok (.enter 173 args) W := by kernel_rfl
theorem hcall_osame (args : Array Value) (W : World) : (callFunc 93 args).run Tryz.prog W = .ok (.enter 93 args) W := by kernel_rfl
def Ob.form : Ob → Bool
  | .const n => validB n
  | .fix s => nameB s
  | .add l r | .mul l r | .max l r => l.form && r.form
  | .neg o => o.form
  | .odd _ => false
def kidNot (o : Ob) (j : Nat) : Bool := match o.kids[j]? with | some k => !k.form | none => false
theorem Ob.form_kids (o : Ob) (h : o.leaf.1 = false) (h2 : o.isOdd = false) : (!anyTo (kidNot o) o.kids.length) = o.form := by
  cases o <;> simp_all [Ob.leaf, Ob.isOdd, Ob.form, anyTo, kidNot, Ob.kids, List.range_succ]
theorem Ob.form_leaf (o : Ob) (h : o.leaf.1 = true) : o.leaf.2 = o.form := by cases o <;> simp_all [Ob.leaf, Ob.form]
theorem Ob.form_odd (o : Ob) (h2 : o.isOdd = true) : o.form = false := by cases o <;> simp_all [Ob.isOdd, Ob.form]
set_option maxRecDepth 100000 in
set_option maxHeartbeats 1000000 in
theorem form_calls (B : Nat) : ∀ (o : Ob), o.meas ≤ B → o.ok → ∀ w : World,
    Calls Tryz.prog 158 #[o.val] w fun e w' => e = .returned (.bool o.form) ∧ Below w.heap.size w w' := by
  induction B with
  | zero => intro o h; cases o <;> simp [Ob.meas] at h
  | succ B ih =>
    intro o hm ho w
    have hp : ∀ W, PredOn 173 W (Ob.vals o.kids) (kidNot o) := by
      intro W j x hx W' _
      unfold Ob.vals at hx
      rw [List.getElem?_map] at hx
      obtain ⟨k, hk, rfl⟩ := Option.map_eq_some_iff.1 hx
      have hmem := List.mem_of_getElem? hk
      have h1 := ih k (by have := o.kid_meas k hmem; omega) (o.kid_ok ho k hmem)
      have h2 : kidNot o j = !k.form := by unfold kidNot; rw [hk]
      rw [h2]
      clear hx hk h2 ih hmem
      go_enter Tryz.func173, Tryz.ntmps173
      go_wp2_with (go_at_call 158; refine (h1 _).mono ?_; rintro e w1 ⟨rfl, hb1⟩)
      go_ret
      exact ⟨rfl, hb1⟩
    have HP := Lib.hid hp
    clear hp ih
    have hlen := o.kids_len
    cases hl : o.leaf.1 with
    | true =>
      have hpp : pairB o.leaf = .tuple #[.bool true, .bool o.leaf.2] := by unfold pairB; rw [hl]
      have hc := leaf_calls o ho w
      rw [hpp] at hc
      have HL := Lib.hid (o.form_leaf hl)
      clear hl hpp
      go_enter Tryz.func158, Tryz.ntmps158
      go_wp2_with (go_at_call 171; refine hc.mono ?_; rintro e w1 ⟨rfl, hb1⟩)
      go_ret
      exact ⟨ret_bool HL.out, hb1⟩
    | false =>
      have hpp : pairB o.leaf = .tuple #[.bool false, .bool o.leaf.2] := by unfold pairB; rw [hl]
      have hc := leaf_calls o ho w
      rw [hpp] at hc
      cases hodd : o.isOdd with
      | true =>
        have hn := none_calls o ho
        rw [hodd] at hn
        have HF := Lib.hid (o.form_odd hodd)
        clear hl hpp hodd
        go_enter Tryz.func158, Tryz.ntmps158
        go_wp2_with (first | (go_at_call 171; refine hc.mono ?_; rintro e w1 ⟨rfl, hb1⟩) | (go_at_call 160; refine (hn _).mono ?_; rintro e w2 ⟨rfl, hb2⟩))
        go_ret
        exact ⟨ret_bool HF.out.symm, bl_step hb2 hb1⟩
      | false =>
        have hn := none_calls o ho
        rw [hodd] at hn
        have HF := Lib.hid (o.form_kids hl hodd)
        clear hl hpp hodd
        go_enter Tryz.func158, Tryz.ntmps158
        go_wp2_with (first | (go_at_call 171; refine hc.mono ?_; rintro e w1 ⟨rfl, hb1⟩) | (go_at_call 160; refine (hn _).mono ?_; rintro e w2 ⟨rfl, hb2⟩) | (go_at_call 125; refine (obs_kids o ho _).mono ?_; intro e w3 hr; obtain ⟨A, c, rfl, hrd, hb3, hnc⟩ := hr.open_; clear hr) | (go_at_call 172; refine (obs_contains _ hcall_oform A _ c _ (by simp [Ob.vals]) (kidNot o) _ hrd (by omega) (HP.out _)).mono ?_; rintro e w4 ⟨rfl, hb4⟩))
        go_ret
        refine ⟨ret_bool HF.out, ?_⟩
        repeat (first | exact bl_refl _ | refine bl_alloc ?_ _ | refine bl_drew ?_ | refine bl_drewN ?_ _ | refine bl_step (by assumption) ?_)
def Ob.check (o : Ob) : Int := if o.form then (if 60 < o.nodes ∨ 12 < o.deep then 5 else 0) else 2
set_option maxRecDepth 100000 in
set_option maxHeartbeats 400000 in
theorem check_calls (o : Ob) (ho : o.ok) (hm : o.meas ≤ 4611686018427387904) (w : World) :
    Calls Tryz.prog 147 #[o.val] w fun e w' => e = .returned (.int .i64 o.check) ∧ Below w.heap.size w w' := by
  have hf := form_calls _ o (Nat.le_refl _) ho w
  have hs := size_calls _ o (Nat.le_refl _) ho hm
  have hc : Hid (o.check = if o.form then (if 60 < o.nodes ∨ 12 < o.deep then 5 else 0) else 2) := rfl
  cases hfo : o.form with
  | false =>
    rw [hfo] at hf hc
    have HC := Lib.hid hc.out
    clear hfo hc
    go_enter Tryz.func147, Tryz.ntmps147
    go_wp2_with (go_at_call 158; refine hf.mono ?_; rintro e w1 ⟨rfl, hb1⟩)
    go_ret
    exact ⟨by rw [HC.out]; rfl, hb1⟩
  | true =>
    rw [hfo] at hf hc
    have HC := Lib.hid hc.out
    clear hfo hc
    go_enter Tryz.func147, Tryz.ntmps147
    go_wp2_with (first | (go_at_call 158; refine hf.mono ?_; rintro e w1 ⟨rfl, hb1⟩) | (go_at_call 150; refine (hs _).mono ?_; rintro e w2 ⟨rfl, hb2⟩))
    all_goals go_ret
    all_goals
      refine ⟨ret_int ?_, bl_step hb2 hb1⟩
      simp only [HC.out, if_true]
      first | rw [if_pos (by omega)] | rw [if_neg (by omega)]
theorem eqS_of {P : Program} {d : Nat} {t : TypeId} {fs : Array Field} {xs ys : Array Value} {r : Bool} {w : World} (hu : P.underlying t = some (.struct fs)) (hp : P.stoodInHeld t = false) (h : (Op.eqFields d xs ys fs.toList).run P w = .ok r w) : (Op.equalIn (d + 1) t (.agg xs) (.agg ys)).run P w = .ok r w := by
  have hf : P.fieldsOf t = fs := by simp [Program.fieldsOf, hu]
  rw [run_equalIn_struct w d t xs ys (by rw [hf]; exact hu) hp, hf]
  exact h
theorem eqg_Const (op : BinOp) (x y : Operand) (n m : Int) (w : World) : (eqGuard op 26 x y (.agg #[.int .i64 n]) (.agg #[.int .i64 m])).run Tryz.prog w = .ok () w := run_eqGuard_agg w op _ x y _ _ (by kernel_rfl)
theorem eq_Const (n m : Int) (w : World) : (binOp .eql 26 (.agg #[.int .i64 n]) (.agg #[.int .i64 m])).run Tryz.prog w = .ok (.bool (n == m)) w := by
  rw [run_eql_struct]
  have h : (Op.equalIn 10000 26 (.agg #[.int .i64 n]) (.agg #[.int .i64 m])).run Tryz.prog w = .ok (n == m) w := eqS_of (d := 9999) Tryz.underlying26 (by kernel_rfl) (by go_simp; split <;> simp_all)
  rw [h]; rfl
theorem eqg_Fix (op : BinOp) (x y : Operand) (n m : ByteArray) (w : World) : (eqGuard op 34 x y (.agg #[.string n]) (.agg #[.string m])).run Tryz.prog w = .ok () w := run_eqGuard_agg w op _ x y _ _ (by kernel_rfl)
theorem eq_Fix (n m : ByteArray) (w : World) : (binOp .eql 34 (.agg #[.string n]) (.agg #[.string m])).run Tryz.prog w = .ok (.bool (n.toList == m.toList)) w := by
  rw [run_eql_struct]
  have h : (Op.equalIn 10000 34 (.agg #[.string n]) (.agg #[.string m])).run Tryz.prog w = .ok (n.toList == m.toList) w := eqS_of (d := 9999) Tryz.underlying34 (by kernel_rfl) (by go_simp; split <;> simp_all)
  rw [h]; rfl
attribute [go_sem high] eqg_Const eq_Const eqg_Fix eq_Fix
def Ob.same : Ob → Ob → Bool
  | .const n, .const m => n == m
  | .fix s, .fix t => s.toList == t.toList
  | .add l r, .add l' r' => l.same l' && r.same r'
  | .mul l r, .mul l' r' => l.same l' && r.same r'
  | .max l r, .max l' r' => l.same l' && r.same r'
  | .neg o, .neg o' => o.same o'
  | _, _ => false
def kidSame (o p : Ob) (j : Nat) : Bool := match o.kids[j]?, p.kids[j]? with | some k, some l => k.same l | _, _ => false
set_option maxRecDepth 100000 in
set_option maxHeartbeats 4000000 in
theorem same_calls (B : Nat) : ∀ (o p : Ob), o.meas ≤ B → o.ok → p.ok → ∀ w : World,
    Calls Tryz.prog 93 #[o.val, p.val] w fun e w' => e = .returned (.bool (o.same p)) ∧ Below w.heap.size w w' := by
  induction B with
  | zero => intro o p h; cases o <;> simp [Ob.meas] at h
  | succ B ih =>
    intro o p hm ho hp w
    have hk1 := obs_kind o ho
    have hk2 := obs_kind p hp
    have hp2 : ∀ W, Pred2On 93 W (Ob.vals o.kids) (Ob.vals p.kids) (kidSame o p) := by
      intro W j x y hx hy W' _
      unfold Ob.vals at hx hy
      rw [List.getElem?_map] at hx hy
      obtain ⟨k, hk, rfl⟩ := Option.map_eq_some_iff.1 hx
      obtain ⟨l, hl, rfl⟩ := Option.map_eq_some_iff.1 hy
      have hmem := List.mem_of_getElem? hk
      have h1 := ih k l (by have := o.kid_meas k hmem; omega) (o.kid_ok ho k hmem) (p.kid_ok hp l (List.mem_of_getElem? hl)) W'
      have h2 : kidSame o p j = k.same l := by unfold kidSame; rw [hk, hl]
      rw [h2]
      exact h1
    by_cases hk : o.kind = 0 ∨ o.kind ≠ p.kind
    · have hs : o.same p = false := by
        cases o <;> cases p <;> simp_all [Ob.kind, Ob.same]
      have HS := Lib.hid hs
      clear hs ih hp2
      generalize o.kind = a at *
      generalize p.kind = b at *
      by_cases h0 : a = 0
      · subst h0
        clear hk
        go_enter Tryz.func93, Tryz.ntmps93
        go_wp2_with (go_at_call 123; refine (hk1 _).mono ?_; rintro e w1 ⟨rfl, rfl⟩)
        go_ret
        exact ⟨ret_bool HS.out.symm, bl_refl _⟩
      · have h1 : (a == 0) = false := by simp [h0]
        have h2 : (a != b) = true := by simp; omega
        clear hk h0
        go_enter Tryz.func93, Tryz.ntmps93
        go_wp2_with (first | (go_at_call_of 123 (o.val); refine (hk1 _).mono ?_; rintro e w1 ⟨rfl, rfl⟩) | (go_at_call 123; refine (hk2 _).mono ?_; rintro e w1 ⟨rfl, rfl⟩))
        go_ret
        exact ⟨ret_bool HS.out.symm, bl_refl _⟩
    · have hk0 : o.kind ≠ 0 := fun h => hk (.inl h)
      have hkk : o.kind = p.kind := by
        by_cases h : o.kind = p.kind
        · exact h
        · exact absurd (.inr h) hk
      clear hk
      cases o with
      | odd v => exact absurd rfl hk0
      | const n => 
        cases p with
        | const m =>
          clear ih hk0 hkk hk1 hk2
          have hk1 := obs_kind (.const n) ho
          have hk2 := obs_kind (.const m) hp
          unfold Ob.val Ob.kind at *
          go_enter Tryz.func93, Tryz.ntmps93
          go_wp2_with (first | (go_at_call_of 123 (Value.iface 26 (.agg #[.int .i64 n])); refine (hk1 _).mono ?_; rintro e w1 ⟨rfl, rfl⟩) | (go_at_call 123; refine (hk2 _).mono ?_; rintro e w1 ⟨rfl, rfl⟩))
          go_quiet (fail)
          go_wp2
          go_ret
          refine ⟨rfl, ?_⟩
          repeat (first | exact bl_refl _ | refine bl_alloc ?_ _ | refine bl_drew ?_ | refine bl_drewN ?_ _ | refine bl_step (by assumption) ?_)
        | odd v => exact absurd hkk.symm (by simp [Ob.kind])
        | _ => simp [Ob.kind] at hkk
      | fix n =>
        cases p with
        | fix m =>
          clear ih hk0 hkk hk1 hk2
          have hk1 := obs_kind (.fix n) ho
          have hk2 := obs_kind (.fix m) hp
          unfold Ob.val Ob.kind at *
          go_enter Tryz.func93, Tryz.ntmps93
          go_wp2_with (first | (go_at_call_of 123 (Value.iface 34 (.agg #[.string n])); refine (hk1 _).mono ?_; rintro e w1 ⟨rfl, rfl⟩) | (go_at_call 123; refine (hk2 _).mono ?_; rintro e w1 ⟨rfl, rfl⟩))
          go_quiet (fail)
          go_wp2
          go_ret
          refine ⟨rfl, ?_⟩
          repeat (first | exact bl_refl _ | refine bl_alloc ?_ _ | refine bl_drew ?_ | refine bl_drewN ?_ _ | refine bl_step (by assumption) ?_)
        | odd v => exact absurd hkk.symm (by simp [Ob.kind])
        | _ => simp [Ob.kind] at hkk
      | neg o =>
        cases p with
        | neg p =>
          have hs : (Ob.neg o).same (.neg p) = allTo (kidSame (.neg o) (.neg p)) (Ob.neg o).kids.length := by
            simp [Ob.same, allTo, kidSame, Ob.kids, List.range_succ]
          have HP2 := Lib.hid hp2
          clear ih hk0 hkk hp2
          have hkd := fun w => obs_kids _ ho w
          have hkd2 := fun w => obs_kids _ hp w
          have HS := Lib.hid hs
          clear hs
          unfold Ob.kind at hk1 hk2
          have HK1 := Lib.hid hkd; have HK2 := Lib.hid hkd2; have HI1 := Lib.hid hk1; have HI2 := Lib.hid hk2
          clear hkd hkd2 hk1 hk2
          unfold Ob.val at *
          go_enter Tryz.func93, Tryz.ntmps93
          go_wp2_with fail
          refine (HI1.out _).mono ?_
          rintro e w1 ⟨rfl, rfl⟩
          go_wp2_with fail
          refine (HI1.out _).mono ?_
          rintro e w1 ⟨rfl, rfl⟩
          go_wp2_with fail
          refine (HI2.out _).mono ?_
          rintro e w1 ⟨rfl, rfl⟩
          go_wp2_with fail
          refine (HK1.out _).mono ?_
          intro e w3 hr; obtain ⟨A, c, rfl, hrd, hb3, hnc⟩ := hr.open_; clear hr
          have HR1 := Lib.hid hrd
          clear hrd
          go_wp2_with fail
          refine (HK2.out _).mono ?_
          intro e w4 hr; obtain ⟨A', c', rfl, hrd, hb4, hnc'⟩ := hr.open_; clear hr
          have HR2 := Lib.hid hrd
          clear hrd
          go_wp2_with fail
          refine (obs_equal _ hcall_osame A A' _ c c' _ _ (by simp [Ob.vals]) (by simp [Ob.vals, Ob.kids]) _ _ (HR1.out.below hb4) HR2.out (by simp [Ob.kids]) (HP2.out _)).mono ?_
          rintro e w5 ⟨rfl, hb5⟩
          go_wp2_with fail
          go_ret
          refine ⟨ret_bool HS.out.symm, ?_⟩
          repeat (first | exact bl_refl _ | refine bl_alloc ?_ _ | refine bl_drew ?_ | refine bl_drewN ?_ _ | refine bl_step (by assumption) ?_)
        | odd v => exact absurd hkk.symm (by simp [Ob.kind])
        | _ => simp [Ob.kind] at hkk
      | add l r =>
        cases p with
        | add l' r' =>
          have hs : (Ob.add l r).same (.add l' r') = allTo (kidSame (.add l r) (.add l' r')) (Ob.add l r).kids.length := by
            simp [Ob.same, allTo, kidSame, Ob.kids, List.range_succ]
          have HP2 := Lib.hid hp2
          clear ih hk0 hkk hp2
          have hkd := fun w => obs_kids _ ho w
          have hkd2 := fun w => obs_kids _ hp w
          have HS := Lib.hid hs
          clear hs
          unfold Ob.kind at hk1 hk2
          have HK1 := Lib.hid hkd; have HK2 := Lib.hid hkd2; have HI1 := Lib.hid hk1; have HI2 := Lib.hid hk2
          clear hkd hkd2 hk1 hk2
          unfold Ob.val at *
          go_enter Tryz.func93, Tryz.ntmps93
          go_wp2_with fail
          refine (HI1.out _).mono ?_
          rintro e w1 ⟨rfl, rfl⟩
          go_wp2_with fail
          refine (HI1.out _).mono ?_
          rintro e w1 ⟨rfl, rfl⟩
          go_wp2_with fail
          refine (HI2.out _).mono ?_
          rintro e w1 ⟨rfl, rfl⟩
          go_wp2_with fail
          refine (HK1.out _).mono ?_
          intro e w3 hr; obtain ⟨A, c, rfl, hrd, hb3, hnc⟩ := hr.open_; clear hr
          have HR1 := Lib.hid hrd
          clear hrd
          go_wp2_with fail
          refine (HK2.out _).mono ?_
          intro e w4 hr; obtain ⟨A', c', rfl, hrd, hb4, hnc'⟩ := hr.open_; clear hr
          have HR2 := Lib.hid hrd
          clear hrd
          go_wp2_with fail
          refine (obs_equal _ hcall_osame A A' _ c c' _ _ (by simp [Ob.vals]) (by simp [Ob.vals, Ob.kids]) _ _ (HR1.out.below hb4) HR2.out (by simp [Ob.kids]) (HP2.out _)).mono ?_
          rintro e w5 ⟨rfl, hb5⟩
          go_wp2_with fail
          go_ret
          refine ⟨ret_bool HS.out.symm, ?_⟩
          repeat (first | exact bl_refl _ | refine bl_alloc ?_ _ | refine bl_drew ?_ | refine bl_drewN ?_ _ | refine bl_step (by assumption) ?_)
        | odd v => exact absurd hkk.symm (by simp [Ob.kind])
        | _ => simp [Ob.kind] at hkk
      | mul l r =>
        cases p with
        | mul l' r' =>
          have hs : (Ob.mul l r).same (.mul l' r') = allTo (kidSame (.mul l r) (.mul l' r')) (Ob.mul l r).kids.length := by
            simp [Ob.same, allTo, kidSame, Ob.kids, List.range_succ]
          have HP2 := Lib.hid hp2
          clear ih hk0 hkk hp2
          have hkd := fun w => obs_kids _ ho w
          have hkd2 := fun w => obs_kids _ hp w
          have HS := Lib.hid hs
          clear hs
          unfold Ob.kind at hk1 hk2
          have HK1 := Lib.hid hkd; have HK2 := Lib.hid hkd2; have HI1 := Lib.hid hk1; have HI2 := Lib.hid hk2
          clear hkd hkd2 hk1 hk2
          unfold Ob.val at *
          go_enter Tryz.func93, Tryz.ntmps93
          go_wp2_with fail
          refine (HI1.out _).mono ?_
          rintro e w1 ⟨rfl, rfl⟩
          go_wp2_with fail
          refine (HI1.out _).mono ?_
          rintro e w1 ⟨rfl, rfl⟩
          go_wp2_with fail
          refine (HI2.out _).mono ?_
          rintro e w1 ⟨rfl, rfl⟩
          go_wp2_with fail
          refine (HK1.out _).mono ?_
          intro e w3 hr; obtain ⟨A, c, rfl, hrd, hb3, hnc⟩ := hr.open_; clear hr
          have HR1 := Lib.hid hrd
          clear hrd
          go_wp2_with fail
          refine (HK2.out _).mono ?_
          intro e w4 hr; obtain ⟨A', c', rfl, hrd, hb4, hnc'⟩ := hr.open_; clear hr
          have HR2 := Lib.hid hrd
          clear hrd
          go_wp2_with fail
          refine (obs_equal _ hcall_osame A A' _ c c' _ _ (by simp [Ob.vals]) (by simp [Ob.vals, Ob.kids]) _ _ (HR1.out.below hb4) HR2.out (by simp [Ob.kids]) (HP2.out _)).mono ?_
          rintro e w5 ⟨rfl, hb5⟩
          go_wp2_with fail
          go_ret
          refine ⟨ret_bool HS.out.symm, ?_⟩
          repeat (first | exact bl_refl _ | refine bl_alloc ?_ _ | refine bl_drew ?_ | refine bl_drewN ?_ _ | refine bl_step (by assumption) ?_)
        | odd v => exact absurd hkk.symm (by simp [Ob.kind])
        | _ => simp [Ob.kind] at hkk
      | max l r =>
        cases p with
        | max l' r' =>
          have hs : (Ob.max l r).same (.max l' r') = allTo (kidSame (.max l r) (.max l' r')) (Ob.max l r).kids.length := by
            simp [Ob.same, allTo, kidSame, Ob.kids, List.range_succ]
          have HP2 := Lib.hid hp2
          clear ih hk0 hkk hp2
          have hkd := fun w => obs_kids _ ho w
          have hkd2 := fun w => obs_kids _ hp w
          have HS := Lib.hid hs
          clear hs
          unfold Ob.kind at hk1 hk2
          have HK1 := Lib.hid hkd; have HK2 := Lib.hid hkd2; have HI1 := Lib.hid hk1; have HI2 := Lib.hid hk2
          clear hkd hkd2 hk1 hk2
          unfold Ob.val at *
          go_enter Tryz.func93, Tryz.ntmps93
          go_wp2_with fail
          refine (HI1.out _).mono ?_
          rintro e w1 ⟨rfl, rfl⟩
          go_wp2_with fail
          refine (HI1.out _).mono ?_
          rintro e w1 ⟨rfl, rfl⟩
          go_wp2_with fail
          refine (HI2.out _).mono ?_
          rintro e w1 ⟨rfl, rfl⟩
          go_wp2_with fail
          refine (HK1.out _).mono ?_
          intro e w3 hr; obtain ⟨A, c, rfl, hrd, hb3, hnc⟩ := hr.open_; clear hr
          have HR1 := Lib.hid hrd
          clear hrd
          go_wp2_with fail
          refine (HK2.out _).mono ?_
          intro e w4 hr; obtain ⟨A', c', rfl, hrd, hb4, hnc'⟩ := hr.open_; clear hr
          have HR2 := Lib.hid hrd
          clear hrd
          go_wp2_with fail
          refine (obs_equal _ hcall_osame A A' _ c c' _ _ (by simp [Ob.vals]) (by simp [Ob.vals, Ob.kids]) _ _ (HR1.out.below hb4) HR2.out (by simp [Ob.kids]) (HP2.out _)).mono ?_
          rintro e w5 ⟨rfl, hb5⟩
          go_wp2_with fail
          go_ret
          refine ⟨ret_bool HS.out.symm, ?_⟩
          repeat (first | exact bl_refl _ | refine bl_alloc ?_ _ | refine bl_drew ?_ | refine bl_drewN ?_ _ | refine bl_step (by assumption) ?_)
        | odd v => exact absurd hkk.symm (by simp [Ob.kind])
        | _ => simp [Ob.kind] at hkk
end Go.Proofs.YtnekcijganhknaaGreatDoor
