/- slices.IndexFunc, ContainsFunc, EqualFunc at the slices of numbers and of contracts. -/
import Derived.Test.YtapbkomicihkkaaDoorTree
import Derived.Test.YtapbkomicihkkaaDoorRd
namespace Go.Proofs.YtapbkomicihkkaaDoor
open Go.RowKit
set_option linter.unusedVariables false
set_option linter.unusedSimpArgs false

theorem ret_boolS {a b : Bool} (h : a = b) : Ending.returned (.bool a) = .returned (.bool b) := by rw [h]
def anyTo (p : Nat → Bool) (n : Nat) : Bool := (List.range n).any p
theorem anyTo_true {p : Nat → Bool} {n j : Nat} (hj : j < n) (h : p j = true) : anyTo p n = true := by
  unfold anyTo; rw [List.any_eq_true]; exact ⟨j, List.mem_range.2 hj, h⟩
theorem anyTo_false {p : Nat → Bool} {n : Nat} (h : ∀ j, j < n → p j = false) : anyTo p n = false := by
  unfold anyTo; rw [List.any_eq_false]; intro j hj; rw [h j (List.mem_range.1 hj)]; simp
/-- What a predicate answers of each element, in whatever memory is made later. -/
def PredOn (g : FuncId) (w : World) (xs : List Value) (p : Nat → Bool) : Prop :=
  ∀ (j : Nat) (x : Value), xs[j]? = some x → ∀ W, Below w.heap.size w W → Calls Tryd.prog g #[x] W fun e W' => e = .returned (.bool (p j)) ∧ Below W.heap.size W W'
/-- The first place where it is so, or -1. -/
def RetIdx (w : World) (p : Nat → Bool) (n : Nat) (e : Ending) (w' : World) : Prop :=
  ∃ r : Int, e = .returned (.int .i64 r) ∧ -1 ≤ r ∧ (r < 0 → anyTo p n = false) ∧ (0 ≤ r → ∃ j, j < n ∧ r = (j : Int) ∧ p j = true ∧ ∀ i, i < j → p i = false) ∧ Below w.heap.size w w'
theorem RetIdx.no {w w' : World} {p : Nat → Bool} {n : Nat} (h : ∀ j, j < n → p j = false) (hb : Below w.heap.size w w') : RetIdx w p n (.returned (.int .i64 (-1))) w' :=
  ⟨-1, rfl, by omega, fun _ => anyTo_false h, fun h0 => by omega, hb⟩
theorem RetIdx.yes {w w' : World} {p : Nat → Bool} {n j : Nat} (hj : j < n) (hp : p j = true) (h : ∀ i, i < j → p i = false) (hb : Below w.heap.size w w') : RetIdx w p n (.returned (.int .i64 (j : Int))) w' :=
  ⟨j, rfl, by omega, fun h0 => by omega, fun _ => ⟨j, hj, rfl, hp, h⟩, hb⟩
set_option maxRecDepth 100000 in
set_option maxHeartbeats 1000000 in
theorem obs_index (g : FuncId) (hcall : ∀ args W, (callFunc g args).run Tryd.prog W = .ok (.enter g args) W) (A : Option Addr) (n c : Nat) (xs : List Value) (hx : xs.length = n) (p : Nat → Bool) (w : World) (hr : Rd w A xs) (hn : n ≤ 140737488355328) (hp : PredOn g w xs p) :
    Calls Tryd.prog 93 #[.slice A n c, .func (.func g) #[] #[]] w (RetIdx w p n) := by
  have HR := Lib.hid hr; have HP := Lib.hid hp; have HX := Lib.hid hx
  clear hr hp hx
  go_enter Tryd.func93, Tryd.ntmps93
  go_wp2
  go_loopw [8] (fun i wr => ∃ k : Nat, k ≤ n ∧ i = .int .i64 k ∧ Hid (∀ j, j < k → p j = false) ∧ Below w.heap.size w wr) (fun i _ => n - (intOf i).toNat)
  case atStart => exact ⟨0, Nat.zero_le _, rfl, Lib.hid (fun j hj => by omega), bl_refl w⟩
  case round =>
    obtain ⟨k, hk, rfl, hno, hb⟩ := hrel
    by_cases hlt : k < n
    · have hxk : xs[k]? = some xs[k]! := by rw [getElem!_pos xs k (by rw [HX.out]; exact hlt)]; exact List.getElem?_eq_getElem _
      obtain ⟨ad, rfl, hcell⟩ := HR.out k _ hxk
      have hc2 := cell_below hb hcell
      have hpk := HP.out k _ hxk wr hb
      clear hxk hcell
      generalize xs[k]! = x at *
      have HPK := Lib.hid hpk
      clear hpk
      cases hpv : p k with
      | true =>
        have HV := Lib.hid hpv
        have hpk := HPK.out
        rw [hpv] at hpk
        clear hpv HPK
        go_wp2_with (refine hpk.mono ?_; rintro e w3 ⟨rfl, hb3⟩)
        go_ret
        exact RetIdx.yes hlt HV.out hno.out (bl_step hb3 hb)
      | false =>
        have HV := Lib.hid hpv
        have hpk := HPK.out
        rw [hpv] at hpk
        clear hpv HPK
        go_wp2_with (refine hpk.mono ?_; rintro e w3 ⟨rfl, hb3⟩)
        go_roundw
        case rel =>
          refine ⟨k + 1, by omega, by go_num, Lib.hid (fun j hj => ?_), bl_step hb3 hb⟩
          by_cases e : j = k
          · subst e; exact HV.out
          · exact hno.out j (by omega)
        case measure => simp [intOf]; omega
    · obtain rfl : k = n := by omega
      go_wp2
      go_ret
      exact RetIdx.no hno.out hb
set_option maxRecDepth 100000 in
set_option maxHeartbeats 1000000 in
theorem obs_contains (g : FuncId) (hcall : ∀ args W, (callFunc g args).run Tryd.prog W = .ok (.enter g args) W) (A : Option Addr) (n c : Nat) (xs : List Value) (hx : xs.length = n) (p : Nat → Bool) (w : World) (hr : Rd w A xs) (hn : n ≤ 140737488355328) (hp : PredOn g w xs p) :
    Calls Tryd.prog 76 #[.slice A n c, .func (.func g) #[] #[]] w fun e w' => e = .returned (.bool (anyTo p n)) ∧ Below w.heap.size w w' := by
  have hi := obs_index g hcall A n c xs hx p w hr hn hp
  have HI := Lib.hid hi
  clear hr hp hi hx
  go_enter Tryd.func76, Tryd.ntmps76
  go_wp2_with (refine HI.out.mono ?_; intro e w1 hq; obtain ⟨r, rfl, h0, h1, h2, hb⟩ := hq)
  have H1 := Lib.hid h1; have H2 := Lib.hid h2
  clear h1 h2 HI
  by_cases hr : 0 ≤ r
  · go_wp2
    go_ret
    obtain ⟨j, hj, _, hpj, _⟩ := H2.out hr
    refine ⟨ret_boolS ?_, hb⟩
    rw [anyTo_true hj hpj]
    simpa using hr
  · go_wp2
    go_ret
    refine ⟨ret_boolS ?_, hb⟩
    rw [H1.out (by omega)]
    simpa using hr
set_option maxRecDepth 100000 in
set_option maxHeartbeats 1000000 in
theorem term_index (g : FuncId) (hcall : ∀ args W, (callFunc g args).run Tryd.prog W = .ok (.enter g args) W) (A : Option Addr) (n c : Nat) (xs : List Value) (hx : xs.length = n) (p : Nat → Bool) (w : World) (hr : Rd w A xs) (hn : n ≤ 140737488355328) (hp : PredOn g w xs p) :
    Calls Tryd.prog 87 #[.slice A n c, .func (.func g) #[] #[]] w (RetIdx w p n) := by
  have HR := Lib.hid hr; have HP := Lib.hid hp; have HX := Lib.hid hx
  clear hr hp hx
  go_enter Tryd.func87, Tryd.ntmps87
  go_wp2
  go_loopw [8] (fun i wr => ∃ k : Nat, k ≤ n ∧ i = .int .i64 k ∧ Hid (∀ j, j < k → p j = false) ∧ Below w.heap.size w wr) (fun i _ => n - (intOf i).toNat)
  case atStart => exact ⟨0, Nat.zero_le _, rfl, Lib.hid (fun j hj => by omega), bl_refl w⟩
  case round =>
    obtain ⟨k, hk, rfl, hno, hb⟩ := hrel
    by_cases hlt : k < n
    · have hxk : xs[k]? = some xs[k]! := by rw [getElem!_pos xs k (by rw [HX.out]; exact hlt)]; exact List.getElem?_eq_getElem _
      obtain ⟨ad, rfl, hcell⟩ := HR.out k _ hxk
      have hc2 := cell_below hb hcell
      have hpk := HP.out k _ hxk wr hb
      clear hxk hcell
      generalize xs[k]! = x at *
      have HPK := Lib.hid hpk
      clear hpk
      cases hpv : p k with
      | true =>
        have HV := Lib.hid hpv
        have hpk := HPK.out
        rw [hpv] at hpk
        clear hpv HPK
        go_wp2_with (refine hpk.mono ?_; rintro e w3 ⟨rfl, hb3⟩)
        go_ret
        exact RetIdx.yes hlt HV.out hno.out (bl_step hb3 hb)
      | false =>
        have HV := Lib.hid hpv
        have hpk := HPK.out
        rw [hpv] at hpk
        clear hpv HPK
        go_wp2_with (refine hpk.mono ?_; rintro e w3 ⟨rfl, hb3⟩)
        go_roundw
        case rel =>
          refine ⟨k + 1, by omega, by go_num, Lib.hid (fun j hj => ?_), bl_step hb3 hb⟩
          by_cases e : j = k
          · subst e; exact HV.out
          · exact hno.out j (by omega)
        case measure => simp [intOf]; omega
    · obtain rfl : k = n := by omega
      go_wp2
      go_ret
      exact RetIdx.no hno.out hb
set_option maxRecDepth 100000 in
set_option maxHeartbeats 1000000 in
theorem term_contains (g : FuncId) (hcall : ∀ args W, (callFunc g args).run Tryd.prog W = .ok (.enter g args) W) (A : Option Addr) (n c : Nat) (xs : List Value) (hx : xs.length = n) (p : Nat → Bool) (w : World) (hr : Rd w A xs) (hn : n ≤ 140737488355328) (hp : PredOn g w xs p) :
    Calls Tryd.prog 67 #[.slice A n c, .func (.func g) #[] #[]] w fun e w' => e = .returned (.bool (anyTo p n)) ∧ Below w.heap.size w w' := by
  have hi := term_index g hcall A n c xs hx p w hr hn hp
  have HI := Lib.hid hi
  clear hr hp hi hx
  go_enter Tryd.func67, Tryd.ntmps67
  go_wp2_with (refine HI.out.mono ?_; intro e w1 hq; obtain ⟨r, rfl, h0, h1, h2, hb⟩ := hq)
  have H1 := Lib.hid h1; have H2 := Lib.hid h2
  clear h1 h2 HI
  by_cases hr : 0 ≤ r
  · go_wp2
    go_ret
    obtain ⟨j, hj, _, hpj, _⟩ := H2.out hr
    refine ⟨ret_boolS ?_, hb⟩
    rw [anyTo_true hj hpj]
    simpa using hr
  · go_wp2
    go_ret
    refine ⟨ret_boolS ?_, hb⟩
    rw [H1.out (by omega)]
    simpa using hr
def allTo (p : Nat → Bool) (n : Nat) : Bool := (List.range n).all p
theorem allTo_false {p : Nat → Bool} {n j : Nat} (hj : j < n) (h : p j = false) : allTo p n = false := by
  unfold allTo; rw [List.all_eq_false]; exact ⟨j, List.mem_range.2 hj, by rw [h]; simp⟩
theorem allTo_true {p : Nat → Bool} {n : Nat} (h : ∀ j, j < n → p j = true) : allTo p n = true := by
  unfold allTo; rw [List.all_eq_true]; intro j hj; exact h j (List.mem_range.1 hj)
/-- What a comparison answers of each two elements, in whatever memory is made later. -/
def Pred2On (g : FuncId) (w : World) (xs ys : List Value) (p : Nat → Bool) : Prop :=
  ∀ (j : Nat) (x y : Value), xs[j]? = some x → ys[j]? = some y → ∀ W, Below w.heap.size w W → Calls Tryd.prog g #[x, y] W fun e W' => e = .returned (.bool (p j)) ∧ Below W.heap.size W W'
end Go.Proofs.YtapbkomicihkkaaDoor
