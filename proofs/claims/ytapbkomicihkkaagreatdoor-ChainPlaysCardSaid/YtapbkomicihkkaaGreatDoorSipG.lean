/- Numbers as eight bytes, the greatest first: package pack. -/
import Derived.Test.YtapbkomicihkkaaGreatDoorBase
import Derived.Test.YtapbkomicihkkaaGreatDoorKeep
import Derived.Laws.BytesArg
import Derived.Test.YtapbkomicihkkaaGreatDoorRd
import Derived.Laws.Bits64
namespace Go.Proofs.YtapbkomicihkkaaGreatDoor
open Go.RowKit
set_option linter.unusedVariables false
set_option linter.unusedSimpArgs false

/-- Of n cells the first k are filled by f; the others hold z. -/
def filled (n k : Nat) (f : Nat → Value) (z : Value) : Array Value := ((List.range n).map fun j => if j < k then f j else z).toArray
theorem filled_size (n k : Nat) (f : Nat → Value) (z : Value) : (filled n k f z).size = n := by simp [filled]
theorem filled_get (n k : Nat) (f : Nat → Value) (z : Value) (j : Nat) (h : j < n) : (filled n k f z)[j]? = some (if j < k then f j else z) := by
  simp [filled, h]
theorem filled_set (n k : Nat) (f : Nat → Value) (z : Value) : (filled n k f z).setIfInBounds k (f k) = filled n (k + 1) f z := by
  apply Array.ext_getElem?
  intro j
  rw [Array.getElem?_setIfInBounds]
  by_cases hj : j < n
  · rw [filled_get n k f z j hj, filled_get n (k + 1) f z j hj, filled_size]
    by_cases hk : k = j
    · subst hk; simp [hj]
    · rw [if_neg hk]
      congr 1
      by_cases h2 : j < k
      · rw [if_pos h2, if_pos (by omega)]
      · rw [if_neg h2, if_neg (by omega)]
  · have h1 : (filled n k f z)[j]? = none := by rw [Array.getElem?_eq_none]; rw [filled_size]; omega
    have h2 : (filled n (k + 1) f z)[j]? = none := by rw [Array.getElem?_eq_none]; rw [filled_size]; omega
    rw [h1, h2, filled_size]
    simp
    intro e; omega
theorem filled_zero (n : Nat) (f : Nat → Value) (z : Value) : filled n 0 f z = Array.replicate n z := by
  apply Array.ext_getElem?
  intro j
  by_cases hj : j < n
  · rw [filled_get n 0 f z j hj]; simp [hj]
  · rw [Array.getElem?_eq_none (by rw [filled_size]; omega), Array.getElem?_eq_none (by simp; omega)]
theorem filled_all (n : Nat) (f : Nat → Value) (z : Value) : filled n n f z = ((List.range n).map f).toArray := by
  unfold filled
  congr 1
  apply List.map_congr_left
  intro j hj
  rw [if_pos (List.mem_range.1 hj)]
end Go.Proofs.YtapbkomicihkkaaGreatDoor
namespace Go.Proofs.YtapbkomicihkkaaGreatDoor
open Go.RowKit
set_option linter.unusedVariables false
set_option linter.unusedSimpArgs false

def str (l : List UInt8) : ByteArray := ⟨l.toArray⟩
theorem str_data (l : List UInt8) : (str l).data.toList = l := by simp [str]
theorem byts_nums (l : List UInt8) : byts l = (l.map fun b => (b.toNat : Int)).map (Value.int .u8) := by simp [byts]
theorem strOfNums_byts (l : List UInt8) : strOfNums (l.map fun b => (b.toNat : Int)) = str l := by
  unfold strOfNums str
  congr 2
  rw [List.map_map]
  conv => rhs; rw [← List.map_id l]
  apply List.map_congr_left
  intro b _
  simp
theorem conv_bytes {P : Program} (w : World) (src e : TypeId) (hs : P.underlying src = some (.slice e)) (he : P.underlying e = some (.int .u8)) (dst : TypeId) (hd : P.underlying dst = some .string)
    (A : Option Addr) (n c : Nat) (l : List UInt8) (hn : l.length = n) (hr : Rd w A (byts l)) : (convert src dst (.slice A n c)).run P w = .ok (.string (str l)) w := by
  subst hn
  cases A with
  | none =>
    cases l with
    | nil => exact run_convert_bytes_nil w src e hs he 0 c dst hd
    | cons b l => obtain ⟨_, e, _⟩ := hr 0 _ (byts_get (b :: l) 0 (by simp)); cases e
  | some ad =>
    have hl : (loadCells ad l.length).run P w = .ok ((l.map fun b => (b.toNat : Int)).map (Value.int .u8)).toArray w := by
      have := run_loadCells_list (P := P) w ad (byts l) (fun j v hj => by
        obtain ⟨ad', e1, hc⟩ := hr j v hj
        cases e1
        exact hc)
      rw [byts_length] at this
      rw [this, byts_nums]
    rw [run_convert_bytes_string w src dst e _ l.length c hs he hd, run_bytesToString w _ l.length c _ hl, foldl_push_bytes, ← strOfNums_byts]
    simp [strOfNums, ByteArray.empty, ByteArray.emptyWithCapacity]
    rfl
theorem str_toList (l : List UInt8) : (str l).toList = l := by rw [ByteArray.toList_eq]; exact str_data l

end Go.Proofs.YtapbkomicihkkaaGreatDoor
namespace Go.Proofs.YtapbkomicihkkaaGreatDoor
open Go.RowKit
set_option linter.unusedVariables false
set_option linter.unusedSimpArgs false

/-- It returns a slice that it made. -/
def RetOwn (w : World) (e size n : Nat) (xs : List Value) (en : Ending) (w' : World) : Prop := ∃ v, en = .returned v ∧ Own w w' e size v n xs ∧ Below w.heap.size w w'
theorem info_u8 : (Tryz.prog.info? 5).map (fun i => (i.zero, i.size, i.bytes)) = some (some (.int .u8 0), 1, 1) := by kernel_rfl
theorem byts_one (l : List UInt8) : ∀ u ∈ byts l, u.oneCell' = true := by
  intro u hu
  obtain ⟨b, _, rfl⟩ := List.mem_map.1 hu
  rfl

end Go.Proofs.YtapbkomicihkkaaGreatDoor
namespace Go.Proofs.YtapbkomicihkkaaGreatDoor
open Go.RowKit
set_option linter.unusedVariables false
set_option linter.unusedSimpArgs false

/-- A number of 64 binary digits. -/
def isU (x : Int) : Prop := 0 ≤ x ∧ x < 18446744073709551616
theorem isU_wrap (x : Int) : isU (IntKind.u64.wrap x) := by rw [IntKind.wrap_u64]; unfold isU; omega
def add64 (x y : Int) : Int := IntKind.u64.wrap (x + y)
def xor64 (x y : Int) : Int := bits .xor .u64 x y
theorem isU_add (x y : Int) : isU (add64 x y) := isU_wrap _
theorem isU_bits (op : BinOp) (x y : Int) : isU (bits op .u64 x y) := by
  unfold bits; split <;> first | exact isU_wrap _ | exact ⟨by decide, by decide⟩
theorem isU_xor (x y : Int) : isU (xor64 x y) := isU_bits _ _ _
/-- A number of 64 digits, turned left. -/
def rot (x : Int) (k : Nat) : Int := bits .or .u64 (IntKind.u64.wrap (x * 2 ^ k)) (x / 2 ^ (64 - k))
theorem isU_rot (x : Int) (k : Nat) : isU (rot x k) := isU_bits _ _ _

theorem rot_calls (x : Int) (k : Nat) (w : World) (h : isU x) (hk : k = 13 ∨ k = 16 ∨ k = 17 ∨ k = 21 ∨ k = 32) :
    Calls Tryz.prog 115 #[.int .u64 x, .int .i64 (k : Int)] w fun e w' => e = .returned (.int .u64 (rot x k)) ∧ w' = w := by
  obtain ⟨h0, h1⟩ := h
  have b13 : bits .and .u64 13 63 = 13 := by decide
  have b16 : bits .and .u64 16 63 = 16 := by decide
  have b17 : bits .and .u64 17 63 = 17 := by decide
  have b21 : bits .and .u64 21 63 = 21 := by decide
  have b32 : bits .and .u64 32 63 = 32 := by decide
  rcases hk with rfl | rfl | rfl | rfl | rfl
  all_goals
    go_enter Tryz.func115, Tryz.ntmps115
    go_wp2
    go_ret
    exact ⟨by simp [rot], rfl⟩
theorem left_calls (x : Int) (k : Nat) (w : World) (h : isU x) (hk : k = 13 ∨ k = 16 ∨ k = 17 ∨ k = 21 ∨ k = 32) :
    Calls Tryz.prog 118 #[.int .u64 x, .int .u64 (k : Int)] w fun e w' => e = .returned (.int .u64 (rot x k)) ∧ w' = w := by
  obtain ⟨h0, h1⟩ := h
  rcases hk with rfl | rfl | rfl | rfl | rfl
  all_goals
    go_enter Tryz.func118, Tryz.ntmps118
    go_wp2
    go_ret
    exact ⟨by simp [rot], rfl⟩

/-- The four numbers of a state. -/
structure Four where
  (a b c d : Int)
def Four.cells (s : Four) : Array Value := #[.int .u64 s.a, .int .u64 s.b, .int .u64 s.c, .int .u64 s.d]
def Four.U (s : Four) : Prop := isU s.a ∧ isU s.b ∧ isU s.c ∧ isU s.d
/-- One round. -/
def Four.rnd (s : Four) : Four :=
  let a1 := add64 s.a s.b
  let b1 := xor64 (rot s.b 13) a1
  let a2 := rot a1 32
  let c1 := add64 s.c s.d
  let d1 := xor64 (rot s.d 16) c1
  let a3 := add64 a2 d1
  let d2 := xor64 (rot d1 21) a3
  let c2 := add64 c1 b1
  let b2 := xor64 (rot b1 17) c2
  let c3 := rot c2 32
  ⟨a3, b2, c3, d2⟩
theorem Four.rnd_U (s : Four) : s.rnd.U := ⟨isU_add _ _, isU_xor _ _, isU_rot _ _, isU_xor _ _⟩

/-- A state in memory. -/
def IsSt (w0 w : World) (g : Nat) (a b c d : Int) : Prop := Blk w g #[.int .u64 a, .int .u64 b, .int .u64 c, .int .u64 d] 108 ∧ (isU a ∧ isU b ∧ isU c ∧ isU d) ∧ w0.grownBy w (some g)
theorem IsSt.drew {w0 w : World} {g : Nat} {a b c d : Int} (h : IsSt w0 w g a b c d) : IsSt w0 w.drew g a b c d := ⟨h.1.drew, h.2.1, gb_drew h.2.2⟩
theorem IsSt.set0 {w0 w : World} {g : Nat} {a b c d : Int} (h : IsSt w0 w g a b c d) (x : Int) (hx : isU x) : IsSt w0 (w.setCell ⟨g, 0, none⟩ (.int .u64 x)) g x b c d := ⟨h.1.set 0 _, ⟨hx, h.2.1.2⟩, gb_trans h.2.2 (gb_set 0 _)⟩
theorem IsSt.set1 {w0 w : World} {g : Nat} {a b c d : Int} (h : IsSt w0 w g a b c d) (x : Int) (hx : isU x) : IsSt w0 (w.setCell ⟨g, 1, none⟩ (.int .u64 x)) g a x c d := ⟨h.1.set 1 _, ⟨h.2.1.1, hx, h.2.1.2.2⟩, gb_trans h.2.2 (gb_set 1 _)⟩
theorem IsSt.set2 {w0 w : World} {g : Nat} {a b c d : Int} (h : IsSt w0 w g a b c d) (x : Int) (hx : isU x) : IsSt w0 (w.setCell ⟨g, 2, none⟩ (.int .u64 x)) g a b x d := ⟨h.1.set 2 _, ⟨h.2.1.1, h.2.1.2.1, hx, h.2.1.2.2.2⟩, gb_trans h.2.2 (gb_set 2 _)⟩
theorem IsSt.set3 {w0 w : World} {g : Nat} {a b c d : Int} (h : IsSt w0 w g a b c d) (x : Int) (hx : isU x) : IsSt w0 (w.setCell ⟨g, 3, none⟩ (.int .u64 x)) g a b c x := ⟨h.1.set 3 _, ⟨h.2.1.1, h.2.1.2.1, h.2.1.2.2.1, hx⟩, gb_trans h.2.2 (gb_set 3 _)⟩
theorem IsSt.facts {w0 w : World} {g : Nat} {a b c d : Int} (h : IsSt w0 w g a b c d) : w.cell? ⟨g, 0, none⟩ = some (.int .u64 a) ∧ w.cell? ⟨g, 1, none⟩ = some (.int .u64 b) ∧ w.cell? ⟨g, 2, none⟩ = some (.int .u64 c) ∧ w.cell? ⟨g, 3, none⟩ = some (.int .u64 d) ∧
    w.frozen? ⟨g, 0, none⟩ = false ∧ w.frozen? ⟨g, 1, none⟩ = false ∧ w.frozen? ⟨g, 2, none⟩ = false ∧ w.frozen? ⟨g, 3, none⟩ = false :=
  ⟨h.1.cell 0, h.1.cell 1, h.1.cell 2, h.1.cell 3, h.1.frozen 0, h.1.frozen 1, h.1.frozen 2, h.1.frozen 3⟩

theorem rot13 (x : Int) (w : World) (h : isU x) : Calls Tryz.prog 115 #[.int .u64 x, .int .i64 13] w fun e w' => e = .returned (.int .u64 (rot x 13)) ∧ w' = w := rot_calls x 13 w h (by decide)
theorem left13 (x : Int) (w : World) (h : isU x) : Calls Tryz.prog 118 #[.int .u64 x, .int .u64 13] w fun e w' => e = .returned (.int .u64 (rot x 13)) ∧ w' = w := left_calls x 13 w h (by decide)
theorem rot16 (x : Int) (w : World) (h : isU x) : Calls Tryz.prog 115 #[.int .u64 x, .int .i64 16] w fun e w' => e = .returned (.int .u64 (rot x 16)) ∧ w' = w := rot_calls x 16 w h (by decide)
theorem left16 (x : Int) (w : World) (h : isU x) : Calls Tryz.prog 118 #[.int .u64 x, .int .u64 16] w fun e w' => e = .returned (.int .u64 (rot x 16)) ∧ w' = w := left_calls x 16 w h (by decide)
theorem rot17 (x : Int) (w : World) (h : isU x) : Calls Tryz.prog 115 #[.int .u64 x, .int .i64 17] w fun e w' => e = .returned (.int .u64 (rot x 17)) ∧ w' = w := rot_calls x 17 w h (by decide)
theorem left17 (x : Int) (w : World) (h : isU x) : Calls Tryz.prog 118 #[.int .u64 x, .int .u64 17] w fun e w' => e = .returned (.int .u64 (rot x 17)) ∧ w' = w := left_calls x 17 w h (by decide)
theorem rot21 (x : Int) (w : World) (h : isU x) : Calls Tryz.prog 115 #[.int .u64 x, .int .i64 21] w fun e w' => e = .returned (.int .u64 (rot x 21)) ∧ w' = w := rot_calls x 21 w h (by decide)
theorem left21 (x : Int) (w : World) (h : isU x) : Calls Tryz.prog 118 #[.int .u64 x, .int .u64 21] w fun e w' => e = .returned (.int .u64 (rot x 21)) ∧ w' = w := left_calls x 21 w h (by decide)
theorem rot32 (x : Int) (w : World) (h : isU x) : Calls Tryz.prog 115 #[.int .u64 x, .int .i64 32] w fun e w' => e = .returned (.int .u64 (rot x 32)) ∧ w' = w := rot_calls x 32 w h (by decide)
theorem left32 (x : Int) (w : World) (h : isU x) : Calls Tryz.prog 118 #[.int .u64 x, .int .u64 32] w fun e w' => e = .returned (.int .u64 (rot x 32)) ∧ w' = w := left_calls x 32 w h (by decide)

set_option maxRecDepth 100000 in
set_option maxHeartbeats 8000000 in
theorem round_calls (w0 : World) (g : Nat) (a b c d : Int) (w : World) (hs : IsSt w0 w g a b c d) :
    Calls Tryz.prog 84 #[.pointer (some ⟨g, 0, none⟩)] w fun e w' => e = .returned (.tuple #[]) ∧ IsSt w0 w' g (Four.rnd ⟨a, b, c, d⟩).a (Four.rnd ⟨a, b, c, d⟩).b (Four.rnd ⟨a, b, c, d⟩).c (Four.rnd ⟨a, b, c, d⟩).d := by
  go_enter Tryz.func84, Tryz.ntmps84
  obtain ⟨c0, c1, c2, c3, f0, f1, f2, f3⟩ := hs.facts
  go_wp2_with fail
  refine wp_region_still_tail 11 (by kernel_rfl) (by kernel_rfl) ?_
  simp only [List.take_succ_cons, List.take_zero, List.drop_succ_cons, List.drop_zero]
  repeat still_step
  refine wpStill_nil ?_
  change wpList _ _ _ _ _ (World.drew _)
  replace hs := hs.drew
  generalize World.drew _ = w2 at hs ⊢
  clear c0 c1 c2 c3 f0 f1 f2 f3
  obtain ⟨c0, c1, c2, c3, f0, f1, f2, f3⟩ := hs.facts
  go_wp2_with fail
  replace hs := hs.set0 (add64 (a) (b)) (isU_add _ _)
  change Code.wp _ _ _ _ (World.setCell _ ⟨g, 0, none⟩ (.int .u64 (add64 (a) (b))))
  generalize World.setCell _ _ _ = w3 at hs ⊢
  clear c0 c1 c2 c3 f0 f1 f2 f3
  obtain ⟨c0, c1, c2, c3, f0, f1, f2, f3⟩ := hs.facts
  refine wp_region_still_tail 13 (by kernel_rfl) (by kernel_rfl) ?_
  simp only [List.take_succ_cons, List.take_zero, List.drop_succ_cons, List.drop_zero]
  repeat still_step
  still_call (rot13 _ _ hs.2.1.2.1)
  repeat still_step
  refine wpStill_nil ?_
  change wpList _ _ _ _ _ (World.drew _)
  replace hs := hs.drew
  generalize World.drew _ = w2 at hs ⊢
  clear c0 c1 c2 c3 f0 f1 f2 f3
  obtain ⟨c0, c1, c2, c3, f0, f1, f2, f3⟩ := hs.facts
  go_wp2_with fail
  replace hs := hs.set1 (xor64 (rot (b) 13) (add64 (a) (b))) (isU_xor _ _)
  change Calls _ _ _ (World.setCell _ ⟨g, 1, none⟩ (.int .u64 (xor64 (rot (b) 13) (add64 (a) (b))))) _
  generalize World.setCell _ _ _ = w3 at hs ⊢
  clear c0 c1 c2 c3 f0 f1 f2 f3
  obtain ⟨c0, c1, c2, c3, f0, f1, f2, f3⟩ := hs.facts
  go_wp2_with (go_at_call 115; refine (rot32 _ _ hs.2.1.1).mono ?_; rintro e w4 ⟨rfl, rfl⟩)
  replace hs := hs.set0 (rot (add64 (a) (b)) 32) (isU_rot _ _)
  change Code.wp _ _ _ _ (World.setCell _ ⟨g, 0, none⟩ (.int .u64 (rot (add64 (a) (b)) 32)))
  generalize World.setCell _ _ _ = w3 at hs ⊢
  clear c0 c1 c2 c3 f0 f1 f2 f3
  obtain ⟨c0, c1, c2, c3, f0, f1, f2, f3⟩ := hs.facts
  refine wp_region_still_tail 11 (by kernel_rfl) (by kernel_rfl) ?_
  simp only [List.take_succ_cons, List.take_zero, List.drop_succ_cons, List.drop_zero]
  repeat still_step
  refine wpStill_nil ?_
  change wpList _ _ _ _ _ (World.drew _)
  replace hs := hs.drew
  generalize World.drew _ = w2 at hs ⊢
  clear c0 c1 c2 c3 f0 f1 f2 f3
  obtain ⟨c0, c1, c2, c3, f0, f1, f2, f3⟩ := hs.facts
  go_wp2_with fail
  replace hs := hs.set2 (add64 (c) (d)) (isU_add _ _)
  change Code.wp _ _ _ _ (World.setCell _ ⟨g, 2, none⟩ (.int .u64 (add64 (c) (d))))
  generalize World.setCell _ _ _ = w3 at hs ⊢
  clear c0 c1 c2 c3 f0 f1 f2 f3
  obtain ⟨c0, c1, c2, c3, f0, f1, f2, f3⟩ := hs.facts
  refine wp_region_still_tail 13 (by kernel_rfl) (by kernel_rfl) ?_
  simp only [List.take_succ_cons, List.take_zero, List.drop_succ_cons, List.drop_zero]
  repeat still_step
  still_call (rot16 _ _ hs.2.1.2.2.2)
  repeat still_step
  refine wpStill_nil ?_
  change wpList _ _ _ _ _ (World.drew _)
  replace hs := hs.drew
  generalize World.drew _ = w2 at hs ⊢
  clear c0 c1 c2 c3 f0 f1 f2 f3
  obtain ⟨c0, c1, c2, c3, f0, f1, f2, f3⟩ := hs.facts
  go_wp2_with fail
  replace hs := hs.set3 (xor64 (rot (d) 16) (add64 (c) (d))) (isU_xor _ _)
  change Code.wp _ _ _ _ (World.setCell _ ⟨g, 3, none⟩ (.int .u64 (xor64 (rot (d) 16) (add64 (c) (d)))))
  generalize World.setCell _ _ _ = w3 at hs ⊢
  clear c0 c1 c2 c3 f0 f1 f2 f3
  obtain ⟨c0, c1, c2, c3, f0, f1, f2, f3⟩ := hs.facts
  refine wp_region_still_tail 11 (by kernel_rfl) (by kernel_rfl) ?_
  simp only [List.take_succ_cons, List.take_zero, List.drop_succ_cons, List.drop_zero]
  repeat still_step
  refine wpStill_nil ?_
  change wpList _ _ _ _ _ (World.drew _)
  replace hs := hs.drew
  generalize World.drew _ = w2 at hs ⊢
  clear c0 c1 c2 c3 f0 f1 f2 f3
  obtain ⟨c0, c1, c2, c3, f0, f1, f2, f3⟩ := hs.facts
  go_wp2_with fail
  replace hs := hs.set0 (add64 (rot (add64 (a) (b)) 32) (xor64 (rot (d) 16) (add64 (c) (d)))) (isU_add _ _)
  change Code.wp _ _ _ _ (World.setCell _ ⟨g, 0, none⟩ (.int .u64 (add64 (rot (add64 (a) (b)) 32) (xor64 (rot (d) 16) (add64 (c) (d))))))
  generalize World.setCell _ _ _ = w3 at hs ⊢
  clear c0 c1 c2 c3 f0 f1 f2 f3
  obtain ⟨c0, c1, c2, c3, f0, f1, f2, f3⟩ := hs.facts
  refine wp_region_still_tail 13 (by kernel_rfl) (by kernel_rfl) ?_
  simp only [List.take_succ_cons, List.take_zero, List.drop_succ_cons, List.drop_zero]
  repeat still_step
  still_call (rot21 _ _ hs.2.1.2.2.2)
  repeat still_step
  refine wpStill_nil ?_
  change wpList _ _ _ _ _ (World.drew _)
  replace hs := hs.drew
  generalize World.drew _ = w2 at hs ⊢
  clear c0 c1 c2 c3 f0 f1 f2 f3
  obtain ⟨c0, c1, c2, c3, f0, f1, f2, f3⟩ := hs.facts
  go_wp2_with fail
  replace hs := hs.set3 (xor64 (rot (xor64 (rot (d) 16) (add64 (c) (d))) 21) (add64 (rot (add64 (a) (b)) 32) (xor64 (rot (d) 16) (add64 (c) (d))))) (isU_xor _ _)
  change Code.wp _ _ _ _ (World.setCell _ ⟨g, 3, none⟩ (.int .u64 (xor64 (rot (xor64 (rot (d) 16) (add64 (c) (d))) 21) (add64 (rot (add64 (a) (b)) 32) (xor64 (rot (d) 16) (add64 (c) (d)))))))
  generalize World.setCell _ _ _ = w3 at hs ⊢
  clear c0 c1 c2 c3 f0 f1 f2 f3
  obtain ⟨c0, c1, c2, c3, f0, f1, f2, f3⟩ := hs.facts
  refine wp_region_still_tail 11 (by kernel_rfl) (by kernel_rfl) ?_
  simp only [List.take_succ_cons, List.take_zero, List.drop_succ_cons, List.drop_zero]
  repeat still_step
  refine wpStill_nil ?_
  change wpList _ _ _ _ _ (World.drew _)
  replace hs := hs.drew
  generalize World.drew _ = w2 at hs ⊢
  clear c0 c1 c2 c3 f0 f1 f2 f3
  obtain ⟨c0, c1, c2, c3, f0, f1, f2, f3⟩ := hs.facts
  go_wp2_with fail
  replace hs := hs.set2 (add64 (add64 (c) (d)) (xor64 (rot (b) 13) (add64 (a) (b)))) (isU_add _ _)
  change Code.wp _ _ _ _ (World.setCell _ ⟨g, 2, none⟩ (.int .u64 (add64 (add64 (c) (d)) (xor64 (rot (b) 13) (add64 (a) (b))))))
  generalize World.setCell _ _ _ = w3 at hs ⊢
  clear c0 c1 c2 c3 f0 f1 f2 f3
  obtain ⟨c0, c1, c2, c3, f0, f1, f2, f3⟩ := hs.facts
  refine wp_region_still_tail 13 (by kernel_rfl) (by kernel_rfl) ?_
  simp only [List.take_succ_cons, List.take_zero, List.drop_succ_cons, List.drop_zero]
  repeat still_step
  still_call (rot17 _ _ hs.2.1.2.1)
  repeat still_step
  refine wpStill_nil ?_
  change wpList _ _ _ _ _ (World.drew _)
  replace hs := hs.drew
  generalize World.drew _ = w2 at hs ⊢
  clear c0 c1 c2 c3 f0 f1 f2 f3
  obtain ⟨c0, c1, c2, c3, f0, f1, f2, f3⟩ := hs.facts
  go_wp2_with fail
  replace hs := hs.set1 (xor64 (rot (xor64 (rot (b) 13) (add64 (a) (b))) 17) (add64 (add64 (c) (d)) (xor64 (rot (b) 13) (add64 (a) (b))))) (isU_xor _ _)
  change Calls _ _ _ (World.setCell _ ⟨g, 1, none⟩ (.int .u64 (xor64 (rot (xor64 (rot (b) 13) (add64 (a) (b))) 17) (add64 (add64 (c) (d)) (xor64 (rot (b) 13) (add64 (a) (b))))))) _
  generalize World.setCell _ _ _ = w3 at hs ⊢
  clear c0 c1 c2 c3 f0 f1 f2 f3
  obtain ⟨c0, c1, c2, c3, f0, f1, f2, f3⟩ := hs.facts
  go_wp2_with (go_at_call 115; refine (rot32 _ _ hs.2.1.2.2.1).mono ?_; rintro e w4 ⟨rfl, rfl⟩)
  replace hs := hs.set2 (rot (add64 (add64 (c) (d)) (xor64 (rot (b) 13) (add64 (a) (b)))) 32) (isU_rot _ _)
  change bodyPost _ _ _ _ _ (World.setCell _ ⟨g, 2, none⟩ (.int .u64 (rot (add64 (add64 (c) (d)) (xor64 (rot (b) 13) (add64 (a) (b)))) 32)))
  generalize World.setCell _ _ _ = w3 at hs ⊢
  clear c0 c1 c2 c3 f0 f1 f2 f3
  obtain ⟨c0, c1, c2, c3, f0, f1, f2, f3⟩ := hs.facts
  go_end0
  exact ⟨rfl, hs⟩
end Go.Proofs.YtapbkomicihkkaaGreatDoor
namespace Go.Proofs.YtapbkomicihkkaaGreatDoor
open Go.RowKit
set_option linter.unusedVariables false
set_option linter.unusedSimpArgs false

/-- Bytes as a number, the least first: what 'low' adds at place i. -/
def lowAt (n : Int) (i : Nat) (c : UInt8) : Int := bits .or .u64 n (IntKind.u64.wrap ((c.toNat : Int) * 2 ^ min (8 * i) 64))
def lowFrom (n : Int) : Nat → List UInt8 → Int
  | _, [] => n
  | i, c :: l => lowFrom (lowAt n i c) (i + 1) l
theorem lowFrom_snoc (l : List UInt8) (c : UInt8) : ∀ n i, lowFrom n i (l ++ [c]) = lowAt (lowFrom n i l) (i + l.length) c := by
  induction l with
  | nil => intro n i; simp [lowFrom]
  | cons x l ih => intro n i; simp only [List.cons_append, lowFrom, ih, List.length_cons]; rw [show i + 1 + l.length = i + (l.length + 1) by omega]
theorem isU_lowFrom (l : List UInt8) : ∀ n i, isU n → isU (lowFrom n i l) := by
  induction l with
  | nil => intro n i h; exact h
  | cons x l ih => intro n i _; exact ih _ _ (isU_bits _ _ _)
def lowI (l : List UInt8) : Int := lowFrom 0 0 l
theorem isU_low (l : List UInt8) : isU (lowI l) := isU_lowFrom _ _ _ ⟨by decide, by decide⟩

set_option maxRecDepth 100000 in
set_option maxHeartbeats 1000000 in
theorem low_calls (A : Option Addr) (c : Nat) (l : List UInt8) (w : World) (hr : Rd w A (byts l)) (hl : l.length ≤ 140737488351232) :
    Calls Tryz.prog 52 #[.slice A l.length c] w fun e w' => e = .returned (.int .u64 (lowI l)) ∧ w' = w := by
  have HR := Lib.hid hr
  clear hr
  go_enter Tryz.func52, Tryz.ntmps52
  go_wp2
  go_loop [3, 8] (fun n i => ∃ k : Nat, k ≤ l.length ∧ i = .int .i64 k ∧ n = .int .u64 (lowI (l.take k))) (fun _ i => l.length - (intOf i).toNat)
  case atStart => exact ⟨0, Nat.zero_le _, rfl, rfl⟩
  case round =>
    obtain ⟨k, hk, rfl, rfl⟩ := hrel
    by_cases hlt : k < l.length
    · obtain ⟨ad, hA, hcell⟩ := HR.out k _ (byts_get l k hlt)
      subst hA
      have hb := l[k].toNat_lt
      have hsh := fun w' => (run_shl Tryz.prog .u64 .i64 (l[k].toNat : Int) (8 * (k : Int)) (by omega) w')
      rw [show min (8 * (k : Int)).toNat IntKind.u64.bits = min (8 * k) 64 by rw [show (8 * (k : Int)).toNat = 8 * k by omega]; rfl] at hsh
      have HS : Hid (lowI (l.take (k + 1)) = lowAt (lowI (l.take k)) k l[k]) := by
        show lowI (l.take (k + 1)) = lowAt (lowI (l.take k)) k l[k]
        unfold lowI
        rw [List.take_succ_eq_append_getElem hlt, lowFrom_snoc, List.length_take, Nat.zero_add, Nat.min_eq_left (by omega)]
      go_wp2
      go_round
      case rel => exact ⟨k + 1, by omega, by go_num, by rw [HS.out]; rfl⟩
      case measure => simp [intOf]; omega
    · go_wp2
      go_ret
      have hk' : k = l.length := by omega
      subst hk'
      simp
theorem low_at (A : Option Addr) (c n : Nat) (l : List UInt8) (w : World) (hn : l.length = n) (hr : Rd w A (byts l)) (hl : n ≤ 140737488351232) :
    Calls Tryz.prog 52 #[.slice A n c] w fun e w' => e = .returned (.int .u64 (lowI l)) ∧ w' = w := by
  subst hn; exact low_calls A c l w hr hl

end Go.Proofs.YtapbkomicihkkaaGreatDoor
namespace Go.Proofs.YtapbkomicihkkaaGreatDoor
open Go.RowKit
set_option linter.unusedVariables false
set_option linter.unusedSimpArgs false

def Is4 (w0 w : World) (g : Nat) (s : Four) : Prop := IsSt w0 w g s.a s.b s.c s.d
theorem Is4.mk {w0 w : World} {g : Nat} {a b c d : Int} (h : IsSt w0 w g a b c d) : Is4 w0 w g ⟨a, b, c, d⟩ := h
def Four.rnds : Nat → Four → Four
  | 0, s => s
  | n + 1, s => (Four.rnds n s).rnd
theorem round_at (w0 : World) (g : Nat) (s : Four) (w : World) (hs : Is4 w0 w g s) :
    Calls Tryz.prog 84 #[.pointer (some ⟨g, 0, none⟩)] w fun e w' => e = .returned (.tuple #[]) ∧ Is4 w0 w' g s.rnd :=
  (round_calls w0 g s.a s.b s.c s.d w hs).mono fun _ _ h => h

set_option maxRecDepth 100000 in
set_option maxHeartbeats 1000000 in
theorem rounds_calls (w0 : World) (g : Nat) (s : Four) (n : Nat) (hn : n ≤ 1000000) (w : World) (hs : Is4 w0 w g s) :
    Calls Tryz.prog 54 #[.pointer (some ⟨g, 0, none⟩), .int .i64 (n : Int)] w fun e w' => e = .returned (.tuple #[]) ∧ Is4 w0 w' g (s.rnds n) := by
  go_enter Tryz.func54, Tryz.ntmps54
  go_wp2_with fail
  go_loopw [5] (fun i wr => ∃ k : Nat, k ≤ n ∧ i = .int .i64 k ∧ Is4 w0 wr g (s.rnds k)) (fun i _ => n - (intOf i).toNat)
  case atStart => exact ⟨0, Nat.zero_le _, rfl, hs⟩
  case round =>
    obtain ⟨k, hk, rfl, hk4⟩ := hrel
    by_cases hlt : k < n
    · go_wp2_with (go_at_call 84; refine (round_at w0 g _ _ hk4).mono ?_; rintro e w4 ⟨rfl, h4⟩)
      go_roundw
      case rel => exact ⟨k + 1, by omega, by go_num, h4⟩
      case measure => simp [intOf]; omega
    · go_wp2_with fail
      go_end0
      have hk' : k = n := by omega
      subst hk'
      exact ⟨rfl, hk4⟩

/-- A number is taken. -/
def Four.put (t : Four) (m : Int) : Four := ⟨xor64 t.a m, t.b, t.c, t.d⟩
def Four.pre (s : Four) (m : Int) : Four := ⟨s.a, s.b, s.c, xor64 s.d m⟩
def Four.take (s : Four) (m : Int) : Four := (Four.rnds 2 (s.pre m)).put m
theorem Is4.put {w0 w : World} {g : Nat} {t : Four} (h : Is4 w0 w g t) (m : Int) : Is4 w0 (w.setCell ⟨g, 0, none⟩ (.int .u64 (xor64 t.a m))) g (t.put m) := IsSt.set0 h _ (isU_xor _ _)
theorem Is4.pre {w0 w : World} {g : Nat} {t : Four} (h : Is4 w0 w g t) (m : Int) : Is4 w0 (w.setCell ⟨g, 3, none⟩ (.int .u64 (xor64 t.d m))) g (t.pre m) := IsSt.set3 h _ (isU_xor _ _)

set_option maxRecDepth 100000 in
set_option maxHeartbeats 1000000 in
theorem take_calls (w0 : World) (g : Nat) (s : Four) (m : Int) (w : World) (hs : Is4 w0 w g s) :
    Calls Tryz.prog 53 #[.pointer (some ⟨g, 0, none⟩), .int .u64 m] w fun e w' => e = .returned (.tuple #[]) ∧ Is4 w0 w' g (s.take m) := by
  obtain ⟨c0, c1, c2, c3, f0, f1, f2, f3⟩ := IsSt.facts hs
  go_enter Tryz.func53, Tryz.ntmps53
  go_wp2_with fail
  clear c0 c1 c2 c3 f0 f1 f2 f3
  refine (rounds_calls w0 g (s.pre m) 2 (by decide) _ (hs.pre m)).mono ?_
  have ht : s.take m = (Four.rnds 2 (s.pre m)).put m := rfl
  generalize Four.rnds 2 (s.pre m) = t at ht
  have HT := Lib.hid ht
  clear ht
  rintro e w4 ⟨rfl, h4⟩
  obtain ⟨c0, c1, c2, c3, f0, f1, f2, f3⟩ := IsSt.facts h4
  go_wp2_with fail
  go_end0
  exact ⟨rfl, by rw [HT.out]; exact h4.put m⟩
end Go.Proofs.YtapbkomicihkkaaGreatDoor
namespace Go.Proofs.YtapbkomicihkkaaGreatDoor
open Go.RowKit
set_option linter.unusedVariables false
set_option linter.unusedSimpArgs false

/-- Eight bytes as a number, the least first: from the last one on. -/
def refStep (c : UInt8) (n : Int) : Int := bits .or .u64 (IntKind.u64.wrap (n * 256)) (c.toNat : Int)
def refNum (l : List UInt8) : Int := l.foldr refStep 0
theorem isU_refNum (l : List UInt8) : isU (refNum l) := by
  cases l with
  | nil => exact ⟨by decide, by decide⟩
  | cons c l => exact isU_bits .or _ _

set_option maxRecDepth 100000 in
set_option maxHeartbeats 1000000 in
theorem refnum_calls (A : Option Addr) (c : Nat) (l : List UInt8) (w : World) (hr : Rd w A (byts l)) (hl : l.length = 8) :
    Calls Tryz.prog 86 #[.slice A 8 c] w fun e w' => e = .returned (.int .u64 (refNum l)) ∧ w' = w := by
  have HR := Lib.hid hr
  have HL := Lib.hid hl
  clear hr hl
  go_enter Tryz.func86, Tryz.ntmps86
  go_wp2
  go_loop [3, 4] (fun n i => ∃ k : Nat, k ≤ 8 ∧ i = .int .i64 ((k : Int) - 1) ∧ n = .int .u64 (refNum (l.drop k))) (fun _ i => (intOf i + 1).toNat)
  case atStart => exact ⟨8, by omega, rfl, by rw [List.drop_of_length_le (by rw [HL.out]; omega)]; rfl⟩
  case round =>
    obtain ⟨k, hk, rfl, rfl⟩ := hrel
    cases k with
    | zero =>
      go_wp2
      go_ret
      exact ⟨rfl, rfl⟩
    | succ k =>
      have hlt : k < l.length := by rw [HL.out]; omega
      obtain ⟨ad, hA, hcell⟩ := HR.out k _ (byts_get l k hlt)
      subst hA
      have hb := l[k].toNat_lt
      have HS : Hid (refNum (l.drop k) = bits .or .u64 (IntKind.u64.wrap (refNum (l.drop (k + 1)) * 256)) (l[k].toNat : Int)) := by
        show refNum (l.drop k) = _
        rw [List.drop_eq_getElem_cons hlt]; rfl
      have e1 : ((k + 1 : Nat) : Int) - 1 = (k : Int) := by omega
      rw [e1]
      clear e1
      go_wp2
      go_round
      case rel => exact ⟨k, by omega, rfl, by rw [HS.out]⟩
      case measure => simp [intOf]

/-- The round's array, and its answer's place behind it. -/
def IsAr (w0 w : World) (g : Nat) (a b c d : Int) : Prop := Blk w g #[.int .u64 a, .int .u64 b, .int .u64 c, .int .u64 d] 182 ∧ Blk w (g + 1) #[.int .u64 0, .int .u64 0, .int .u64 0, .int .u64 0] 182 ∧ (isU a ∧ isU b ∧ isU c ∧ isU d) ∧ (Below w0.heap.size w0 w ∧ w0.heap.size = g)
theorem IsAr.drew {w0 w : World} {g : Nat} {a b c d : Int} (h : IsAr w0 w g a b c d) : IsAr w0 w.drew g a b c d := ⟨h.1.drew, h.2.1.drew, h.2.2.1, h.2.2.2.1.drew, h.2.2.2.2⟩
theorem IsAr.set0 {w0 w : World} {g : Nat} {a b c d : Int} (h : IsAr w0 w g a b c d) (x : Int) (hx : isU x) : IsAr w0 (w.setCell ⟨g, 0, none⟩ (.int .u64 x)) g x b c d := ⟨h.1.set 0 _, h.2.1.far _ (by simp) _, ⟨hx, h.2.2.1.2⟩, h.2.2.2.1.setCell (by have := h.2.2.2.2; simp; omega) _, h.2.2.2.2⟩
theorem IsAr.set1 {w0 w : World} {g : Nat} {a b c d : Int} (h : IsAr w0 w g a b c d) (x : Int) (hx : isU x) : IsAr w0 (w.setCell ⟨g, 1, none⟩ (.int .u64 x)) g a x c d := ⟨h.1.set 1 _, h.2.1.far _ (by simp) _, ⟨h.2.2.1.1, hx, h.2.2.1.2.2⟩, h.2.2.2.1.setCell (by have := h.2.2.2.2; simp; omega) _, h.2.2.2.2⟩
theorem IsAr.set2 {w0 w : World} {g : Nat} {a b c d : Int} (h : IsAr w0 w g a b c d) (x : Int) (hx : isU x) : IsAr w0 (w.setCell ⟨g, 2, none⟩ (.int .u64 x)) g a b x d := ⟨h.1.set 2 _, h.2.1.far _ (by simp) _, ⟨h.2.2.1.1, h.2.2.1.2.1, hx, h.2.2.1.2.2.2⟩, h.2.2.2.1.setCell (by have := h.2.2.2.2; simp; omega) _, h.2.2.2.2⟩
theorem IsAr.set3 {w0 w : World} {g : Nat} {a b c d : Int} (h : IsAr w0 w g a b c d) (x : Int) (hx : isU x) : IsAr w0 (w.setCell ⟨g, 3, none⟩ (.int .u64 x)) g a b c x := ⟨h.1.set 3 _, h.2.1.far _ (by simp) _, ⟨h.2.2.1.1, h.2.2.1.2.1, h.2.2.1.2.2.1, hx⟩, h.2.2.2.1.setCell (by have := h.2.2.2.2; simp; omega) _, h.2.2.2.2⟩
theorem IsAr.facts {w0 w : World} {g : Nat} {a b c d : Int} (h : IsAr w0 w g a b c d) : w.cell? ⟨g, 0, none⟩ = some (.int .u64 a) ∧ w.cell? ⟨g, 1, none⟩ = some (.int .u64 b) ∧ w.cell? ⟨g, 2, none⟩ = some (.int .u64 c) ∧ w.cell? ⟨g, 3, none⟩ = some (.int .u64 d) ∧
    w.frozen? ⟨g, 0, none⟩ = false ∧ w.frozen? ⟨g, 1, none⟩ = false ∧ w.frozen? ⟨g, 2, none⟩ = false ∧ w.frozen? ⟨g, 3, none⟩ = false :=
  ⟨h.1.cell 0, h.1.cell 1, h.1.cell 2, h.1.cell 3, h.1.frozen 0, h.1.frozen 1, h.1.frozen 2, h.1.frozen 3⟩
theorem IsAr.facts2 {w0 w : World} {g : Nat} {a b c d : Int} (h : IsAr w0 w g a b c d) : w.cell? ⟨g + 1, 0, none⟩ = some (.int .u64 0) ∧ w.cell? ⟨g + 1, 1, none⟩ = some (.int .u64 0) ∧ w.cell? ⟨g + 1, 2, none⟩ = some (.int .u64 0) ∧ w.cell? ⟨g + 1, 3, none⟩ = some (.int .u64 0) ∧
    w.frozen? ⟨g + 1, 0, none⟩ = false ∧ w.frozen? ⟨g + 1, 1, none⟩ = false ∧ w.frozen? ⟨g + 1, 2, none⟩ = false ∧ w.frozen? ⟨g + 1, 3, none⟩ = false :=
  ⟨h.2.1.cell 0, h.2.1.cell 1, h.2.1.cell 2, h.2.1.cell 3, h.2.1.frozen 0, h.2.1.frozen 1, h.2.1.frozen 2, h.2.1.frozen 3⟩
theorem IsAr.start (w : World) (a b c d : Int) (h : isU a ∧ isU b ∧ isU c ∧ isU d) :
    IsAr w ((w.alloc (.cells #[.int .u64 a, .int .u64 b, .int .u64 c, .int .u64 d] 182)).alloc (.cells #[.int .u64 0, .int .u64 0, .int .u64 0, .int .u64 0] 182)) w.heap.size a b c d := by
  refine ⟨(Blk.new w _ _).below (bl_alloc (bl_refl _) _), ?_, h, bl_alloc (bl_alloc (bl_refl _) _) _, rfl⟩
  have h2 := Blk.new (w.alloc (.cells #[.int .u64 a, .int .u64 b, .int .u64 c, .int .u64 d] 182)) #[.int .u64 0, .int .u64 0, .int .u64 0, .int .u64 0] 182
  simpa using h2

set_option maxRecDepth 100000 in
set_option maxHeartbeats 8000000 in
theorem refround_calls (a b c d : Int) (w : World) (hU : isU a ∧ isU b ∧ isU c ∧ isU d) :
    Calls Tryz.prog 87 #[.agg #[.int .u64 a, .int .u64 b, .int .u64 c, .int .u64 d]] w fun e w' => e = .returned (.agg (Four.rnd ⟨a, b, c, d⟩).cells) ∧ Below w.heap.size w w' := by
  go_enter Tryz.func87, Tryz.ntmps87
  go_wp2_with fail
  have hs := IsAr.start w (add64 a b) b c d ⟨isU_add _ _, hU.2⟩
  change Code.wp _ _ _ _ ((w.alloc (.cells #[.int .u64 (add64 a b), .int .u64 b, .int .u64 c, .int .u64 d] 182)).alloc (.cells #[.int .u64 0, .int .u64 0, .int .u64 0, .int .u64 0] 182))
  generalize World.alloc _ _ = w3 at hs ⊢
  obtain ⟨c0, c1, c2, c3, f0, f1, f2, f3⟩ := hs.facts
  refine wp_region_still_tail 7 (by kernel_rfl) (by kernel_rfl) ?_
  simp only [List.take_succ_cons, List.take_zero, List.drop_succ_cons, List.drop_zero]
  repeat still_step
  still_call (left13 _ _ hs.2.2.1.2.1)
  repeat still_step
  refine wpStill_nil ?_
  change wpList _ _ _ _ _ (World.drew _)
  replace hs := hs.drew
  generalize World.drew _ = w2 at hs ⊢
  clear c0 c1 c2 c3 f0 f1 f2 f3
  obtain ⟨c0, c1, c2, c3, f0, f1, f2, f3⟩ := hs.facts
  go_wp2_with fail
  replace hs := hs.set1 (xor64 (rot (b) 13) (add64 (a) (b))) (isU_xor _ _)
  change Calls _ _ _ (World.setCell _ ⟨w.heap.size, 1, none⟩ (.int .u64 (xor64 (rot (b) 13) (add64 (a) (b))))) _
  generalize World.setCell _ _ _ = w3 at hs ⊢
  clear c0 c1 c2 c3 f0 f1 f2 f3
  obtain ⟨c0, c1, c2, c3, f0, f1, f2, f3⟩ := hs.facts
  go_wp2_with (go_at_call 118; refine (left32 _ _ hs.2.2.1.1).mono ?_; rintro e w4 ⟨rfl, rfl⟩)
  replace hs := hs.set0 (rot (add64 (a) (b)) 32) (isU_rot _ _)
  replace hs := hs.set2 (add64 (c) (d)) (isU_add _ _)
  change Code.wp _ _ _ _ (World.setCell (World.setCell _ ⟨w.heap.size, 0, none⟩ (.int .u64 (rot (add64 (a) (b)) 32))) ⟨w.heap.size, 2, none⟩ (.int .u64 (add64 (c) (d))))
  generalize World.setCell _ _ _ = w3 at hs ⊢
  clear c0 c1 c2 c3 f0 f1 f2 f3
  obtain ⟨c0, c1, c2, c3, f0, f1, f2, f3⟩ := hs.facts
  refine wp_region_still_tail 7 (by kernel_rfl) (by kernel_rfl) ?_
  simp only [List.take_succ_cons, List.take_zero, List.drop_succ_cons, List.drop_zero]
  repeat still_step
  still_call (left16 _ _ hs.2.2.1.2.2.2)
  repeat still_step
  refine wpStill_nil ?_
  change wpList _ _ _ _ _ (World.drew _)
  replace hs := hs.drew
  generalize World.drew _ = w2 at hs ⊢
  clear c0 c1 c2 c3 f0 f1 f2 f3
  obtain ⟨c0, c1, c2, c3, f0, f1, f2, f3⟩ := hs.facts
  go_wp2_with fail
  replace hs := hs.set3 (xor64 (rot (d) 16) (add64 (c) (d))) (isU_xor _ _)
  replace hs := hs.set0 (add64 (rot (add64 (a) (b)) 32) (xor64 (rot (d) 16) (add64 (c) (d)))) (isU_add _ _)
  change Code.wp _ _ _ _ (World.setCell (World.setCell _ ⟨w.heap.size, 3, none⟩ (.int .u64 (xor64 (rot (d) 16) (add64 (c) (d))))) ⟨w.heap.size, 0, none⟩ (.int .u64 (add64 (rot (add64 (a) (b)) 32) (xor64 (rot (d) 16) (add64 (c) (d))))))
  generalize World.setCell _ _ _ = w3 at hs ⊢
  clear c0 c1 c2 c3 f0 f1 f2 f3
  obtain ⟨c0, c1, c2, c3, f0, f1, f2, f3⟩ := hs.facts
  refine wp_region_still_tail 7 (by kernel_rfl) (by kernel_rfl) ?_
  simp only [List.take_succ_cons, List.take_zero, List.drop_succ_cons, List.drop_zero]
  repeat still_step
  still_call (left21 _ _ hs.2.2.1.2.2.2)
  repeat still_step
  refine wpStill_nil ?_
  change wpList _ _ _ _ _ (World.drew _)
  replace hs := hs.drew
  generalize World.drew _ = w2 at hs ⊢
  clear c0 c1 c2 c3 f0 f1 f2 f3
  obtain ⟨c0, c1, c2, c3, f0, f1, f2, f3⟩ := hs.facts
  go_wp2_with fail
  replace hs := hs.set3 (xor64 (rot (xor64 (rot (d) 16) (add64 (c) (d))) 21) (add64 (rot (add64 (a) (b)) 32) (xor64 (rot (d) 16) (add64 (c) (d))))) (isU_xor _ _)
  replace hs := hs.set2 (add64 (add64 (c) (d)) (xor64 (rot (b) 13) (add64 (a) (b)))) (isU_add _ _)
  change Code.wp _ _ _ _ (World.setCell (World.setCell _ ⟨w.heap.size, 3, none⟩ (.int .u64 (xor64 (rot (xor64 (rot (d) 16) (add64 (c) (d))) 21) (add64 (rot (add64 (a) (b)) 32) (xor64 (rot (d) 16) (add64 (c) (d))))))) ⟨w.heap.size, 2, none⟩ (.int .u64 (add64 (add64 (c) (d)) (xor64 (rot (b) 13) (add64 (a) (b))))))
  generalize World.setCell _ _ _ = w3 at hs ⊢
  clear c0 c1 c2 c3 f0 f1 f2 f3
  obtain ⟨c0, c1, c2, c3, f0, f1, f2, f3⟩ := hs.facts
  refine wp_region_still_tail 7 (by kernel_rfl) (by kernel_rfl) ?_
  simp only [List.take_succ_cons, List.take_zero, List.drop_succ_cons, List.drop_zero]
  repeat still_step
  still_call (left17 _ _ hs.2.2.1.2.1)
  repeat still_step
  refine wpStill_nil ?_
  change wpList _ _ _ _ _ (World.drew _)
  replace hs := hs.drew
  generalize World.drew _ = w2 at hs ⊢
  clear c0 c1 c2 c3 f0 f1 f2 f3
  obtain ⟨c0, c1, c2, c3, f0, f1, f2, f3⟩ := hs.facts
  go_wp2_with fail
  replace hs := hs.set1 (xor64 (rot (xor64 (rot (b) 13) (add64 (a) (b))) 17) (add64 (add64 (c) (d)) (xor64 (rot (b) 13) (add64 (a) (b))))) (isU_xor _ _)
  change Calls _ _ _ (World.setCell _ ⟨w.heap.size, 1, none⟩ (.int .u64 (xor64 (rot (xor64 (rot (b) 13) (add64 (a) (b))) 17) (add64 (add64 (c) (d)) (xor64 (rot (b) 13) (add64 (a) (b))))))) _
  generalize World.setCell _ _ _ = w3 at hs ⊢
  clear c0 c1 c2 c3 f0 f1 f2 f3
  obtain ⟨c0, c1, c2, c3, f0, f1, f2, f3⟩ := hs.facts
  obtain ⟨d0, d1, d2, d3, e0, e1, e2, e3⟩ := hs.facts2
  refine (left32 _ _ hs.2.2.1.2.2.1).mono ?_
  rintro e w4 ⟨rfl, rfl⟩
  have hB := hs.2.2.2.1
  have hz := hs.2.1
  have hlt := hs.1.lt
  have hlt2 := hs.2.1.lt
  clear hs
  go_wp2_with fail
  have hb2 := (((((hz.far ⟨w.heap.size, 2, none⟩ (by simp) (.int .u64 (Four.rnd ⟨a, b, c, d⟩).c)).set 0 (.int .u64 (Four.rnd ⟨a, b, c, d⟩).a)).set 1 (.int .u64 (Four.rnd ⟨a, b, c, d⟩).b)).set 2 (.int .u64 (Four.rnd ⟨a, b, c, d⟩).c)).set 3 (.int .u64 (Four.rnd ⟨a, b, c, d⟩).d))
  refine bodyPost_ret (v := .agg (Four.rnd ⟨a, b, c, d⟩).cells) (results_cell_row rfl _ _ (w.heap.size + 1) 182 _ (0, 0) _ rfl hb2 Tryz.underlying182 rfl (by kernel_rfl)) rfl ⟨rfl, ?_⟩
  · have h1 : ∀ (W : World) (o : Nat) (v : Value), Below w.heap.size w W → Below w.heap.size w (W.setCell ⟨w.heap.size + 1, o, none⟩ v) := fun W o v h => h.setCell (by simp) v
    exact h1 _ _ _ (h1 _ _ _ (h1 _ _ _ (h1 _ _ _ (hB.setCell (by simp) _))))
end Go.Proofs.YtapbkomicihkkaaGreatDoor
namespace Go.Proofs.YtapbkomicihkkaaGreatDoor
open Go.RowKit
set_option linter.unusedVariables false
set_option linter.unusedSimpArgs false

theorem bits_or_u64_nat (a b : Nat) (ha : a < 18446744073709551616) (hb : b < 18446744073709551616) :
    bits .or .u64 (a : Int) (b : Int) = ((a ||| b : Nat) : Int) := by
  have hx : a ||| b < 2 ^ 64 := Nat.or_lt_two_pow (by omega) (by omega)
  have h1 : (BitVec.ofInt 64 (a : Int)).toNat = a := by
    rw [BitVec.ofInt_natCast, BitVec.toNat_ofNat]; exact Nat.mod_eq_of_lt (by omega)
  have h2 : (BitVec.ofInt 64 (b : Int)).toNat = b := by
    rw [BitVec.ofInt_natCast, BitVec.toNat_ofNat]; exact Nat.mod_eq_of_lt (by omega)
  show IntKind.u64.wrap ((BitVec.ofInt 64 (a : Int) ||| BitVec.ofInt 64 (b : Int)).toNat : Int) = _
  rw [BitVec.toNat_or, h1, h2, IntKind.wrap_u64]
  omega

/-- Bytes as a number, the least first. -/
def valN : List UInt8 → Nat
  | [] => 0
  | c :: l => c.toNat + 256 * valN l
theorem valN_lt (l : List UInt8) : valN l < 256 ^ l.length := by
  induction l with
  | nil => simp [valN]
  | cons c l ih =>
    have := c.toNat_lt
    simp only [valN, List.length_cons, Nat.pow_succ]
    omega
theorem valN_append (l m : List UInt8) : valN (l ++ m) = valN l + 256 ^ l.length * valN m := by
  induction l with
  | nil => simp [valN]
  | cons c l ih =>
    simp only [List.cons_append, valN, ih, List.length_cons, Nat.pow_succ]
    rw [Nat.mul_add, Nat.mul_comm (256 ^ l.length) 256, Nat.mul_assoc, Nat.add_assoc]
theorem pow256 (i : Nat) : 256 ^ i = 2 ^ (8 * i) := by rw [Nat.pow_mul]
theorem lt64 {i : Nat} (h : i ≤ 8) : 256 ^ i ≤ 18446744073709551616 := by
  have := Nat.pow_le_pow_right (show 0 < 256 by omega) h
  simpa using this
theorem lowFrom_val (l : List UInt8) : ∀ (n i : Nat), n < 256 ^ i → i + l.length ≤ 8 → lowFrom (n : Int) i l = ((n + 256 ^ i * valN l : Nat) : Int) := by
  induction l with
  | nil => intro n i _ _; simp [lowFrom, valN]
  | cons c l ih =>
    intro n i hn hi
    simp only [List.length_cons] at hi
    have hc := c.toNat_lt
    have h1 : c.toNat * 256 ^ i < 256 ^ (i + 1) := by
      rw [Nat.pow_succ, Nat.mul_comm]
      exact Nat.mul_lt_mul_of_pos_left (by omega) (Nat.pow_pos (by omega))
    have h2 := lt64 (show i + 1 ≤ 8 by omega)
    have h3 := lt64 (show i ≤ 8 by omega)
    have e1 : lowAt (n : Int) i c = ((n + 256 ^ i * c.toNat : Nat) : Int) := by
      unfold lowAt
      rw [IntKind.wrap_u64, Nat.min_eq_left (by omega)]
      have e2 : ((c.toNat : Int) * 2 ^ (8 * i)) % 18446744073709551616 = ((c.toNat * 256 ^ i : Nat) : Int) := by
        rw [pow256]
        rw [pow256] at h1
        have e3 : ((c.toNat : Int) * 2 ^ (8 * i)) = ((c.toNat * 2 ^ (8 * i) : Nat) : Int) := by
          rw [Int.natCast_mul, Int.natCast_pow]; rfl
        rw [e3]
        omega
      rw [e2, bits_or_u64_nat _ _ (by omega) (by omega)]
      congr 1
      rw [Nat.or_comm, Nat.mul_comm c.toNat, pow256]
      rw [pow256] at hn
      rw [← Nat.two_pow_add_eq_or_of_lt hn, Nat.add_comm]
    show lowFrom (lowAt (n : Int) i c) (i + 1) l = _
    rw [e1, ih _ _ ?_ (by omega)]
    · congr 1
      simp only [valN]
      rw [Nat.pow_succ, Nat.mul_add, Nat.add_assoc, Nat.mul_assoc]
    · rw [Nat.pow_succ]
      have : 256 ^ i * c.toNat ≤ 256 ^ i * 255 := Nat.mul_le_mul_left _ (by omega)
      omega
theorem lowI_val (l : List UInt8) (h : l.length ≤ 8) : lowI l = (valN l : Int) := by
  have := lowFrom_val l 0 0 (by decide) (by omega)
  unfold lowI
  simpa using this
theorem refNum_val (l : List UInt8) (h : l.length ≤ 8) : refNum l = (valN l : Int) := by
  induction l with
  | nil => rfl
  | cons c l ih =>
    simp only [List.length_cons] at h
    have hc := c.toNat_lt
    have hl := valN_lt l
    have h1 := lt64 (show l.length + 1 ≤ 8 by omega)
    rw [Nat.pow_succ] at h1
    show refStep c (refNum l) = _
    rw [ih (by omega)]
    unfold refStep
    rw [IntKind.wrap_u64]
    have e1 : ((valN l : Int) * 256) % 18446744073709551616 = ((valN l * 256 : Nat) : Int) := by omega
    rw [e1, bits_or_u64_nat _ _ (by omega) (by omega)]
    congr 1
    have : c.toNat < 2 ^ 8 := by omega
    rw [Nat.mul_comm, show (256 : Nat) = 2 ^ 8 by rfl, ← Nat.two_pow_add_eq_or_of_lt this]
    simp only [valN]
    omega
/-- A number's bytes. -/
def bytesI (n : Int) : List UInt8 := (List.range 8).map fun i => UInt8.ofNat ((n / 2 ^ (8 * i)) % 256).toNat
theorem bytesI_length (n : Int) : (bytesI n).length = 8 := by simp [bytesI]
def bytesRec : Nat → Nat → List UInt8
  | 0, _ => []
  | k + 1, n => UInt8.ofNat (n % 256) :: bytesRec k (n / 256)
theorem bytesRec_map (k : Nat) : ∀ n : Nat, (List.range k).map (fun i => UInt8.ofNat (((n : Int) / 2 ^ (8 * i)) % 256).toNat) = bytesRec k n := by
  induction k with
  | zero => intro n; rfl
  | succ k ih =>
    intro n
    rw [List.range_succ_eq_map, List.map_cons, List.map_map, bytesRec, ← ih]
    congr 1
    · congr 1; simp; omega
    · apply List.map_congr_left
      intro i _
      simp only [Function.comp]
      congr 2
      have e1 : (2 : Int) ^ (8 * (i + 1)) = 256 * 2 ^ (8 * i) := by
        rw [show 8 * (i + 1) = 8 + 8 * i by omega, Int.pow_add]; rfl
      rw [e1, ← Int.ediv_ediv_of_nonneg (by decide)]
      rfl
theorem bytesI_rec (n : Nat) : bytesI (n : Int) = bytesRec 8 n := bytesRec_map 8 n
theorem valN_rec (k : Nat) : ∀ n, valN (bytesRec k n) = n % 256 ^ k := by
  induction k with
  | zero => intro n; simp [bytesRec, valN, Nat.mod_one]
  | succ k ih =>
    intro n
    simp only [bytesRec, valN, ih]
    rw [Nat.pow_succ, Nat.mul_comm (256 ^ k) 256, Nat.mod_mul]
    simp
theorem rec_valN (l : List UInt8) : bytesRec l.length (valN l) = l := by
  induction l with
  | nil => rfl
  | cons c l ih =>
    have hc := c.toNat_lt
    simp only [List.length_cons, bytesRec, valN]
    rw [show (c.toNat + 256 * valN l) / 256 = valN l by omega, ih, show (c.toNat + 256 * valN l) % 256 = c.toNat by omega]
    simp
theorem valN_bytesI (n : Int) (h : isU n) : (valN (bytesI n) : Int) = n := by
  obtain ⟨h0, h1⟩ := h
  obtain ⟨n, rfl⟩ := Int.eq_ofNat_of_zero_le h0
  rw [bytesI_rec, valN_rec, Nat.mod_eq_of_lt (by have : (256 : Nat) ^ 8 = 18446744073709551616 := by decide
                                                 omega)]
theorem bytesI_valN (l : List UInt8) (h : l.length = 8) : bytesI (valN l : Int) = l := by
  rw [bytesI_rec, ← h, rec_valN]
/-- There and back. -/
theorem low_bytesI (n : Int) (h : isU n) : lowI (bytesI n) = n := by
  rw [lowI_val _ (by rw [bytesI_length]; omega), valN_bytesI n h]
theorem bytesI_low (l : List UInt8) (h : l.length = 8) : bytesI (lowI l) = l := by
  rw [lowI_val _ (by omega), bytesI_valN l h]
theorem refNum_low (l : List UInt8) (h : l.length ≤ 8) : refNum l = lowI l := by rw [refNum_val l h, lowI_val l h]
end Go.Proofs.YtapbkomicihkkaaGreatDoor
namespace Go.Proofs.YtapbkomicihkkaaGreatDoor
open Go.RowKit
set_option linter.unusedVariables false
set_option linter.unusedSimpArgs false

/-- A block as a slice of the call's own. -/
theorem Own.of_blk {w0 W : World} {g e n : Nat} {xs : List Value} (hb : Blk W g xs.toArray e) (hg : w0.heap.size ≤ g) (hn : xs.length = n) (hl : n ≤ maxLen) : Own w0 W e 1 (.slice (some ⟨g, 0, none⟩) n n) n xs :=
  ⟨by omega, .inr ⟨g, n, xs.toArray, rfl, hg, hb, Nat.le_refl _, hl, by simp [hn], by simp [← hn]⟩⟩
def byteAt (n : Int) (j : Nat) : Value := .int .u8 ((n / 2 ^ (8 * j)) % 256)
theorem byts_bytesI (n : Int) : byts (bytesI n) = (List.range 8).map (byteAt n) := by
  unfold byts bytesI
  rw [List.map_map]
  apply List.map_congr_left
  intro j _
  simp only [Function.comp, byteAt]
  generalize n / 2 ^ (8 * j) = q
  congr 1
  simp
  omega

set_option maxRecDepth 100000 in
set_option maxHeartbeats 1000000 in
theorem bytes_calls (n : Int) (hn : isU n) (w : World) :
    Calls Tryz.prog 25 #[.int .u64 n] w (RetOwn w 5 1 8 (byts (bytesI n))) := by
  have hmk : ∀ W : World, (Instr.makeSlice 51 (.int .i64 8) (.int .i64 8)).run Tryz.prog W = .ok (.slice (some ⟨W.heap.size, 0, none⟩) 8 8) (W.alloc (.cells (filled 8 0 (byteAt n) (.int .u8 0)) 5)) := fun _ => by kernel_rfl
  go_enter Tryz.func25, Tryz.ntmps25
  go_wp2_with fail
  clear hmk
  have hb := Blk.new w (filled 8 0 (byteAt n) (.int .u8 0)) 5
  have hB := bl_alloc (bl_refl w) (.cells (filled 8 0 (byteAt n) (.int .u8 0)) 5)
  generalize World.alloc _ _ = w1 at hb hB ⊢
  go_loopw [8] (fun i wr => ∃ k : Nat, k ≤ 8 ∧ i = .int .i64 k ∧ Blk wr w.heap.size (filled 8 k (byteAt n) (.int .u8 0)) 5 ∧ Below w.heap.size w wr) (fun i _ => 8 - (intOf i).toNat)
  case atStart => exact ⟨0, by omega, rfl, hb, hB⟩
  case round =>
    clear hb hB
    obtain ⟨k, hk, rfl, hb, hB⟩ := hrel
    by_cases hlt : k < 8
    · have hc := (hb.cell k).trans (filled_get 8 k _ _ k hlt)
      have hf := hb.frozen k
      rw [if_neg (Nat.lt_irrefl _)] at hc
      have hsh := fun w' => (run_shr Tryz.prog .u64 .i64 n (8 * (k : Int)) (by omega) w')
      rw [show min (8 * (k : Int)).toNat IntKind.u64.bits = 8 * k by rw [show (8 * (k : Int)).toNat = 8 * k by omega]; show min (8 * k) 64 = 8 * k; omega] at hsh
      go_wp2_with fail
      go_roundw
      case rel => exact ⟨k + 1, by omega, by go_num, by rw [← filled_set]; exact hb.set k _, hB.setCell (by simp) _⟩
      case measure => simp [intOf]; omega
    · obtain rfl : k = 8 := by omega
      rw [filled_all, ← byts_bytesI] at hb
      go_wp2_with fail
      go_ret
      exact ⟨_, rfl, Own.of_blk hb (Nat.le_refl _) (by rw [byts_length, bytesI_length]) (by decide), hB⟩

theorem range_snoc_map {α : Type} (f : Nat → α) (k : Nat) : (List.range (k + 1)).map f = (List.range k).map f ++ [f k] := by rw [List.range_succ, List.map_append]; rfl
set_option maxRecDepth 100000 in
set_option maxHeartbeats 1000000 in
theorem refbytes_calls (n : Int) (hn : isU n) (w : World) :
    Calls Tryz.prog 57 #[.int .u64 n] w (RetOwn w 5 1 8 (byts (bytesI n))) := by
  have hb1 : ∀ (W : World) (x : Int), (Instr.buildSlice 51 1 #[(0, .int .u8 x)]).run Tryz.prog W = .ok (.slice (some ⟨W.heap.size, 0, none⟩) 1 1) (W.alloc (.cells #[.int .u8 x] 5)) := fun _ _ => by kernel_rfl
  rw [byts_bytesI]
  go_enter Tryz.func57, Tryz.ntmps57
  go_wp2_with fail
  go_loopw [3, 4] (fun b i wr => ∃ k : Nat, k ≤ 8 ∧ i = .int .i64 k ∧ Own w wr 5 1 b k ((List.range k).map (byteAt n)) ∧ Below w.heap.size w wr) (fun _ i _ => 8 - (intOf i).toNat)
  case atStart => exact ⟨0, by omega, rfl, Own.nil _ _ _ _, bl_refl _⟩
  case round =>
    obtain ⟨k, hk, rfl, HO, HB⟩ := hrel
    by_cases hlt : k < 8
    · have hsh := fun w' => (run_shr Tryz.prog .u64 .u64 n (8 * (k : Int)) (by omega) w')
      rw [show min (8 * (k : Int)).toNat IntKind.u64.bits = 8 * k by rw [show (8 * (k : Int)).toNat = 8 * k by omega]; show min (8 * k) 64 = 8 * k; omega] at hsh
      go_wp2_with (at_builtin; refine append_one rfl _ _ 51 5 _ 1 rfl Tryz.underlying51 info_u8 rfl _ _ _ _ HO HB rfl rfl rfl (by omega) (by omega) ?_; intro v1 w3 HO1 HB1 HG1)
      go_roundw
      case rel => exact ⟨k + 1, by omega, by go_num, by rw [range_snoc_map]; exact HO1, HB1⟩
      case measure => simp [intOf]; omega
    · obtain rfl : k = 8 := by omega
      go_wp2_with fail
      go_ret
      exact ⟨_, rfl, HO, HB⟩

end Go.Proofs.YtapbkomicihkkaaGreatDoor
namespace Go.Proofs.YtapbkomicihkkaaGreatDoor
open Go.RowKit
set_option linter.unusedVariables false
set_option linter.unusedSimpArgs false

def beAt (n : Int) (j : Nat) : Value := .int .u8 ((n % 18446744073709551616 / 2 ^ (56 - 8 * j)) % 256)
/-- A number's bytes, the greatest first. -/
def beI (n : Int) : List UInt8 := (List.range 8).map fun j => UInt8.ofNat ((n % 18446744073709551616 / 2 ^ (56 - 8 * j)) % 256).toNat
theorem beI_length (n : Int) : (beI n).length = 8 := by simp [beI]
theorem byts_beI (n : Int) : byts (beI n) = (List.range 8).map (beAt n) := by
  unfold byts beI
  rw [List.map_map]
  apply List.map_congr_left
  intro j _
  simp only [Function.comp, beAt]
  generalize n % 18446744073709551616 / 2 ^ (56 - 8 * j) = q
  congr 1
  simp
  omega
set_option maxRecDepth 100000 in
set_option maxHeartbeats 1000000 in
theorem pnum_calls (n : Int) (hn : -9223372036854775808 ≤ n ∧ n < 9223372036854775808) (w : World) :
    Calls Tryz.prog 114 #[.int .i64 n] w (RetOwn w 5 1 8 (byts (beI n))) := by
  have hmk : ∀ W : World, (Instr.makeSlice 51 (.int .i64 8) (.int .i64 8)).run Tryz.prog W = .ok (.slice (some ⟨W.heap.size, 0, none⟩) 8 8) (W.alloc (.cells (filled 8 0 (beAt n) (.int .u8 0)) 5)) := fun _ => by kernel_rfl
  go_enter Tryz.func114, Tryz.ntmps114
  go_wp2_with fail
  clear hmk
  have hb := Blk.new w (filled 8 0 (beAt n) (.int .u8 0)) 5
  have hB := bl_alloc (bl_refl w) (.cells (filled 8 0 (beAt n) (.int .u8 0)) 5)
  generalize World.alloc _ _ = w1 at hb hB ⊢
  go_loopw [8] (fun i wr => ∃ k : Nat, k ≤ 8 ∧ i = .int .i64 k ∧ Blk wr w.heap.size (filled 8 k (beAt n) (.int .u8 0)) 5 ∧ Below w.heap.size w wr) (fun i _ => 8 - (intOf i).toNat)
  case atStart => exact ⟨0, by omega, rfl, hb, hB⟩
  case round =>
    clear hb hB
    obtain ⟨k, hk, rfl, hb, hB⟩ := hrel
    by_cases hlt : k < 8
    · have hc := (hb.cell k).trans (filled_get 8 k _ _ k hlt)
      have hf := hb.frozen k
      rw [if_neg (Nat.lt_irrefl _)] at hc
      have hsh := fun w' => (run_shr Tryz.prog .u64 .i64 (n % 18446744073709551616) (56 - 8 * (k : Int)) (by omega) w')
      rw [show min (56 - 8 * (k : Int)).toNat IntKind.u64.bits = 56 - 8 * k by rw [show (56 - 8 * (k : Int)).toNat = 56 - 8 * k by omega]; show min (56 - 8 * k) 64 = 56 - 8 * k; omega] at hsh
      go_wp2_with fail
      go_roundw
      case rel => exact ⟨k + 1, by omega, by go_num, by rw [← filled_set]; exact hb.set k _, hB.setCell (by simp) _⟩
      case measure => simp [intOf]; omega
    · obtain rfl : k = 8 := by omega
      rw [filled_all, ← byts_beI] at hb
      go_wp2_with fail
      go_ret
      exact ⟨_, rfl, Own.of_blk hb (Nat.le_refl _) (by rw [byts_length, beI_length]) (by decide), hB⟩
end Go.Proofs.YtapbkomicihkkaaGreatDoor
