/- Package sip: the walks of the leaves. -/
import Derived.Test.YtapbkomicihkkaaDoorBase
namespace Go.Proofs.YtapbkomicihkkaaDoor
open Go.RowKit
set_option linter.unusedVariables false
set_option linter.unusedSimpArgs false

/-- A number of 64 binary digits. -/
def isU (x : Int) : Prop := 0 ≤ x ∧ x < 18446744073709551616
theorem isU_wrap (x : Int) : isU (IntKind.u64.wrap x) := by rw [IntKind.wrap_u64]; unfold isU; omega
def add64 (x y : Int) : Int := IntKind.u64.wrap (x + y)
def xor64 (x y : Int) : Int := bits .xor .u64 x y
theorem isU_add (x y : Int) : isU (add64 x y) := isU_wrap _
theorem isU_bits (op : BinOp) (x y : Int) : isU (bits op .u64 x y) := by
  unfold bits; split <;> first | exact isU_wrap _ | exact ⟨by decide, by decide⟩
theorem isU_xor (x y : Int) : isU (xor64 x y) := isU_bits _ _ _
/-- A number of 64 digits, turned left. -/
def rot (x : Int) (k : Nat) : Int := bits .or .u64 (IntKind.u64.wrap (x * 2 ^ k)) (x / 2 ^ (64 - k))
theorem isU_rot (x : Int) (k : Nat) : isU (rot x k) := isU_bits _ _ _

theorem rot_calls (x : Int) (k : Nat) (w : World) (h : isU x) (hk : k = 13 ∨ k = 16 ∨ k = 17 ∨ k = 21 ∨ k = 32) :
    Calls Tryd.prog 108 #[.int .u64 x, .int .i64 (k : Int)] w fun e w' => e = .returned (.int .u64 (rot x k)) ∧ w' = w := by
  obtain ⟨h0, h1⟩ := h
  have b13 : bits .and .u64 13 63 = 13 := by decide
  have b16 : bits .and .u64 16 63 = 16 := by decide
  have b17 : bits .and .u64 17 63 = 17 := by decide
  have b21 : bits .and .u64 21 63 = 21 := by decide
  have b32 : bits .and .u64 32 63 = 32 := by decide
  rcases hk with rfl | rfl | rfl | rfl | rfl
  all_goals
    go_enter Tryd.func108, Tryd.ntmps108
    go_wp2
    go_ret
    exact ⟨by simp [rot], rfl⟩
/-- The four numbers of a state. -/
structure Four where
  (a b c d : Int)
def Four.cells (s : Four) : Array Value := #[.int .u64 s.a, .int .u64 s.b, .int .u64 s.c, .int .u64 s.d]
def Four.U (s : Four) : Prop := isU s.a ∧ isU s.b ∧ isU s.c ∧ isU s.d
/-- One round. -/
def Four.rnd (s : Four) : Four :=
  let a1 := add64 s.a s.b
  let b1 := xor64 (rot s.b 13) a1
  let a2 := rot a1 32
  let c1 := add64 s.c s.d
  let d1 := xor64 (rot s.d 16) c1
  let a3 := add64 a2 d1
  let d2 := xor64 (rot d1 21) a3
  let c2 := add64 c1 b1
  let b2 := xor64 (rot b1 17) c2
  let c3 := rot c2 32
  ⟨a3, b2, c3, d2⟩
theorem Four.rnd_U (s : Four) : s.rnd.U := ⟨isU_add _ _, isU_xor _ _, isU_rot _ _, isU_xor _ _⟩

/-- A state in memory. -/
def IsSt (w0 w : World) (g : Nat) (a b c d : Int) : Prop := Blk w g #[.int .u64 a, .int .u64 b, .int .u64 c, .int .u64 d] 165 ∧ (isU a ∧ isU b ∧ isU c ∧ isU d) ∧ w0.grownBy w (some g)
theorem IsSt.drew {w0 w : World} {g : Nat} {a b c d : Int} (h : IsSt w0 w g a b c d) : IsSt w0 w.drew g a b c d := ⟨h.1.drew, h.2.1, gb_drew h.2.2⟩
theorem IsSt.set0 {w0 w : World} {g : Nat} {a b c d : Int} (h : IsSt w0 w g a b c d) (x : Int) (hx : isU x) : IsSt w0 (w.setCell ⟨g, 0, none⟩ (.int .u64 x)) g x b c d := ⟨h.1.set 0 _, ⟨hx, h.2.1.2⟩, gb_trans h.2.2 (gb_set 0 _)⟩
theorem IsSt.set1 {w0 w : World} {g : Nat} {a b c d : Int} (h : IsSt w0 w g a b c d) (x : Int) (hx : isU x) : IsSt w0 (w.setCell ⟨g, 1, none⟩ (.int .u64 x)) g a x c d := ⟨h.1.set 1 _, ⟨h.2.1.1, hx, h.2.1.2.2⟩, gb_trans h.2.2 (gb_set 1 _)⟩
theorem IsSt.set2 {w0 w : World} {g : Nat} {a b c d : Int} (h : IsSt w0 w g a b c d) (x : Int) (hx : isU x) : IsSt w0 (w.setCell ⟨g, 2, none⟩ (.int .u64 x)) g a b x d := ⟨h.1.set 2 _, ⟨h.2.1.1, h.2.1.2.1, hx, h.2.1.2.2.2⟩, gb_trans h.2.2 (gb_set 2 _)⟩
theorem IsSt.set3 {w0 w : World} {g : Nat} {a b c d : Int} (h : IsSt w0 w g a b c d) (x : Int) (hx : isU x) : IsSt w0 (w.setCell ⟨g, 3, none⟩ (.int .u64 x)) g a b c x := ⟨h.1.set 3 _, ⟨h.2.1.1, h.2.1.2.1, h.2.1.2.2.1, hx⟩, gb_trans h.2.2 (gb_set 3 _)⟩
theorem IsSt.facts {w0 w : World} {g : Nat} {a b c d : Int} (h : IsSt w0 w g a b c d) : w.cell? ⟨g, 0, none⟩ = some (.int .u64 a) ∧ w.cell? ⟨g, 1, none⟩ = some (.int .u64 b) ∧ w.cell? ⟨g, 2, none⟩ = some (.int .u64 c) ∧ w.cell? ⟨g, 3, none⟩ = some (.int .u64 d) ∧
    w.frozen? ⟨g, 0, none⟩ = false ∧ w.frozen? ⟨g, 1, none⟩ = false ∧ w.frozen? ⟨g, 2, none⟩ = false ∧ w.frozen? ⟨g, 3, none⟩ = false :=
  ⟨h.1.cell 0, h.1.cell 1, h.1.cell 2, h.1.cell 3, h.1.frozen 0, h.1.frozen 1, h.1.frozen 2, h.1.frozen 3⟩

theorem rot13 (x : Int) (w : World) (h : isU x) : Calls Tryd.prog 108 #[.int .u64 x, .int .i64 13] w fun e w' => e = .returned (.int .u64 (rot x 13)) ∧ w' = w := rot_calls x 13 w h (by decide)
theorem rot16 (x : Int) (w : World) (h : isU x) : Calls Tryd.prog 108 #[.int .u64 x, .int .i64 16] w fun e w' => e = .returned (.int .u64 (rot x 16)) ∧ w' = w := rot_calls x 16 w h (by decide)
theorem rot17 (x : Int) (w : World) (h : isU x) : Calls Tryd.prog 108 #[.int .u64 x, .int .i64 17] w fun e w' => e = .returned (.int .u64 (rot x 17)) ∧ w' = w := rot_calls x 17 w h (by decide)
theorem rot21 (x : Int) (w : World) (h : isU x) : Calls Tryd.prog 108 #[.int .u64 x, .int .i64 21] w fun e w' => e = .returned (.int .u64 (rot x 21)) ∧ w' = w := rot_calls x 21 w h (by decide)
theorem rot32 (x : Int) (w : World) (h : isU x) : Calls Tryd.prog 108 #[.int .u64 x, .int .i64 32] w fun e w' => e = .returned (.int .u64 (rot x 32)) ∧ w' = w := rot_calls x 32 w h (by decide)
set_option maxRecDepth 100000 in
set_option maxHeartbeats 8000000 in
theorem round_calls (w0 : World) (g : Nat) (a b c d : Int) (w : World) (hs : IsSt w0 w g a b c d) :
    Calls Tryd.prog 97 #[.pointer (some ⟨g, 0, none⟩)] w fun e w' => e = .returned (.tuple #[]) ∧ IsSt w0 w' g (Four.rnd ⟨a, b, c, d⟩).a (Four.rnd ⟨a, b, c, d⟩).b (Four.rnd ⟨a, b, c, d⟩).c (Four.rnd ⟨a, b, c, d⟩).d := by
  go_enter Tryd.func97, Tryd.ntmps97
  obtain ⟨c0, c1, c2, c3, f0, f1, f2, f3⟩ := hs.facts
  go_wp2_with fail
  refine wp_region_still_tail 11 (by kernel_rfl) (by kernel_rfl) ?_
  simp only [List.take_succ_cons, List.take_zero, List.drop_succ_cons, List.drop_zero]
  repeat still_step
  refine wpStill_nil ?_
  change wpList _ _ _ _ _ (World.drew _)
  replace hs := hs.drew
  generalize World.drew _ = w2 at hs ⊢
  clear c0 c1 c2 c3 f0 f1 f2 f3
  obtain ⟨c0, c1, c2, c3, f0, f1, f2, f3⟩ := hs.facts
  go_wp2_with fail
  replace hs := hs.set0 (add64 (a) (b)) (isU_add _ _)
  change Code.wp _ _ _ _ (World.setCell _ ⟨g, 0, none⟩ (.int .u64 (add64 (a) (b))))
  generalize World.setCell _ _ _ = w3 at hs ⊢
  clear c0 c1 c2 c3 f0 f1 f2 f3
  obtain ⟨c0, c1, c2, c3, f0, f1, f2, f3⟩ := hs.facts
  refine wp_region_still_tail 13 (by kernel_rfl) (by kernel_rfl) ?_
  simp only [List.take_succ_cons, List.take_zero, List.drop_succ_cons, List.drop_zero]
  repeat still_step
  still_call (rot13 _ _ hs.2.1.2.1)
  repeat still_step
  refine wpStill_nil ?_
  change wpList _ _ _ _ _ (World.drew _)
  replace hs := hs.drew
  generalize World.drew _ = w2 at hs ⊢
  clear c0 c1 c2 c3 f0 f1 f2 f3
  obtain ⟨c0, c1, c2, c3, f0, f1, f2, f3⟩ := hs.facts
  go_wp2_with fail
  replace hs := hs.set1 (xor64 (rot (b) 13) (add64 (a) (b))) (isU_xor _ _)
  change Calls _ _ _ (World.setCell _ ⟨g, 1, none⟩ (.int .u64 (xor64 (rot (b) 13) (add64 (a) (b))))) _
  generalize World.setCell _ _ _ = w3 at hs ⊢
  clear c0 c1 c2 c3 f0 f1 f2 f3
  obtain ⟨c0, c1, c2, c3, f0, f1, f2, f3⟩ := hs.facts
  go_wp2_with (go_at_call 108; refine (rot32 _ _ hs.2.1.1).mono ?_; rintro e w4 ⟨rfl, rfl⟩)
  replace hs := hs.set0 (rot (add64 (a) (b)) 32) (isU_rot _ _)
  change Code.wp _ _ _ _ (World.setCell _ ⟨g, 0, none⟩ (.int .u64 (rot (add64 (a) (b)) 32)))
  generalize World.setCell _ _ _ = w3 at hs ⊢
  clear c0 c1 c2 c3 f0 f1 f2 f3
  obtain ⟨c0, c1, c2, c3, f0, f1, f2, f3⟩ := hs.facts
  refine wp_region_still_tail 11 (by kernel_rfl) (by kernel_rfl) ?_
  simp only [List.take_succ_cons, List.take_zero, List.drop_succ_cons, List.drop_zero]
  repeat still_step
  refine wpStill_nil ?_
  change wpList _ _ _ _ _ (World.drew _)
  replace hs := hs.drew
  generalize World.drew _ = w2 at hs ⊢
  clear c0 c1 c2 c3 f0 f1 f2 f3
  obtain ⟨c0, c1, c2, c3, f0, f1, f2, f3⟩ := hs.facts
  go_wp2_with fail
  replace hs := hs.set2 (add64 (c) (d)) (isU_add _ _)
  change Code.wp _ _ _ _ (World.setCell _ ⟨g, 2, none⟩ (.int .u64 (add64 (c) (d))))
  generalize World.setCell _ _ _ = w3 at hs ⊢
  clear c0 c1 c2 c3 f0 f1 f2 f3
  obtain ⟨c0, c1, c2, c3, f0, f1, f2, f3⟩ := hs.facts
  refine wp_region_still_tail 13 (by kernel_rfl) (by kernel_rfl) ?_
  simp only [List.take_succ_cons, List.take_zero, List.drop_succ_cons, List.drop_zero]
  repeat still_step
  still_call (rot16 _ _ hs.2.1.2.2.2)
  repeat still_step
  refine wpStill_nil ?_
  change wpList _ _ _ _ _ (World.drew _)
  replace hs := hs.drew
  generalize World.drew _ = w2 at hs ⊢
  clear c0 c1 c2 c3 f0 f1 f2 f3
  obtain ⟨c0, c1, c2, c3, f0, f1, f2, f3⟩ := hs.facts
  go_wp2_with fail
  replace hs := hs.set3 (xor64 (rot (d) 16) (add64 (c) (d))) (isU_xor _ _)
  change Code.wp _ _ _ _ (World.setCell _ ⟨g, 3, none⟩ (.int .u64 (xor64 (rot (d) 16) (add64 (c) (d)))))
  generalize World.setCell _ _ _ = w3 at hs ⊢
  clear c0 c1 c2 c3 f0 f1 f2 f3
  obtain ⟨c0, c1, c2, c3, f0, f1, f2, f3⟩ := hs.facts
  refine wp_region_still_tail 11 (by kernel_rfl) (by kernel_rfl) ?_
  simp only [List.take_succ_cons, List.take_zero, List.drop_succ_cons, List.drop_zero]
  repeat still_step
  refine wpStill_nil ?_
  change wpList _ _ _ _ _ (World.drew _)
  replace hs := hs.drew
  generalize World.drew _ = w2 at hs ⊢
  clear c0 c1 c2 c3 f0 f1 f2 f3
  obtain ⟨c0, c1, c2, c3, f0, f1, f2, f3⟩ := hs.facts
  go_wp2_with fail
  replace hs := hs.set0 (add64 (rot (add64 (a) (b)) 32) (xor64 (rot (d) 16) (add64 (c) (d)))) (isU_add _ _)
  change Code.wp _ _ _ _ (World.setCell _ ⟨g, 0, none⟩ (.int .u64 (add64 (rot (add64 (a) (b)) 32) (xor64 (rot (d) 16) (add64 (c) (d))))))
  generalize World.setCell _ _ _ = w3 at hs ⊢
  clear c0 c1 c2 c3 f0 f1 f2 f3
  obtain ⟨c0, c1, c2, c3, f0, f1, f2, f3⟩ := hs.facts
  refine wp_region_still_tail 13 (by kernel_rfl) (by kernel_rfl) ?_
  simp only [List.take_succ_cons, List.take_zero, List.drop_succ_cons, List.drop_zero]
  repeat still_step
  still_call (rot21 _ _ hs.2.1.2.2.2)
  repeat still_step
  refine wpStill_nil ?_
  change wpList _ _ _ _ _ (World.drew _)
  replace hs := hs.drew
  generalize World.drew _ = w2 at hs ⊢
  clear c0 c1 c2 c3 f0 f1 f2 f3
  obtain ⟨c0, c1, c2, c3, f0, f1, f2, f3⟩ := hs.facts
  go_wp2_with fail
  replace hs := hs.set3 (xor64 (rot (xor64 (rot (d) 16) (add64 (c) (d))) 21) (add64 (rot (add64 (a) (b)) 32) (xor64 (rot (d) 16) (add64 (c) (d))))) (isU_xor _ _)
  change Code.wp _ _ _ _ (World.setCell _ ⟨g, 3, none⟩ (.int .u64 (xor64 (rot (xor64 (rot (d) 16) (add64 (c) (d))) 21) (add64 (rot (add64 (a) (b)) 32) (xor64 (rot (d) 16) (add64 (c) (d)))))))
  generalize World.setCell _ _ _ = w3 at hs ⊢
  clear c0 c1 c2 c3 f0 f1 f2 f3
  obtain ⟨c0, c1, c2, c3, f0, f1, f2, f3⟩ := hs.facts
  refine wp_region_still_tail 11 (by kernel_rfl) (by kernel_rfl) ?_
  simp only [List.take_succ_cons, List.take_zero, List.drop_succ_cons, List.drop_zero]
  repeat still_step
  refine wpStill_nil ?_
  change wpList _ _ _ _ _ (World.drew _)
  replace hs := hs.drew
  generalize World.drew _ = w2 at hs ⊢
  clear c0 c1 c2 c3 f0 f1 f2 f3
  obtain ⟨c0, c1, c2, c3, f0, f1, f2, f3⟩ := hs.facts
  go_wp2_with fail
  replace hs := hs.set2 (add64 (add64 (c) (d)) (xor64 (rot (b) 13) (add64 (a) (b)))) (isU_add _ _)
  change Code.wp _ _ _ _ (World.setCell _ ⟨g, 2, none⟩ (.int .u64 (add64 (add64 (c) (d)) (xor64 (rot (b) 13) (add64 (a) (b))))))
  generalize World.setCell _ _ _ = w3 at hs ⊢
  clear c0 c1 c2 c3 f0 f1 f2 f3
  obtain ⟨c0, c1, c2, c3, f0, f1, f2, f3⟩ := hs.facts
  refine wp_region_still_tail 13 (by kernel_rfl) (by kernel_rfl) ?_
  simp only [List.take_succ_cons, List.take_zero, List.drop_succ_cons, List.drop_zero]
  repeat still_step
  still_call (rot17 _ _ hs.2.1.2.1)
  repeat still_step
  refine wpStill_nil ?_
  change wpList _ _ _ _ _ (World.drew _)
  replace hs := hs.drew
  generalize World.drew _ = w2 at hs ⊢
  clear c0 c1 c2 c3 f0 f1 f2 f3
  obtain ⟨c0, c1, c2, c3, f0, f1, f2, f3⟩ := hs.facts
  go_wp2_with fail
  replace hs := hs.set1 (xor64 (rot (xor64 (rot (b) 13) (add64 (a) (b))) 17) (add64 (add64 (c) (d)) (xor64 (rot (b) 13) (add64 (a) (b))))) (isU_xor _ _)
  change Calls _ _ _ (World.setCell _ ⟨g, 1, none⟩ (.int .u64 (xor64 (rot (xor64 (rot (b) 13) (add64 (a) (b))) 17) (add64 (add64 (c) (d)) (xor64 (rot (b) 13) (add64 (a) (b))))))) _
  generalize World.setCell _ _ _ = w3 at hs ⊢
  clear c0 c1 c2 c3 f0 f1 f2 f3
  obtain ⟨c0, c1, c2, c3, f0, f1, f2, f3⟩ := hs.facts
  go_wp2_with (go_at_call 108; refine (rot32 _ _ hs.2.1.2.2.1).mono ?_; rintro e w4 ⟨rfl, rfl⟩)
  replace hs := hs.set2 (rot (add64 (add64 (c) (d)) (xor64 (rot (b) 13) (add64 (a) (b)))) 32) (isU_rot _ _)
  change bodyPost _ _ _ _ _ (World.setCell _ ⟨g, 2, none⟩ (.int .u64 (rot (add64 (add64 (c) (d)) (xor64 (rot (b) 13) (add64 (a) (b)))) 32)))
  generalize World.setCell _ _ _ = w3 at hs ⊢
  clear c0 c1 c2 c3 f0 f1 f2 f3
  obtain ⟨c0, c1, c2, c3, f0, f1, f2, f3⟩ := hs.facts
  go_end0
  exact ⟨rfl, hs⟩
end Go.Proofs.YtapbkomicihkkaaDoor
