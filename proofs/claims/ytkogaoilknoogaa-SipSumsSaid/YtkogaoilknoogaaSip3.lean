/- The reference's numbers of bytes, and its round. -/
import Derived.Test.YtkogaoilknoogaaSip2
namespace Go.Proofs.Ytkogaoilknoogaa
open Go.RowKit

/-- Eight bytes as a number, the least first: from the last one on. -/
def refStep (c : UInt8) (n : Int) : Int := bits .or .u64 (IntKind.u64.wrap (n * 256)) (c.toNat : Int)
def refNum (l : List UInt8) : Int := l.foldr refStep 0
theorem isU_refNum (l : List UInt8) : isU (refNum l) := by
  cases l with
  | nil => exact ⟨by decide, by decide⟩
  | cons c l => exact isU_bits .or _ _

set_option maxRecDepth 100000 in
set_option maxHeartbeats 1000000 in
theorem number_calls (A : Option Addr) (c : Nat) (l : List UInt8) (w : World) (hr : Rd w A (byts l)) (hl : l.length = 8) :
    Calls Try.prog 25 #[.slice A 8 c] w fun e w' => e = .returned (.int .u64 (refNum l)) ∧ w' = w := by
  have HR := Lib.hid hr
  have HL := Lib.hid hl
  clear hr hl
  go_enter Try.func25, Try.ntmps25
  go_wp2
  go_loop [3, 4] (fun n i => ∃ k : Nat, k ≤ 8 ∧ i = .int .i64 ((k : Int) - 1) ∧ n = .int .u64 (refNum (l.drop k))) (fun _ i => (intOf i + 1).toNat)
  case atStart => exact ⟨8, by omega, rfl, by rw [List.drop_of_length_le (by rw [HL.out]; omega)]; rfl⟩
  case round =>
    obtain ⟨k, hk, rfl, rfl⟩ := hrel
    cases k with
    | zero =>
      go_wp2
      go_ret
      exact ⟨rfl, rfl⟩
    | succ k =>
      have hlt : k < l.length := by rw [HL.out]; omega
      obtain ⟨ad, hA, hcell⟩ := HR.out k _ (byts_get l k hlt)
      subst hA
      have hb := l[k].toNat_lt
      have HS : Hid (refNum (l.drop k) = bits .or .u64 (IntKind.u64.wrap (refNum (l.drop (k + 1)) * 256)) (l[k].toNat : Int)) := by
        show refNum (l.drop k) = _
        rw [List.drop_eq_getElem_cons hlt]; rfl
      have e1 : ((k + 1 : Nat) : Int) - 1 = (k : Int) := by omega
      rw [e1]
      clear e1
      go_wp2
      go_round
      case rel => exact ⟨k, by omega, rfl, by rw [HS.out]⟩
      case measure => simp [intOf]

/-- The round's array, and its answer's place behind it. -/
def IsAr (w0 w : World) (g : Nat) (a b c d : Int) : Prop := Blk w g #[.int .u64 a, .int .u64 b, .int .u64 c, .int .u64 d] 50 ∧ Blk w (g + 1) #[.int .u64 0, .int .u64 0, .int .u64 0, .int .u64 0] 50 ∧ (isU a ∧ isU b ∧ isU c ∧ isU d) ∧ (Below w0.heap.size w0 w ∧ w0.heap.size = g)
theorem IsAr.drew {w0 w : World} {g : Nat} {a b c d : Int} (h : IsAr w0 w g a b c d) : IsAr w0 w.drew g a b c d := ⟨h.1.drew, h.2.1.drew, h.2.2.1, h.2.2.2.1.drew, h.2.2.2.2⟩
theorem IsAr.set0 {w0 w : World} {g : Nat} {a b c d : Int} (h : IsAr w0 w g a b c d) (x : Int) (hx : isU x) : IsAr w0 (w.setCell ⟨g, 0, none⟩ (.int .u64 x)) g x b c d := ⟨h.1.set 0 _, h.2.1.far _ (by simp) _, ⟨hx, h.2.2.1.2⟩, h.2.2.2.1.setCell (by have := h.2.2.2.2; simp; omega) _, h.2.2.2.2⟩
theorem IsAr.set1 {w0 w : World} {g : Nat} {a b c d : Int} (h : IsAr w0 w g a b c d) (x : Int) (hx : isU x) : IsAr w0 (w.setCell ⟨g, 1, none⟩ (.int .u64 x)) g a x c d := ⟨h.1.set 1 _, h.2.1.far _ (by simp) _, ⟨h.2.2.1.1, hx, h.2.2.1.2.2⟩, h.2.2.2.1.setCell (by have := h.2.2.2.2; simp; omega) _, h.2.2.2.2⟩
theorem IsAr.set2 {w0 w : World} {g : Nat} {a b c d : Int} (h : IsAr w0 w g a b c d) (x : Int) (hx : isU x) : IsAr w0 (w.setCell ⟨g, 2, none⟩ (.int .u64 x)) g a b x d := ⟨h.1.set 2 _, h.2.1.far _ (by simp) _, ⟨h.2.2.1.1, h.2.2.1.2.1, hx, h.2.2.1.2.2.2⟩, h.2.2.2.1.setCell (by have := h.2.2.2.2; simp; omega) _, h.2.2.2.2⟩
theorem IsAr.set3 {w0 w : World} {g : Nat} {a b c d : Int} (h : IsAr w0 w g a b c d) (x : Int) (hx : isU x) : IsAr w0 (w.setCell ⟨g, 3, none⟩ (.int .u64 x)) g a b c x := ⟨h.1.set 3 _, h.2.1.far _ (by simp) _, ⟨h.2.2.1.1, h.2.2.1.2.1, h.2.2.1.2.2.1, hx⟩, h.2.2.2.1.setCell (by have := h.2.2.2.2; simp; omega) _, h.2.2.2.2⟩
theorem IsAr.facts {w0 w : World} {g : Nat} {a b c d : Int} (h : IsAr w0 w g a b c d) : w.cell? ⟨g, 0, none⟩ = some (.int .u64 a) ∧ w.cell? ⟨g, 1, none⟩ = some (.int .u64 b) ∧ w.cell? ⟨g, 2, none⟩ = some (.int .u64 c) ∧ w.cell? ⟨g, 3, none⟩ = some (.int .u64 d) ∧
    w.frozen? ⟨g, 0, none⟩ = false ∧ w.frozen? ⟨g, 1, none⟩ = false ∧ w.frozen? ⟨g, 2, none⟩ = false ∧ w.frozen? ⟨g, 3, none⟩ = false :=
  ⟨h.1.cell 0, h.1.cell 1, h.1.cell 2, h.1.cell 3, h.1.frozen 0, h.1.frozen 1, h.1.frozen 2, h.1.frozen 3⟩
theorem IsAr.facts2 {w0 w : World} {g : Nat} {a b c d : Int} (h : IsAr w0 w g a b c d) : w.cell? ⟨g + 1, 0, none⟩ = some (.int .u64 0) ∧ w.cell? ⟨g + 1, 1, none⟩ = some (.int .u64 0) ∧ w.cell? ⟨g + 1, 2, none⟩ = some (.int .u64 0) ∧ w.cell? ⟨g + 1, 3, none⟩ = some (.int .u64 0) ∧
    w.frozen? ⟨g + 1, 0, none⟩ = false ∧ w.frozen? ⟨g + 1, 1, none⟩ = false ∧ w.frozen? ⟨g + 1, 2, none⟩ = false ∧ w.frozen? ⟨g + 1, 3, none⟩ = false :=
  ⟨h.2.1.cell 0, h.2.1.cell 1, h.2.1.cell 2, h.2.1.cell 3, h.2.1.frozen 0, h.2.1.frozen 1, h.2.1.frozen 2, h.2.1.frozen 3⟩
theorem IsAr.start (w : World) (a b c d : Int) (h : isU a ∧ isU b ∧ isU c ∧ isU d) :
    IsAr w ((w.alloc (.cells #[.int .u64 a, .int .u64 b, .int .u64 c, .int .u64 d] 50)).alloc (.cells #[.int .u64 0, .int .u64 0, .int .u64 0, .int .u64 0] 50)) w.heap.size a b c d := by
  refine ⟨(Blk.new w _ _).below (bl_alloc (bl_refl _) _), ?_, h, bl_alloc (bl_alloc (bl_refl _) _) _, rfl⟩
  have h2 := Blk.new (w.alloc (.cells #[.int .u64 a, .int .u64 b, .int .u64 c, .int .u64 d] 50)) #[.int .u64 0, .int .u64 0, .int .u64 0, .int .u64 0] 50
  simpa using h2

set_option maxRecDepth 100000 in
set_option maxHeartbeats 8000000 in
theorem refround_calls (a b c d : Int) (w : World) (hU : isU a ∧ isU b ∧ isU c ∧ isU d) :
    Calls Try.prog 26 #[.agg #[.int .u64 a, .int .u64 b, .int .u64 c, .int .u64 d]] w fun e w' => e = .returned (.agg (Four.rnd ⟨a, b, c, d⟩).cells) ∧ Below w.heap.size w w' := by
  go_enter Try.func26, Try.ntmps26
  go_wp2_with fail
  have hs := IsAr.start w (add64 a b) b c d ⟨isU_add _ _, hU.2⟩
  change Code.wp _ _ _ _ ((w.alloc (.cells #[.int .u64 (add64 a b), .int .u64 b, .int .u64 c, .int .u64 d] 50)).alloc (.cells #[.int .u64 0, .int .u64 0, .int .u64 0, .int .u64 0] 50))
  generalize World.alloc _ _ = w3 at hs ⊢
  obtain ⟨c0, c1, c2, c3, f0, f1, f2, f3⟩ := hs.facts
  refine wp_region_still_tail 7 (by kernel_rfl) (by kernel_rfl) ?_
  simp only [List.take_succ_cons, List.take_zero, List.drop_succ_cons, List.drop_zero]
  repeat still_step
  still_call (left13 _ _ hs.2.2.1.2.1)
  repeat still_step
  refine wpStill_nil ?_
  change wpList _ _ _ _ _ (World.drew _)
  replace hs := hs.drew
  generalize World.drew _ = w2 at hs ⊢
  clear c0 c1 c2 c3 f0 f1 f2 f3
  obtain ⟨c0, c1, c2, c3, f0, f1, f2, f3⟩ := hs.facts
  go_wp2_with fail
  replace hs := hs.set1 (xor64 (rot (b) 13) (add64 (a) (b))) (isU_xor _ _)
  change Calls _ _ _ (World.setCell _ ⟨w.heap.size, 1, none⟩ (.int .u64 (xor64 (rot (b) 13) (add64 (a) (b))))) _
  generalize World.setCell _ _ _ = w3 at hs ⊢
  clear c0 c1 c2 c3 f0 f1 f2 f3
  obtain ⟨c0, c1, c2, c3, f0, f1, f2, f3⟩ := hs.facts
  go_wp2_with (go_at_call 29; refine (left32 _ _ hs.2.2.1.1).mono ?_; rintro e w4 ⟨rfl, rfl⟩)
  replace hs := hs.set0 (rot (add64 (a) (b)) 32) (isU_rot _ _)
  replace hs := hs.set2 (add64 (c) (d)) (isU_add _ _)
  change Code.wp _ _ _ _ (World.setCell (World.setCell _ ⟨w.heap.size, 0, none⟩ (.int .u64 (rot (add64 (a) (b)) 32))) ⟨w.heap.size, 2, none⟩ (.int .u64 (add64 (c) (d))))
  generalize World.setCell _ _ _ = w3 at hs ⊢
  clear c0 c1 c2 c3 f0 f1 f2 f3
  obtain ⟨c0, c1, c2, c3, f0, f1, f2, f3⟩ := hs.facts
  refine wp_region_still_tail 7 (by kernel_rfl) (by kernel_rfl) ?_
  simp only [List.take_succ_cons, List.take_zero, List.drop_succ_cons, List.drop_zero]
  repeat still_step
  still_call (left16 _ _ hs.2.2.1.2.2.2)
  repeat still_step
  refine wpStill_nil ?_
  change wpList _ _ _ _ _ (World.drew _)
  replace hs := hs.drew
  generalize World.drew _ = w2 at hs ⊢
  clear c0 c1 c2 c3 f0 f1 f2 f3
  obtain ⟨c0, c1, c2, c3, f0, f1, f2, f3⟩ := hs.facts
  go_wp2_with fail
  replace hs := hs.set3 (xor64 (rot (d) 16) (add64 (c) (d))) (isU_xor _ _)
  replace hs := hs.set0 (add64 (rot (add64 (a) (b)) 32) (xor64 (rot (d) 16) (add64 (c) (d)))) (isU_add _ _)
  change Code.wp _ _ _ _ (World.setCell (World.setCell _ ⟨w.heap.size, 3, none⟩ (.int .u64 (xor64 (rot (d) 16) (add64 (c) (d))))) ⟨w.heap.size, 0, none⟩ (.int .u64 (add64 (rot (add64 (a) (b)) 32) (xor64 (rot (d) 16) (add64 (c) (d))))))
  generalize World.setCell _ _ _ = w3 at hs ⊢
  clear c0 c1 c2 c3 f0 f1 f2 f3
  obtain ⟨c0, c1, c2, c3, f0, f1, f2, f3⟩ := hs.facts
  refine wp_region_still_tail 7 (by kernel_rfl) (by kernel_rfl) ?_
  simp only [List.take_succ_cons, List.take_zero, List.drop_succ_cons, List.drop_zero]
  repeat still_step
  still_call (left21 _ _ hs.2.2.1.2.2.2)
  repeat still_step
  refine wpStill_nil ?_
  change wpList _ _ _ _ _ (World.drew _)
  replace hs := hs.drew
  generalize World.drew _ = w2 at hs ⊢
  clear c0 c1 c2 c3 f0 f1 f2 f3
  obtain ⟨c0, c1, c2, c3, f0, f1, f2, f3⟩ := hs.facts
  go_wp2_with fail
  replace hs := hs.set3 (xor64 (rot (xor64 (rot (d) 16) (add64 (c) (d))) 21) (add64 (rot (add64 (a) (b)) 32) (xor64 (rot (d) 16) (add64 (c) (d))))) (isU_xor _ _)
  replace hs := hs.set2 (add64 (add64 (c) (d)) (xor64 (rot (b) 13) (add64 (a) (b)))) (isU_add _ _)
  change Code.wp _ _ _ _ (World.setCell (World.setCell _ ⟨w.heap.size, 3, none⟩ (.int .u64 (xor64 (rot (xor64 (rot (d) 16) (add64 (c) (d))) 21) (add64 (rot (add64 (a) (b)) 32) (xor64 (rot (d) 16) (add64 (c) (d))))))) ⟨w.heap.size, 2, none⟩ (.int .u64 (add64 (add64 (c) (d)) (xor64 (rot (b) 13) (add64 (a) (b))))))
  generalize World.setCell _ _ _ = w3 at hs ⊢
  clear c0 c1 c2 c3 f0 f1 f2 f3
  obtain ⟨c0, c1, c2, c3, f0, f1, f2, f3⟩ := hs.facts
  refine wp_region_still_tail 7 (by kernel_rfl) (by kernel_rfl) ?_
  simp only [List.take_succ_cons, List.take_zero, List.drop_succ_cons, List.drop_zero]
  repeat still_step
  still_call (left17 _ _ hs.2.2.1.2.1)
  repeat still_step
  refine wpStill_nil ?_
  change wpList _ _ _ _ _ (World.drew _)
  replace hs := hs.drew
  generalize World.drew _ = w2 at hs ⊢
  clear c0 c1 c2 c3 f0 f1 f2 f3
  obtain ⟨c0, c1, c2, c3, f0, f1, f2, f3⟩ := hs.facts
  go_wp2_with fail
  replace hs := hs.set1 (xor64 (rot (xor64 (rot (b) 13) (add64 (a) (b))) 17) (add64 (add64 (c) (d)) (xor64 (rot (b) 13) (add64 (a) (b))))) (isU_xor _ _)
  change Calls _ _ _ (World.setCell _ ⟨w.heap.size, 1, none⟩ (.int .u64 (xor64 (rot (xor64 (rot (b) 13) (add64 (a) (b))) 17) (add64 (add64 (c) (d)) (xor64 (rot (b) 13) (add64 (a) (b))))))) _
  generalize World.setCell _ _ _ = w3 at hs ⊢
  clear c0 c1 c2 c3 f0 f1 f2 f3
  obtain ⟨c0, c1, c2, c3, f0, f1, f2, f3⟩ := hs.facts
  obtain ⟨d0, d1, d2, d3, e0, e1, e2, e3⟩ := hs.facts2
  refine (left32 _ _ hs.2.2.1.2.2.1).mono ?_
  rintro e w4 ⟨rfl, rfl⟩
  have hB := hs.2.2.2.1
  have hz := hs.2.1
  have hlt := hs.1.lt
  have hlt2 := hs.2.1.lt
  clear hs
  go_wp2_with fail
  have hb2 := (((((hz.far ⟨w.heap.size, 2, none⟩ (by simp) (.int .u64 (Four.rnd ⟨a, b, c, d⟩).c)).set 0 (.int .u64 (Four.rnd ⟨a, b, c, d⟩).a)).set 1 (.int .u64 (Four.rnd ⟨a, b, c, d⟩).b)).set 2 (.int .u64 (Four.rnd ⟨a, b, c, d⟩).c)).set 3 (.int .u64 (Four.rnd ⟨a, b, c, d⟩).d))
  refine bodyPost_ret (v := .agg (Four.rnd ⟨a, b, c, d⟩).cells) (results_cell_row rfl _ _ (w.heap.size + 1) 50 _ (0, 0) _ rfl hb2 Try.underlying50 rfl (by kernel_rfl)) rfl ⟨rfl, ?_⟩
  · have h1 : ∀ (W : World) (o : Nat) (v : Value), Below w.heap.size w W → Below w.heap.size w (W.setCell ⟨w.heap.size + 1, o, none⟩ v) := fun W o v h => h.setCell (by simp) v
    exact h1 _ _ _ (h1 _ _ _ (h1 _ _ _ (h1 _ _ _ (hB.setCell (by simp) _))))
end Go.Proofs.Ytkogaoilknoogaa
