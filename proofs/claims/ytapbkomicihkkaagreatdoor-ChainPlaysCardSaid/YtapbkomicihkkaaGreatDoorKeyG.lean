/- A key made of bytes. -/
import Derived.Test.YtapbkomicihkkaaGreatDoorSipG
import Derived.Laws.CopyOwn
import Derived.Deep.MidRow
namespace Go.Proofs.YtapbkomicihkkaaGreatDoor
open Go.RowKit
set_option linter.unusedVariables false
set_option linter.unusedSimpArgs false

/-- The state ahead of the first number. -/
def st0 (k0 k1 : Int) : Four := ⟨xor64 k0 8317987319222330741, xor64 k1 7237128888997146477, xor64 k0 7816392313619706465, xor64 k1 8387220255154660723⟩
theorem st0_U (k0 k1 : Int) : isU (st0 k0 k1).a ∧ isU (st0 k0 k1).b ∧ isU (st0 k0 k1).c ∧ isU (st0 k0 k1).d := ⟨isU_xor _ _, isU_xor _ _, isU_xor _ _, isU_xor _ _⟩
/-- So many whole numbers are taken. -/
def blocks (s : Four) (b : List UInt8) : Nat → Four
  | 0 => s
  | m + 1 => (blocks s b m).take (lowI ((b.drop (8 * m)).take 8))
def lastNum (b : List UInt8) : Int := bits .or .u64 (lowI (b.drop (8 * (b.length / 8)))) (IntKind.u64.wrap ((b.length : Int) * 72057594037927936))
def Four.fin (s : Four) : Four := ⟨s.a, s.b, xor64 s.c 255, s.d⟩
def Four.out (s : Four) : Int := xor64 (xor64 (xor64 s.a s.b) s.c) s.d
def sipOf (s : Four) (b : List UInt8) : Int := (Four.rnds 4 ((blocks s b (b.length / 8)).take (lastNum b)).fin).out
def sipSum (key b : List UInt8) : Int := sipOf (st0 (lowI (key.take 8)) (lowI (key.drop 8))) b

set_option maxRecDepth 100000 in
set_option maxHeartbeats 4000000 in
theorem sum_calls (key : List UInt8) (hkey : key.length = 16) (A : Option Addr) (c : Nat) (b : List UInt8) (w : World) (hr : Rd w A (byts b)) (hl : b.length ≤ 140737488351232) (hc : b.length ≤ c) :
    Calls Tryz.prog 24 #[.agg (byts key).toArray, .slice A b.length c] w fun e w' => e = .returned (.int .u64 (sipSum key b)) ∧ Below w.heap.size w w' := by
  obtain ⟨k0, k1, k2, k3, k4, k5, k6, k7, k8, k9, k10, k11, k12, k13, k14, k15, rfl⟩ : ∃ k0 k1 k2 k3 k4 k5 k6 k7 k8 k9 k10 k11 k12 k13 k14 k15, key = [k0, k1, k2, k3, k4, k5, k6, k7, k8, k9, k10, k11, k12, k13, k14, k15] := by
    match key, hkey with
    | [k0, k1, k2, k3, k4, k5, k6, k7, k8, k9, k10, k11, k12, k13, k14, k15], _ => exact ⟨k0, k1, k2, k3, k4, k5, k6, k7, k8, k9, k10, k11, k12, k13, k14, k15, rfl⟩
  have HR := Lib.hid hr
  clear hr
  simp only [byts, List.map_cons, List.map_nil]
  go_enter Tryz.func24, Tryz.ntmps24
  go_wp2_with fail
  have hB := bl_alloc (bl_refl w) (.cells (byts [k0, k1, k2, k3, k4, k5, k6, k7, k8, k9, k10, k11, k12, k13, k14, k15]).toArray 55)
  have hk := Blk.new w (byts [k0, k1, k2, k3, k4, k5, k6, k7, k8, k9, k10, k11, k12, k13, k14, k15]).toArray 55
  have hr1 : Rd (w.alloc (.cells (byts [k0, k1, k2, k3, k4, k5, k6, k7, k8, k9, k10, k11, k12, k13, k14, k15]).toArray 55)) (some ⟨w.heap.size, 0, none⟩) (byts [k0, k1, k2, k3, k4, k5, k6, k7]) := by
    have := hk.rd.take 8
    simpa [byts] using this
  have hr2 : Rd (w.alloc (.cells (byts [k0, k1, k2, k3, k4, k5, k6, k7, k8, k9, k10, k11, k12, k13, k14, k15]).toArray 55)) (some ⟨w.heap.size, 8, none⟩) (byts [k8, k9, k10, k11, k12, k13, k14, k15]) := by
    have := hk.rd_at 8
    simpa [byts] using this
  clear hk
  have HE : Hid (sipSum [k0, k1, k2, k3, k4, k5, k6, k7, k8, k9, k10, k11, k12, k13, k14, k15] b = sipOf (st0 (lowI [k0, k1, k2, k3, k4, k5, k6, k7]) (lowI [k8, k9, k10, k11, k12, k13, k14, k15])) b) := by
    show sipSum [k0, k1, k2, k3, k4, k5, k6, k7, k8, k9, k10, k11, k12, k13, k14, k15] b = _
    rfl
  change Code.wp _ _ _ _ (w.alloc (.cells (byts [k0, k1, k2, k3, k4, k5, k6, k7, k8, k9, k10, k11, k12, k13, k14, k15]).toArray 55))
  generalize (w.alloc (.cells (byts [k0, k1, k2, k3, k4, k5, k6, k7, k8, k9, k10, k11, k12, k13, k14, k15]).toArray 55)) = w1 at hB hr1 hr2 ⊢
  have HR1 := Lib.hid (HR.out.below hB)
  refine wp_region_still_lit (by kernel_rfl) (by kernel_rfl) ?_
  repeat still_step
  still_call (low_at _ _ 8 [k0, k1, k2, k3, k4, k5, k6, k7] _ rfl hr1 (by decide))
  repeat still_step
  still_call (low_at _ _ 8 [k8, k9, k10, k11, k12, k13, k14, k15] _ rfl hr2 (by decide))
  repeat still_step
  refine wpStill_nil ?_
  clear hr1 hr2 HR1
  change Exit.then _ _ _ _ (World.drew _)
  replace hB := hB.drew
  generalize World.drew _ = w2 at hB ⊢
  generalize lowI [k0, k1, k2, k3, k4, k5, k6, k7] = K0 at HE ⊢
  generalize lowI [k8, k9, k10, k11, k12, k13, k14, k15] = K1 at HE ⊢
  have hm : b.length / 8 * 8 ≤ b.length := Nat.div_mul_le_self _ _
  go_wp2_with fail
  have hs : Is4 (w2.alloc (.cells (st0 K0 K1).cells 108)) (w2.alloc (.cells (st0 K0 K1).cells 108)) w2.heap.size (st0 K0 K1) :=
    ⟨Blk.new _ _ _, st0_U _ _, gb_refl _ _⟩
  have hB3 := bl_alloc hB (.cells (st0 K0 K1).cells 108)
  have hg := hB.size
  generalize hG : w2.heap.size = g at hs hg ⊢
  clear hG
  change Code.wp _ _ _ _ (w2.alloc (.cells (st0 K0 K1).cells 108))
  generalize w2.alloc (.cells (st0 K0 K1).cells 108) = w3 at hs hB3 ⊢
  clear hB
  generalize st0 K0 K1 = s at HE hs
  obtain ⟨m, hm8⟩ : ∃ m, b.length / 8 = m := ⟨_, rfl⟩
  have e8 : (b.length : Int) / 8 = (m : Int) := by omega
  rw [e8]
  clear e8 hm
  have hm1 : 8 * m ≤ b.length := by omega
  have hm2 : b.length < 8 * m + 8 := by omega
  unfold sipOf lastNum at HE
  rw [hm8] at HE
  clear hm8
  go_loopw [9] (fun i wr => ∃ j : Nat, j ≤ m ∧ i = .int .i64 ((8 * j : Nat) : Int) ∧ Is4 w3 wr g (blocks s b j)) (fun i _ => (8 * m) - (intOf i).toNat)
  case atStart => exact ⟨0, Nat.zero_le _, rfl, hs⟩
  case round =>
    clear hs
    obtain ⟨j, hj, rfl, h4⟩ := hrel
    have hBr := bl_grown hB3 h4.2.2 hg
    have HRr := Lib.hid (HR.out.below hBr)
    by_cases hlt : j < m
    · cases A with
      | none => 
        obtain ⟨_, e, _⟩ := HR.out 0 _ (byts_get b 0 (by omega))
        cases e
      | some ad =>
      have hlo : Hid (Rd _ (some (ad.add (8 * j))) (byts ((b.drop (8 * j)).take 8))) := Lib.hid (by rw [byts_take, byts_drop]; exact (HRr.out.drop (8 * j)).take 8)
      have hln : ((b.drop (8 * j)).take 8).length = 8 := by simp; omega
      have hi0 : (0 : Int) ≤ ((8 * j : Nat) : Int) := by omega
      have hi1 : ((8 * j : Nat) : Int) + 8 ≤ c := by omega
      go_wp2_with fail
      refine (low_at _ _ 8 _ _ hln hlo.out (by decide)).mono ?_
      rintro e w4 ⟨rfl, rfl⟩
      clear hlo hln HRr hBr
      go_wp2_with (go_at_call 53; refine (take_calls w3 g _ _ _ h4).mono ?_; rintro e w4 ⟨rfl, h5⟩)
      go_roundw
      case rel => exact ⟨j + 1, by omega, by go_num, h5⟩
      case measure => simp [intOf]; omega
    · obtain rfl : m = j := by omega
      clear hlt hj
      have hln : (b.drop (8 * m)).length = b.length - m * 8 := by simp; omega
      have hln : (b.drop (8 * m)).length = b.length - m * 8 := by simp; omega
      by_cases hcap : c = 8 * m
      · have hnil : Hid (b.drop (8 * m) = []) := by show b.drop (8 * m) = []; apply List.drop_of_length_le; omega
        go_wp2_with fail
        refine (low_at _ _ _ (b.drop (8 * m)) _ hln (by rw [hnil.out]; exact Rd.nil _ _) (by omega)).mono ?_
        rintro e w4 ⟨rfl, rfl⟩
        clear HRr
        go_wp2_with fail
        refine (take_calls w3 g _ _ _ h4).mono ?_
        rintro e w4 ⟨rfl, h5⟩
        clear h4
        generalize (blocks s b m).take _ = t at HE h5
        obtain ⟨c0, c1, c2, c3, f0, f1, f2, f3⟩ := IsSt.facts h5
        go_wp2_with fail
        clear c0 c1 c2 c3 f0 f1 f2 f3
        refine (rounds_calls w3 g t.fin 4 (by decide) _ (IsSt.set2 h5 (xor64 t.c 255) (isU_xor _ _))).mono ?_
        rintro e w5 ⟨rfl, h6⟩
        clear h5
        generalize Four.rnds 4 t.fin = u at HE h6
        obtain ⟨c0, c1, c2, c3, f0, f1, f2, f3⟩ := IsSt.facts h6
        have hBe := bl_grown hB3 h6.2.2 hg
        go_wp2_with fail
        refine wp_region_still_lit (by kernel_rfl) (by kernel_rfl) ?_
        repeat still_step
        refine wpStill_nil ?_
        go_wp2_with fail
        go_ret
        exact ⟨by rw [HE.out]; rfl, hBe.drew⟩
      · go_wp2_with fail
        refine (low_at _ _ _ (b.drop (8 * m)) _ hln (by rw [byts_drop, Nat.mul_comm]; exact HRr.out.drop' _) (by omega)).mono ?_
        rintro e w4 ⟨rfl, rfl⟩
        clear HRr
        go_wp2_with fail
        refine (take_calls w3 g _ _ _ h4).mono ?_
        rintro e w4 ⟨rfl, h5⟩
        clear h4
        generalize (blocks s b m).take _ = t at HE h5
        obtain ⟨c0, c1, c2, c3, f0, f1, f2, f3⟩ := IsSt.facts h5
        go_wp2_with fail
        clear c0 c1 c2 c3 f0 f1 f2 f3
        refine (rounds_calls w3 g t.fin 4 (by decide) _ (IsSt.set2 h5 (xor64 t.c 255) (isU_xor _ _))).mono ?_
        rintro e w5 ⟨rfl, h6⟩
        clear h5
        generalize Four.rnds 4 t.fin = u at HE h6
        obtain ⟨c0, c1, c2, c3, f0, f1, f2, f3⟩ := IsSt.facts h6
        have hBe := bl_grown hB3 h6.2.2 hg
        go_wp2_with fail
        refine wp_region_still_lit (by kernel_rfl) (by kernel_rfl) ?_
        repeat still_step
        refine wpStill_nil ?_
        go_wp2_with fail
        go_ret
        exact ⟨by rw [HE.out]; rfl, hBe.drew⟩
theorem sum_at (key : List UInt8) (hkey : key.length = 16) (A : Option Addr) (c n : Nat) (b : List UInt8) (w : World) (hn : b.length = n) (hr : Rd w A (byts b)) (hl : n ≤ 140737488351232) (hc : n ≤ c) :
    Calls Tryz.prog 24 #[.agg (byts key).toArray, .slice A n c] w fun e w' => e = .returned (.int .u64 (sipSum key b)) ∧ Below w.heap.size w w' := by
  subst hn; exact sum_calls key hkey A c b w hr hl hc
end Go.Proofs.YtapbkomicihkkaaGreatDoor
namespace Go.Proofs.YtapbkomicihkkaaGreatDoor
open Go.RowKit
set_option linter.unusedVariables false
set_option linter.unusedSimpArgs false

/-- The key that is made of bytes: the first sixteen, then zeros. -/
def keyOf (k : List UInt8) : List UInt8 := k.take 16 ++ List.replicate (16 - min 16 k.length) 0
theorem keyOf_length (k : List UInt8) : (keyOf k).length = 16 := by simp [keyOf]; omega
def zeros16 : List Value := [.int .u8 0, .int .u8 0, .int .u8 0, .int .u8 0, .int .u8 0, .int .u8 0, .int .u8 0, .int .u8 0, .int .u8 0, .int .u8 0, .int .u8 0, .int .u8 0, .int .u8 0, .int .u8 0, .int .u8 0, .int .u8 0]
theorem key_splice (k : List UInt8) : splice zeros16 0 (byts (k.take 16)) = byts (keyOf k) := by
  have hz : zeros16 = List.replicate 16 (.int .u8 0) := rfl
  rw [hz]
  unfold splice keyOf
  rw [byts_length, List.take_zero, List.nil_append, List.drop_replicate, List.length_take, Nat.zero_add]
  simp [byts]
theorem Blk.range {w : World} {g : Nat} {xs : List Value} {t : TypeId} (h : Blk w g xs.toArray t) : w.rangeAt g 0 xs := fun j v hv => by
  rw [Nat.zero_add, h.cell]; simpa using hv
theorem range_below {w w1 : World} {g : Nat} {xs : List Value} (h : w.rangeAt g 0 xs) (hb : Below w.heap.size w w1) : w1.rangeAt g 0 xs := fun j v hv => cell_below hb (h j v hv)
end Go.Proofs.YtapbkomicihkkaaGreatDoor
