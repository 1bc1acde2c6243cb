/- A chain in memory: made, asked for heads and entries. -/
import Derived.Test.YtapbkomicihkkaaDoorChn3
import Derived.Test.YtapbkomicihkkaaDoorBuild
namespace Go.Proofs.YtapbkomicihkkaaDoor
open Go.RowKit
set_option linter.unusedVariables false
set_option linter.unusedSimpArgs false

def Ch.at_ (c : Ch) (i : Int) : Int × Bool := if 0 ≤ i ∧ i ≤ c.es.length then (c.hs.getD i.toNat 0, true) else (0, false)
set_option maxRecDepth 100000 in
set_option maxHeartbeats 2000000 in
theorem cheadat_calls (w0 : World) (g : Nat) (c : Ch) (ho : c.ok) (i : Int) (w : World) (h : ChAt w0 w g c) :
    Calls Tryd.prog 19 #[.pointer (some ⟨g, 0, none⟩), .int .i64 i] w fun e w' => e = .returned (.tuple #[.int .u64 (c.at_ i).1, .bool (c.at_ i).2]) ∧ Below w.heap.size w w' := by
  obtain ⟨A, cl, ad, ch, c16, c17, hA, hD⟩ := h.open_ ho
  have hl := ho.len
  have hmx := ho.max
  by_cases h1 : 0 ≤ i
  · have h1b : ¬ i < 0 := by omega
    by_cases h2 : i ≤ c.es.length
    · obtain ⟨k, rfl⟩ : ∃ k : Nat, i = k := ⟨i.toNat, by omega⟩
      obtain ⟨ad', e, hc⟩ := hD k _ (u64s_get c.hs k (by omega))
      cases e
      have HC : Hid (c.at_ (k : Int) = (c.hs.getD k 0, true)) := by show _ = _; unfold Ch.at_; rw [if_pos ⟨h1, h2⟩, Int.toNat_natCast]
      rw [HC.out]
      generalize c.hs.getD k 0 = hd at *
      generalize c.es.length = n at *
      have hz1 : (k : Int) < ((n + 1 : Nat) : Int) := by omega
      have hz2 : ¬ ((n + 1 : Nat) : Int) ≤ (k : Int) := by omega
      clear hA hD h ho
      go_enter Tryd.func19, Tryd.ntmps19
      go_wp2_with fail
      go_ret2
      exact ⟨rfl, bl_refl _⟩
    · have HC : Hid (c.at_ i = (0, false)) := by show _ = _; unfold Ch.at_; rw [if_neg (fun q => h2 q.2)]
      rw [HC.out]
      generalize c.es.length = n at *
      have hz2 : ((n + 1 : Nat) : Int) ≤ i := by omega
      clear hA hD h ho
      go_enter Tryd.func19, Tryd.ntmps19
      go_wp2_with fail
      go_ret2
      exact ⟨rfl, bl_refl _⟩
  · have HC : Hid (c.at_ i = (0, false)) := by show _ = _; unfold Ch.at_; rw [if_neg (fun q => h1 q.1)]
    have h1b : i < 0 := by omega
    rw [HC.out]
    clear hA hD h ho
    go_enter Tryd.func19, Tryd.ntmps19
    go_wp2_with fail
    go_ret2
    exact ⟨rfl, bl_refl _⟩
theorem Ch.ok.one {c : Ch} (h : c.ok) : ∀ u ∈ rowsE c.es, u.oneCell' = true := rowsE_one _ (fun x hx => (h.es x hx).ok)
set_option maxRecDepth 100000 in
set_option maxHeartbeats 2000000 in
theorem centries_calls (w0 : World) (g : Nat) (c : Ch) (ho : c.ok) (w : World) (h : ChAt w0 w g c) :
    Calls Tryd.prog 20 #[.pointer (some ⟨g, 0, none⟩)] w (RetOwn w 86 9 c.es.length (rowsE c.es)) := by
  obtain ⟨A, cl, ad, ch, c16, c17, hA, hD⟩ := h.open_ ho
  have hcl := fun W hW => sclone_e A c.es.length cl (rowsE c.es) (rowsE_length _) ho.one (by have := ho.max; omega) W hW
  unfold RetOwn at hcl ⊢
  have HCL := Lib.hid hcl; have HA := Lib.hid hA
  clear hcl hA hD h ho
  generalize rowsE c.es = xs at *
  generalize c.es.length = n at *
  go_enter Tryd.func20, Tryd.ntmps20
  go_wp2_with fail
  refine (HCL.out _ HA.out).mono ?_
  rintro en w2 ⟨v, rfl, hO, hB⟩
  go_wp2_with fail
  go_ret
  exact ⟨_, rfl, hO, hB⟩
@[go_sem ↓] theorem bd_Chain (parts : Array (Nat × Value)) : Instr.build 106 parts = bdN 106 parts := rfl
theorem sixteen {key : List UInt8} (hk : key.length = 16) : ∃ k0 k1 k2 k3 k4 k5 k6 k7 k8 k9 k10 k11 k12 k13 k14 k15, key = [k0, k1, k2, k3, k4, k5, k6, k7, k8, k9, k10, k11, k12, k13, k14, k15] := by
  match key, hk with
  | [k0, k1, k2, k3, k4, k5, k6, k7, k8, k9, k10, k11, k12, k13, k14, k15], _ => exact ⟨k0, k1, k2, k3, k4, k5, k6, k7, k8, k9, k10, k11, k12, k13, k14, k15, rfl⟩
theorem run_bd_Chain2 {key : List UInt8} (hk : key.length = 16) (A : Option Addr) (n c : Nat) (W : World) : (bdN 106 #[(0, .agg (byts key).toArray), (2, .slice A n c)]).run Tryd.prog W = .ok (.agg (byts key ++ [Value.slice none 0 0, Value.slice A n c]).toArray) W := by
  obtain ⟨k0, k1, k2, k3, k4, k5, k6, k7, k8, k9, k10, k11, k12, k13, k14, k15, rfl⟩ := sixteen hk
  kernel_rfl
theorem run_bd_Chain3 {key : List UInt8} (hk : key.length = 16) (A B : Option Addr) (n c m d : Nat) (W : World) : (bdN 106 #[(0, .agg (byts key).toArray), (1, .slice A n c), (2, .slice B m d)]).run Tryd.prog W = .ok (.agg (byts key ++ [Value.slice A n c, Value.slice B m d]).toArray) W := by
  obtain ⟨k0, k1, k2, k3, k4, k5, k6, k7, k8, k9, k10, k11, k12, k13, k14, k15, rfl⟩ := sixteen hk
  kernel_rfl
theorem bs_u64 (x : Int) (W : World) : (Instr.buildSlice 79 1 #[(0, .int .u64 x)]).run Tryd.prog W = .ok (.slice (some ⟨W.heap.size, 0, none⟩) 1 1) (W.alloc (.cells #[.int .u64 x] 80)) := by kernel_rfl
/-- It returns a chain. -/
def RetCh (w0 w : World) (c : Ch) (en : Ending) (w' : World) : Prop := ∃ g, en = .returned (.pointer (some ⟨g, 0, none⟩)) ∧ ChAt w0 w' g c ∧ w.heap.size ≤ g ∧ Below w.heap.size w w'
theorem new_post {w0 w W : World} {key : List UInt8} (hB : Below w.heap.size w W) (hw : w0.heap.size ≤ w.heap.size) :
    ChAt w0 ((W.alloc (.cells #[.int .u64 0] 80)).alloc (.cells (byts key ++ [Value.slice none 0 0, Value.slice (some ⟨W.heap.size, 0, none⟩) 1 1]).toArray 106)) (W.heap.size + 1) ⟨key, [], [0]⟩ ∧ w.heap.size ≤ W.heap.size + 1 ∧ Below w.heap.size w ((W.alloc (.cells #[.int .u64 0] 80)).alloc (.cells (byts key ++ [Value.slice none 0 0, Value.slice (some ⟨W.heap.size, 0, none⟩) 1 1]).toArray 106)) := by
  have hz := hB.size
  have h1 := Blk_new (W.alloc (.cells #[.int .u64 0] 80)) (byts key ++ [Value.slice none 0 0, Value.slice (some ⟨W.heap.size, 0, none⟩) 1 1]).toArray 106 (W.heap.size + 1) (by simp)
  have hO0 : Own w0 (W.alloc (.cells #[.int .u64 0] 80)) 80 1 (.slice (some ⟨W.heap.size, 0, none⟩) 1 1) 1 [.int .u64 0] := Own.of_blk (Blk.new W #[.int .u64 0] 80) (xs := [.int .u64 0]) (by omega) rfl (by show 1 ≤ maxLen; decide)
  have hz2 := (bl_alloc (bl_alloc hB (.cells #[.int .u64 0] 80)) (.cells (byts key ++ [Value.slice none 0 0, Value.slice (some ⟨W.heap.size, 0, none⟩) 1 1]).toArray 106)).size
  exact ⟨⟨_, _, h1, Own.nil _ _ _ _, hO0.below (bl_alloc (bl_refl _) _), by omega⟩, by omega, bl_alloc (bl_alloc hB _) _⟩
set_option maxRecDepth 100000 in
set_option maxHeartbeats 2000000 in
theorem cnew_calls (w0 : World) (key : List UInt8) (hk : key.length = 16) (w : World) (hw : w0.heap.size ≤ w.heap.size) :
    Calls Tryd.prog 15 #[.agg (byts key).toArray] w (RetCh w0 w ⟨key, [], [0]⟩) := by
  have hb := Blk.new w (byts key).toArray 76
  have hB := bl_alloc (bl_refl w) (.cells (byts key).toArray 76)
  have hbd := fun (A : Option Addr) (n c : Nat) (W : World) => run_bd_Chain2 hk A n c W
  have hbs := fun (x : Int) (W : World) => bs_u64 x W
  have hi : (Tryd.prog.info? 76).map (·.size) = some (byts key).toArray.size := by rw [List.size_toArray, byts_length, hk]; kernel_rfl
  have HI := Lib.hid hi
  obtain ⟨W1, hW1⟩ : ∃ W1, w.alloc (.cells (byts key).toArray 76) = W1 := ⟨_, rfl⟩
  rw [hW1] at hb hB
  have HW1 := Lib.hid hW1; have HB := Lib.hid hb; have HBB := Lib.hid hB; have HK := Lib.hid hk; have HW := Lib.hid hw
  clear hW1 hi hb hB hk hw
  unfold RetCh
  go_enter Tryd.func15, Tryd.ntmps15
  go_upto_region 1 with fail
  rw [HW1.out]
  go_wp2_with (refine wpList_load_row rfl 76 _ rfl w.heap.size rfl 76 _ (0, 0) _ HB.out Tryd.underlying76 rfl HI.out ?_)
  go_ret
  exact ⟨_, rfl, new_post HBB.out HW.out⟩
end Go.Proofs.YtapbkomicihkkaaDoor
