/- A chain's clone. -/
import Derived.Test.YtapbkomicihkkaaGreatDoorChnA
import Derived.Test.YtapbkomicihkkaaGreatDoorSparG
import Derived.Deep.RegionWith
namespace Go.Proofs.YtapbkomicihkkaaGreatDoor
open Go.RowKit
set_option linter.unusedVariables false
set_option linter.unusedSimpArgs false

/-- Two cells that are held until their takers have come up, and what stands throughout. -/
def S2 (k1 k2 : Nat) (A B C : World → Prop) (l : Array Bool) (w : World) : Prop := (l.getD k1 true = false → A w) ∧ (l.getD k2 true = false → B w) ∧ C w
theorem S2.mono {k1 k2 i : Nat} {A B C : World → Prop} {l : Array Bool} {w : World} (h1 : i ≠ k1) (h2 : i ≠ k2) (h : S2 k1 k2 A B C (l.setIfInBounds i true) w) : S2 k1 k2 A B C l w :=
 ⟨fun q => h.1 (by rw [getD_set_ne true h1]; exact q), fun q => h.2.1 (by rw [getD_set_ne true h2]; exact q), h.2.2⟩
theorem S2.mk {k1 k2 : Nat} {A B C : World → Prop} {l : Array Bool} {w : World} (a : A w) (b : B w) (c : C w) : S2 k1 k2 A B C l w := ⟨fun _ => a, fun _ => b, c⟩
theorem S2.late {k1 k2 : Nat} {A B C : World → Prop} {l : Array Bool} {w : World} (h1 : l.getD k1 true = true) (h2 : l.getD k2 true = true) (c : C w) : S2 k1 k2 A B C l w :=
 ⟨fun q => Bool.false_ne_true (q.symm.trans h1) |>.elim, fun q => Bool.false_ne_true (q.symm.trans h2) |>.elim, c⟩
theorem joinG {P : Act → World → Prop} {G : Prop} (T : Act → World → Prop) (main : (∀ A W, T A W → P A W) → G) (kp : ∀ A W, T A W → P A W) : G := main kp
theorem Own.rd {w0 W : World} {e size n c : Nat} {A : Option Addr} {xs : List Value} (h : Own w0 W e size (.slice A n c) n xs) : Rd W A xs := by
 obtain ⟨A1, c1, hv, hR, -, -⟩ := h.read
 injection hv with h1 _ _
 subst h1
 exact hR
theorem Kn.ev {A : Act} {l : List (Nat × Value)} (h : Kn A l) (k : Nat) {v : Value} (e : atK k l = some v) : A.eval (.tmp k) = v := by
 have := h.get k e
 show A.tmps.getD k undef = v
 simpa using this
/-- What an owned slice's block is not. -/
theorem Own.ne_old {w0 W : World} {e size n g : Nat} {v : Value} {xs : List Value} (h : Own w0 W e size v n xs) (hg : g < w0.heap.size) : v.ownBlock ≠ some g := fun e => by
 have := Own.at_base h g e
 omega
theorem bs_en7 (k d v : Int) (x1 x2 x3 x4 : ByteArray) (x7 : Value) (b : Bool) (h7 : IsI x7) (W : World) : (Instr.buildSlice 71 1 #[(0, .agg #[.int .i64 k, .string x1, .string x2, .string x3, .string x4, .int .i64 d, .int .i64 v, x7, .bool b])]).run Tryz.prog W = .ok (.slice (some ⟨W.heap.size, 0, none⟩) 1 1) (W.alloc (.cells #[.int .i64 k, .string x1, .string x2, .string x3, .string x4, .int .i64 d, .int .i64 v, x7, .bool b] 59)) := by
 rcases h7 with rfl | ⟨_, _, rfl⟩ <;> kernel_rfl
theorem bs_en (x : En) (h : x.ev.ok) (W : World) : (Instr.buildSlice 71 1 #[(0, x.val)]).run Tryz.prog W = .ok (.slice (some ⟨W.heap.size, 0, none⟩) 1 1) (W.alloc (.cells x.cells 59)) :=
 bs_en7 _ _ _ _ _ _ _ _ _ (x.ev.term.isI h.term) W
def Ch.add (c : Ch) (x : En) : Ch × Int := if 64 ≤ c.es.length then (c, 5) else if x.ev.check = 0 then (⟨c.key, c.es ++ [x], c.hs ++ [x.next c.key c.head]⟩, 0) else (c, x.ev.check)
def RetAdd (w0 w : World) (g : Nat) (r : Ch × Int) (en : Ending) (w' : World) : Prop := en = .returned (.int .i64 r.2) ∧ ChAt w0 w' g r.1 ∧ w.grownBy w' (some g) ∧ (r.2 = 0 → ChAt w w' g r.1)
def ChC (key : List UInt8) (vl vh : Value) : Array Value := (byts key ++ [vl, vh]).toArray
theorem ChC_get {key : List UInt8} (hk : key.length = 16) (vl vh : Value) : (ChC key vl vh)[16]? = some vl ∧ (ChC key vl vh)[17]? = some vh := chcells hk vl vh
theorem ChC_set {key : List UInt8} (hk : key.length = 16) (vl vh v u : Value) : ((ChC key vl vh).setIfInBounds 16 v).setIfInBounds 17 u = ChC key v u := by
 obtain ⟨k0, k1, k2, k3, k4, k5, k6, k7, k8, k9, k10, k11, k12, k13, k14, k15, rfl⟩ := sixteen hk
 rfl
theorem isU_head {c : Ch} (ho : c.ok) : isU c.head := by
 unfold Ch.head
 have hl := ho.len
 rw [List.getD_eq_getElem?_getD, List.getElem?_eq_getElem (by omega)]
 exact ho.hs _ (List.getElem_mem _)
theorem isU_next (key : List UInt8) (h : Int) (x : En) : isU (x.next key h) := by
 unfold En.next
 split
 ·exact isU_sipSum _ _
 ·exact ⟨by decide, by decide⟩
theorem Ch.add_ok {c : Ch} (ho : c.ok) (x : En) (hx : x.ev.small) : (c.add x).1.ok := by
 unfold Ch.add
 split
 ·exact ho
 split
 ·refine ⟨ho.key, ?_, ?_, ?_, ?_⟩
  ·have := ho.len; simp; omega
  ·intro y hy
   rcases List.mem_append.1 hy with h | h
   ·exact ho.es y h
   ·obtain rfl : y = x := by simpa using h
    exact hx
  ·intro y hy
   rcases List.mem_append.1 hy with h | h
   ·exact ho.hs y h
   ·obtain rfl : y = x.next c.key c.head := by simpa using h
    exact isU_next _ _ _
  ·simp; omega
 ·exact ho
theorem add_post {w0 W0 W : World} {g n : Nat} {key : List UInt8} {es : List En} {hs : List Int} {x : En} {nx : Int} {vl vh : Value} (hG : Blk W g (ChC key vl vh) 101) (h9 : Own W0 W 59 9 vl (n + 1) (rowsE es ++ x.row)) (h17 : Own W0 W 62 1 vh (n + 1 + 1) (u64s hs ++ [.int .u64 nx])) (hw : w0.heap.size ≤ W0.heap.size) (hl : es.length = n ∧ hs.length = n + 1) (hg : w0.heap.size ≤ W.heap.size) :
  ChAt w0 W g ⟨key, es ++ [x], hs ++ [nx]⟩ := by
 refine ⟨vl, vh, hG, ?_, ?_, hg⟩
 ·have := h9.mono hw
  rw [← rowsE_snoc] at this
  dsimp only
  rw [List.length_append, hl.1]
  exact this
 ·have := h17.mono hw
  rw [show u64s hs ++ [Value.int .u64 nx] = u64s (hs ++ [nx]) by simp [u64s]] at this
  dsimp only
  rw [List.length_append, hl.2]
  exact this
set_option maxRecDepth 100000 in
set_option maxHeartbeats 8000000 in
theorem cadd_calls (w0 : World) (g : Nat) (c : Ch) (ho : c.ok) (x : En) (hx : x.ev.small) (w : World) (h : ChAt w0 w g c) (ht : TabOk w) :
  Calls Tryz.prog 23 #[.pointer (some ⟨g, 0, none⟩), x.val] w (RetAdd w0 w g (c.add x)) := by
 unfold RetAdd
 obtain ⟨key, es, hs⟩ := c
 obtain ⟨n, hn⟩ : ∃ n, es.length = n := ⟨_, rfl⟩
 have hch := h
 obtain ⟨vl, vh, hG0, hL0, hH0, hg0⟩ := h
 dsimp only at hG0 hL0 hH0
 obtain ⟨A, cl, rfl, -, -, -⟩ := hL0.read
 obtain ⟨D, ch, rfl, hD, -, -⟩ := hH0.read
 have hl : hs.length = es.length + 1 := ho.len
 obtain ⟨h0, hh⟩ : ∃ h0, (u64s hs)[0]? = some h0 := ⟨_, List.getElem?_eq_getElem (by rw [u64s_length]; omega)⟩
 obtain ⟨ad, rfl, -⟩ := hD 0 h0 hh
 rw [hn] at hl hL0 hG0
 rw [hl] at hG0 hH0
 have hG0' : Blk w g (ChC key (.slice A n cl) (.slice (some ad) (n + 1) ch)) 101 := hG0
 have hkl : key.length = 16 := ho.key
 have hhd := fun W hW => chead_calls w0 g ⟨key, es, hs⟩ ho W hW
 have hnx := fun W hW => next_calls key hkl (Ch.head ⟨key, es, hs⟩) (isU_head ho) x hx W hW
 have hone : ∀ u ∈ rowsE es, u.oneCell' = true := ho.one
 have hel : (rowsE es).length = n * 9 := by rw [rowsE_length, hn]
 have hce := fun W hW => sclone_e A n cl (rowsE es) hel hone (by have := ho.max; dsimp only at this; omega) W hW
 have hcu := fun W hW => sclone_u (some ad) (n + 1) ch (u64s hs) (by rw [u64s_length, hl, Nat.mul_one]) (u64s_one hs) (by have := ho.max; dsimp only at this; omega) W hW
 have hbe := fun W => bs_en x hx.ok W
 have hbu := fun (y : Int) (W : World) => bs_u64 y W
 have hcc := x.ev.term.cells_ hx.ok.term
 have ho7 := x.ev.term.one_ hx.ok.term
 have hX1 := Blk.new w x.cells 59
 have hbA := bl_alloc (bl_refl w) (.cells x.cells 59)
 have hgx0 := alloc_lt w (.cells x.cells 59)
 have hxc : x.cells = #[.int .i64 x.ev.kind, .string x.ev.id, .string x.ev.name, .string x.ev.label, .string x.ev.cur, .int .i64 x.ev.day, .int .i64 x.ev.value, x.ev.term.val, .bool x.no] := rfl
 obtain ⟨W1, hW1⟩ : ∃ W1, w.alloc (.cells x.cells 59) = W1 := ⟨_, rfl⟩
 rw [hW1] at hX1 hbA hgx0
 rw [hxc] at hW1
 obtain ⟨f0, f1, f2, f3, f4, f5, f6, f7, f8⟩ := Blk.ens (x := x) hX1
 unfold RetNext at hnx
 unfold RetOwn at hce hcu
 unfold En.val at hnx hbe ⊢
 have hra : W1.rangeAt g 0 (byts key) := by
  intro j v hv
  have := ((hG0.below hbA).range) j v (by rw [List.getElem?_append_left (List.getElem?_eq_some_iff.1 hv).1]; exact hv)
  exact this
 obtain ⟨e16, e17⟩ := ChC_get hkl (.slice A n cl) (.slice (some ad) (n + 1) ch)
 have c16 := ((hG0'.below hbA).cell 16).trans e16
 have c17 := ((hG0'.below hbA).cell 17).trans e17
 have hc16 := fun W (hW : Blk W g (ChC key (.slice A n cl) (.slice (some ad) (n + 1) ch)) 101) => (hW.cell 16).trans e16
 have hc17 := fun W (hW : Blk W g (ChC key (.slice A n cl) (.slice (some ad) (n + 1) ch)) 101) => (hW.cell 17).trans e17
 have hCH1 := hch.below hbA
 have hng : g ≠ w.heap.size := fun e => by have := hG0.lt; omega
 obtain ⟨hd, hhe⟩ : ∃ hd, Ch.head ⟨key, es, hs⟩ = hd := ⟨_, rfl⟩
 obtain ⟨nx, hne⟩ : ∃ nx, x.next key hd = nx := ⟨_, rfl⟩
 rw [hhe] at hnx
 rw [hhe] at hhd
 rw [hne] at hnx
 have hadd1 : n < 64 → x.ev.check = 0 → Ch.add ⟨key, es, hs⟩ x = (⟨key, es ++ [x], hs ++ [nx]⟩, 0) := fun h1 h2 => by
  unfold Ch.add; dsimp only; rw [if_neg (by omega), if_pos h2, hhe, hne]
 have hadd2 : n < 64 → x.ev.check ≠ 0 → Ch.add ⟨key, es, hs⟩ x = (⟨key, es, hs⟩, x.ev.check) := fun h1 h2 => by
  unfold Ch.add; dsimp only; rw [if_neg (by omega), if_neg h2]
 have hadd3 : 64 ≤ n → Ch.add ⟨key, es, hs⟩ x = (⟨key, es, hs⟩, 5) := fun h1 => by
  unfold Ch.add; dsimp only; rw [if_pos (by omega)]
 have HW1 := Lib.hid hW1; have HX1 := Lib.hid hX1; have HRA := Lib.hid hra; have HHD := Lib.hid hhd; have HNX := Lib.hid hnx; have HCH := Lib.hid hCH1; have HKL := Lib.hid hkl; have HXO := Lib.hid hx.ok
 have HT1 := Lib.hid (ht.below hbA); have HBA := Lib.hid hbA; have HG0 := Lib.hid hG0'; have HL0 := Lib.hid hL0; have HH0 := Lib.hid hH0; have HGZ := Lib.hid hg0; have HGL := Lib.hid hgx0
 have HCE := Lib.hid hce; have HCU := Lib.hid hcu; have HC16 := Lib.hid hc16; have HC17 := Lib.hid hc17; have HA1 := Lib.hid hadd1; have HA2 := Lib.hid hadd2; have HA3 := Lib.hid hadd3; have HEL := Lib.hid hel; have HON := Lib.hid hone; have HHL := Lib.hid hl; have HLEN := Lib.hid (And.intro hn hl); have HE17 := Lib.hid e17; have HNG := Lib.hid hng; have HNL := Lib.hid hG0.lt
 clear hX1 hW1 hra hhd hnx hCH1 hkl ho hx ht hbA hG0 hG0' hL0 hH0 hg0 hch hD hl hh e16 e17 hxc hce hcu hc16 hc17 hadd1 hadd2 hadd3 hel hone hgx0 hn hhe hne hng
 by_cases hfull : 64 ≤ n
 ·have h64 : (64 : Int) ≤ (n : Int) := by omega
  rw [HA3.out hfull]
  clear hfull
  go_enter Tryz.func23, Tryz.ntmps23
  go_upto_region 1 with fail
  rw [HW1.out]
  go_wp2_with fail
  go_ret
  exact ⟨rfl, HCH.out, gb_below HBA.out _, fun h => absurd h (by decide)⟩
 have h64 : ¬ (64 : Int) ≤ (n : Int) := by omega
 have HMX : Hid (n < 64) := by show _ < _; omega
 clear hfull
 by_cases hz : x.ev.check = 0
 ·rw [HA1.out HMX.out hz]
  rw [hz] at HNX
  clear hz HA1 HA2 HA3
  go_enter Tryz.func23, Tryz.ntmps23
  go_upto_region 1 with fail
  rw [HW1.out]
  clear HW1
  go_upto_region 3 with fail
  clear c16 c17
  have hu := Tryz.underlying55
  have hi : (Tryz.prog.info? 55).map (·.size) = some (byts key).length := by rw [byts_length, HKL.out]; kernel_rfl
  refine wp_region_noPanic ?_
  refine wp_region_held_drew (S := fun w' => w'.rangeAt g 0 (byts key) ∧ w'.cell? ⟨w.heap.size, 0, none⟩ = some (.int .i64 x.ev.kind) ∧ w'.cell? ⟨w.heap.size, 1, none⟩ = some (.string x.ev.id) ∧ w'.cell? ⟨w.heap.size, 2, none⟩ = some (.string x.ev.name) ∧ w'.cell? ⟨w.heap.size, 3, none⟩ = some (.string x.ev.label) ∧ w'.cell? ⟨w.heap.size, 4, none⟩ = some (.string x.ev.cur) ∧ w'.cell? ⟨w.heap.size, 5, none⟩ = some (.int .i64 x.ev.day) ∧ w'.cell? ⟨w.heap.size, 6, none⟩ = some (.int .i64 x.ev.value) ∧ w'.cell? ⟨w.heap.size, 7, none⟩ = some x.ev.term.val ∧ w'.cell? ⟨w.heap.size, 8, none⟩ = some (.bool x.no)) (by kernel_rfl) ⟨HRA.out, Blk.ens (x := x) HX1.out⟩ (fun hHeld => ?_)
  clear f0 f1 f2 f3 f4 f5 f6 f7 f8
  refine wpAnyH_world (fun W => Below W1.heap.size W1 W) (bl_drew (bl_refl _)) (fun W2 hb2 => ?_)
  clear hHeld
  have hHeld : W2.rangeAt g 0 (byts key) ∧ W2.cell? ⟨w.heap.size, 0, none⟩ = some (.int .i64 x.ev.kind) ∧ W2.cell? ⟨w.heap.size, 1, none⟩ = some (.string x.ev.id) ∧ W2.cell? ⟨w.heap.size, 2, none⟩ = some (.string x.ev.name) ∧ W2.cell? ⟨w.heap.size, 3, none⟩ = some (.string x.ev.label) ∧ W2.cell? ⟨w.heap.size, 4, none⟩ = some (.string x.ev.cur) ∧ W2.cell? ⟨w.heap.size, 5, none⟩ = some (.int .i64 x.ev.day) ∧ W2.cell? ⟨w.heap.size, 6, none⟩ = some (.int .i64 x.ev.value) ∧ W2.cell? ⟨w.heap.size, 7, none⟩ = some x.ev.term.val ∧ W2.cell? ⟨w.heap.size, 8, none⟩ = some (.bool x.no) := ⟨range_below HRA.out hb2, Blk.ens (x := x) (HX1.out.below hb2)⟩
  refine tkx 0 rfl ?_
  refine tkx 1 rfl ?_
  refine tkx 2 rfl ?_
  refine wpAnyH_take (i := 3) (oi := ⟨some 17, .load 55 (.tmp 16), _, _, _, _⟩) (v := .agg (List.toArray (byts key))) rfl (by kernel_rfl) (by kernel_rfl) (by kernel_rfl) (fun _ _ _ h => h) (yieldsIf_load_mid (by rfl) _ _ rfl _ _ rfl (byts key) _ (fun w h => h.1) hu rfl hi) (by assumption) ?_
  (try dsimp only [Act.put, List.setIfInBounds_toArray, List.set_cons_zero, List.set_cons_succ])
  refine tkx 4 rfl ?_
  refine tkx 6 rfl ?_
  refine wpAnyH_ready (rs := [5]) (by kernel_rfl) (by simp) ?_
  refine AllReadyH.cons rfl (fun K hK => ?_) AllReadyH.nil
  (try go_simp)
  refine (HHD.out _ (HCH.out.below hb2)).mono ?_
  rintro en W3 ⟨rfl, hb3⟩
  (try go_simp)
  have hb4 := bl_step hb3 hb2
  refine hK.out _ _ ⟨range_below HRA.out hb4, Blk.ens (x := x) (HX1.out.below hb4)⟩ (fun hH9 => ?_)
  clear hK K hHeld hb2 hb3
  have hHeld := hH9
  clear hH9
  (try dsimp only [Act.put, List.setIfInBounds_toArray, List.set_cons_zero, List.set_cons_succ])
  refine wpAnyH_ready (rs := [7]) (by kernel_rfl) (by simp) ?_
  refine AllReadyH.cons rfl (fun K hK => ?_) AllReadyH.nil
  (try go_simp)
  refine (HNX.out _ (HT1.out.below hb4)).mono ?_
  rintro en W0 ⟨rfl, hb5⟩
  (try go_simp)
  have hb6 := bl_step hb5 hb4
  refine hK.out _ _ ⟨range_below HRA.out hb6, Blk.ens (x := x) (HX1.out.below hb6)⟩ (fun hH9 => ?_)
  clear hK K hHeld hb4 hb5
  have hHeld := hH9
  clear hH9
  (try dsimp only [Act.put, List.setIfInBounds_toArray, List.set_cons_zero, List.set_cons_succ])
  refine tkx 8 rfl ?_
  refine tkx 9 rfl ?_
  refine tkx 10 rfl ?_
  refine tkx 11 rfl ?_
  refine tkx 12 rfl ?_
  refine wpAnyH_done (by kernel_rfl) ?_ _
  refine NoPanic.normal ?_
  clear hHeld hu hi
  go_upto_region 6 with fail
  have hbw := bl_step hb6 HBA.out
  have hG := HG0.out.below hbw
  have hX := HX1.out.below hb6
  have hL := HL0.out.below hbw
  have hH := HH0.out.below hbw
  have HGX : Hid (w.heap.size < W0.heap.size) := Nat.lt_of_lt_of_le HGL.out hb6.size
  have HBW := Lib.hid hbw; have HWZ : Hid (w0.heap.size ≤ W0.heap.size) := Nat.le_trans HGZ.out hbw.size
  clear hbw hb6
  refine wp_region_noPanic ?_
  refine wp_region_gated (S := S2 6 14 (fun X => X.cell? ⟨g, 16, none⟩ = some (.slice A n cl)) (fun X => X.cell? ⟨g, 17, none⟩ = some (.slice (some ad) (n + 1) ch)) (fun X => Blk X w.heap.size x.cells 59)) (by kernel_rfl) ?_
  refine wpAnyG_world (fun W => Below W0.heap.size W0 W) (bl_drew (bl_refl _)) (fun WN hB => ?_)
  replace hG := hG.below hB
  replace hX := hX.below hB
  replace hL := hL.below hB
  replace hH := hH.below hB
  have hS : ∀ l, S2 6 14 (fun X => X.cell? ⟨g, 16, none⟩ = some (.slice A n cl)) (fun X => X.cell? ⟨g, 17, none⟩ = some (.slice (some ad) (n + 1) ch)) (fun X => Blk X w.heap.size x.cells 59) l WN := fun l => S2.mk (HC16.out _ hG) (HC17.out _ hG) hX
  refine wpAnyG_named (fun A0 hA0 => ?_)
  have hn0 : Hid (A0.tmps.size = 49) := by show A0.tmps.size = 49; rw [hA0]; rfl
  have hN : Kn A0 [(0, .pointer (some ⟨g, 0, none⟩)), (3, .pointer (some ⟨w.heap.size, 0, none⟩)), (5, .int .u64 nx)] := by rw [hA0]; exact ⟨rfl, rfl, rfl, trivial⟩
  have hO := Off.refl A0 [27, 28, 29, 30, 31, 32, 33, 34, 35, 36, 37, 38, 39, 40, 41, 42, 43, 44, 45, 46, 47, 48]
  have HA0 := Lib.hid hA0
  clear hA0
  refine wpAnyG_pure (i := 0) (oi := ⟨_, _, _, _, _, _⟩) (v := ?_) rfl (by kernel_rfl) (by kernel_rfl) (by kernel_rfl) (fun _ _ _ h => h) (fun _ _ h => S2.mono (by decide) (by decide) h) (Or.inl ⟨by rfl, ?_⟩) (hS _) ?_
  rotate_left
  ·intro w hSw; clear hSw; have f1 := hN.get 0 rfl; dsimp only at f1; go_simp; try with_reducible rfl
  refine wpAnyG_put hO hn0.out hN (by rfl) (by rfl) (by rfl) (fun A9 hO9 hN9 => ?_)
  (try clear hO hN)
  have hO := hO9
  have hN := hN9
  clear hO9 hN9
  refine wpAnyG_pure (i := 1) (oi := ⟨_, _, _, _, _, _⟩) (v := ?_) rfl (by kernel_rfl) (by kernel_rfl) (by kernel_rfl) (fun _ _ _ h => h) (fun _ _ h => S2.mono (by decide) (by decide) h) (Or.inl ⟨by rfl, ?_⟩) (hS _) ?_
  rotate_left
  ·intro w hSw; clear hSw; have f1 := hN.get 0 rfl; dsimp only at f1; go_simp; try with_reducible rfl
  refine wpAnyG_put hO hn0.out hN (by rfl) (by rfl) (by rfl) (fun A9 hO9 hN9 => ?_)
  (try clear hO hN)
  have hO := hO9
  have hN := hN9
  clear hO9 hN9
  refine wpAnyG_pure (i := 2) (oi := ⟨_, _, _, _, _, _⟩) (v := ?_) rfl (by kernel_rfl) (by kernel_rfl) (by kernel_rfl) (fun _ _ _ h => h) (fun _ _ h => S2.mono (by decide) (by decide) h) (Or.inl ⟨by rfl, ?_⟩) (hS _) ?_
  rotate_left
  ·intro w hSw; clear hSw; have f1 := hN.get 0 rfl; dsimp only at f1; go_simp; try with_reducible rfl
  refine wpAnyG_put hO hn0.out hN (by rfl) (by rfl) (by rfl) (fun A9 hO9 hN9 => ?_)
  (try clear hO hN)
  have hO := hO9
  have hN := hN9
  clear hO9 hN9
  refine wpAnyG_pure (i := 3) (oi := ⟨_, _, _, _, _, _⟩) (v := ?_) rfl (by kernel_rfl) (by kernel_rfl) (by kernel_rfl) (fun _ _ _ h => h) (fun _ _ h => S2.mono (by decide) (by decide) h) (Or.inl ⟨by rfl, ?_⟩) (hS _) ?_
  rotate_left
  ·intro w hSw; clear hSw; have f1 := hN.get 29 rfl; dsimp only at f1; go_simp; try with_reducible rfl
  refine wpAnyG_put hO hn0.out hN (by rfl) (by rfl) (by rfl) (fun A9 hO9 hN9 => ?_)
  (try clear hO hN)
  have hO := hO9
  have hN := hN9
  clear hO9 hN9
  refine wpAnyG_pure (i := 4) (oi := ⟨_, _, _, _, _, _⟩) (v := ?_) rfl (by kernel_rfl) (by kernel_rfl) (by kernel_rfl) (fun _ _ _ h => h) (fun _ _ h => S2.mono (by decide) (by decide) h) (Or.inl ⟨by rfl, ?_⟩) (hS _) ?_
  rotate_left
  ·intro w hSw; clear hSw; have f1 := hN.get 30 rfl; dsimp only at f1; go_simp; try with_reducible rfl
  refine wpAnyG_put hO hn0.out hN (by rfl) (by rfl) (by rfl) (fun A9 hO9 hN9 => ?_)
  (try clear hO hN)
  have hO := hO9
  have hN := hN9
  clear hO9 hN9
  refine wpAnyG_load (i := 5) (k := 6) (oi := ⟨_, _, _, _, _, _⟩) (v := .slice A n cl) (S0 := fun X => X.cell? ⟨g, 16, none⟩ = some (.slice A n cl)) rfl (by kernel_rfl) (by kernel_rfl) (by kernel_rfl) (fun _ _ _ h => h) (by kernel_rfl) (by kernel_rfl) (by decide) (fun _ _ q h => h.1 q) (fun _ _ h => S2.mono (by decide) (by decide) h) (Or.inl ⟨by rfl, ?_⟩) (hS _) ?_
  ·intro w hSw; (try dsimp only at hSw); have f1 := hN.get 31 rfl; dsimp only at f1; go_simp; try with_reducible rfl
  refine wpAnyG_put hO hn0.out hN (by rfl) (by rfl) (by rfl) (fun A9 hO9 hN9 => ?_)
  (try clear hO hN)
  have hO := hO9
  have hN := hN9
  clear hO9 hN9
  refine wpAnyG_load (i := 7) (k := 8) (oi := ⟨_, _, _, _, _, _⟩) (v := .agg #[.int .i64 x.ev.kind, .string x.ev.id, .string x.ev.name, .string x.ev.label, .string x.ev.cur, .int .i64 x.ev.day, .int .i64 x.ev.value, x.ev.term.val, .bool x.no]) (S0 := fun X => Blk X w.heap.size x.cells 59) rfl (by kernel_rfl) (by kernel_rfl) (by kernel_rfl) (fun _ _ _ h => h) (by kernel_rfl) (by kernel_rfl) (by decide) (fun _ _ q h => h.2.2) (fun _ _ h => S2.mono (by decide) (by decide) h) (Or.inl ⟨by rfl, ?_⟩) (hS _) ?_
  ·intro w9 hSw
   obtain ⟨f0, f1, f2, f3, f4, f5, f6, f7, f8⟩ := Blk.ens (x := x) hSw
   clear hSw
   have fp := hN.get 3 rfl
   dsimp only at fp
   go_simp
   try with_reducible rfl
  refine wpAnyG_put hO hn0.out hN (by rfl) (by rfl) (by rfl) (fun A9 hO9 hN9 => ?_)
  (try clear hO hN)
  have hO := hO9
  have hN := hN9
  clear hO9 hN9
  refine wpAnyG_pure (i := 10) (oi := ⟨_, _, _, _, _, _⟩) (v := ?_) rfl (by kernel_rfl) (by kernel_rfl) (by kernel_rfl) (fun _ _ _ h => h) (fun _ _ h => S2.mono (by decide) (by decide) h) (Or.inl ⟨by rfl, ?_⟩) (hS _) ?_
  rotate_left
  ·intro w hSw; clear hSw; have f1 := hN.get 0 rfl; dsimp only at f1; go_simp; try with_reducible rfl
  refine wpAnyG_put hO hn0.out hN (by rfl) (by rfl) (by rfl) (fun A9 hO9 hN9 => ?_)
  (try clear hO hN)
  have hO := hO9
  have hN := hN9
  clear hO9 hN9
  refine wpAnyG_pure (i := 11) (oi := ⟨_, _, _, _, _, _⟩) (v := ?_) rfl (by kernel_rfl) (by kernel_rfl) (by kernel_rfl) (fun _ _ _ h => h) (fun _ _ h => S2.mono (by decide) (by decide) h) (Or.inl ⟨by rfl, ?_⟩) (hS _) ?_
  rotate_left
  ·intro w hSw; clear hSw; have f1 := hN.get 37 rfl; dsimp only at f1; go_simp; try with_reducible rfl
  refine wpAnyG_put hO hn0.out hN (by rfl) (by rfl) (by rfl) (fun A9 hO9 hN9 => ?_)
  (try clear hO hN)
  have hO := hO9
  have hN := hN9
  clear hO9 hN9
  refine wpAnyG_pure (i := 12) (oi := ⟨_, _, _, _, _, _⟩) (v := ?_) rfl (by kernel_rfl) (by kernel_rfl) (by kernel_rfl) (fun _ _ _ h => h) (fun _ _ h => S2.mono (by decide) (by decide) h) (Or.inl ⟨by rfl, ?_⟩) (hS _) ?_
  rotate_left
  ·intro w hSw; clear hSw; have f1 := hN.get 38 rfl; dsimp only at f1; go_simp; try with_reducible rfl
  refine wpAnyG_put hO hn0.out hN (by rfl) (by rfl) (by rfl) (fun A9 hO9 hN9 => ?_)
  (try clear hO hN)
  have hO := hO9
  have hN := hN9
  clear hO9 hN9
  refine wpAnyG_load (i := 13) (k := 14) (oi := ⟨_, _, _, _, _, _⟩) (v := .slice (some ad) (n + 1) ch) (S0 := fun X => X.cell? ⟨g, 17, none⟩ = some (.slice (some ad) (n + 1) ch)) rfl (by kernel_rfl) (by kernel_rfl) (by kernel_rfl) (fun _ _ _ h => h) (by kernel_rfl) (by kernel_rfl) (by decide) (fun _ _ q h => h.2.1 q) (fun _ _ h => S2.mono (by decide) (by decide) h) (Or.inl ⟨by rfl, ?_⟩) (hS _) ?_
  ·intro w hSw; (try dsimp only at hSw); have f1 := hN.get 39 rfl; dsimp only at f1; go_simp; try with_reducible rfl
  refine wpAnyG_put hO hn0.out hN (by rfl) (by rfl) (by rfl) (fun A9 hO9 hN9 => ?_)
  (try clear hO hN)
  have hO := hO9
  have hN := hN9
  clear hO9 hN9
  refine wpAnyG_pure (i := 15) (oi := ⟨_, _, _, _, _, _⟩) (v := ?_) rfl (by kernel_rfl) (by kernel_rfl) (by kernel_rfl) (fun _ _ _ h => h) (fun _ _ h => S2.mono (by decide) (by decide) h) (Or.inl ⟨by rfl, ?_⟩) (hS _) ?_
  rotate_left
  ·intro w hSw; clear hSw; have f1 := hN.get 5 rfl; dsimp only at f1; go_simp; try with_reducible rfl
  refine wpAnyG_put hO hn0.out hN (by rfl) (by rfl) (by rfl) (fun A9 hO9 hN9 => ?_)
  (try clear hO hN)
  have hO := hO9
  have hN := hN9
  clear hO9 hN9
  revert hB hG hX hL hH hS hO hN
  apply joinG (fun X W => ∃ v9 v14 b16, Below W0.heap.size W0 W ∧ Blk W g (ChC key (.slice A n cl) (.slice (some ad) (n + 1) ch)) 101 ∧ Blk W w.heap.size x.cells 59 ∧ Own W0 W 59 9 v9 (n + 1) (rowsE es ++ x.row) ∧ Own W0 W 62 1 v14 (n + 1) (u64s hs) ∧ Blk W b16 #[.int .u64 nx] 62 ∧ Off A0 X [27, 28, 29, 30, 31, 32, 33, 34, 35, 36, 37, 38, 39, 40, 41, 42, 43, 44, 45, 46, 47, 48] ∧ Kn X [(36, v9), (41, v14), (43, .slice (some ⟨b16, 0, none⟩) 1 1), (27, .pointer (some ⟨g, 0, none⟩)), (28, .pointer (some ⟨g, 0, none⟩))])
  case main =>
   intro key hB hG hX hL hH hS hO hN
   refine wpAnyG_ready (rs := [6, 8, 16]) (by kernel_rfl) (by simp) ?_
   refine AllReadyG.cons rfl (fun K hK => ?_) (AllReadyG.cons rfl (fun K hK => ?_) (AllReadyG.cons rfl (fun K hK => ?_) AllReadyG.nil))
   ·skip
    have f1 := hN.get 32 rfl
    dsimp only at f1
    (try go_simp)
    refine (HCE.out _ hL.rd).mono ?_
    rintro en WN ⟨vk, rfl, h6, hbN⟩
    (try go_simp)
    replace h6 := h6.mono hB.size
    replace hB := bl_step hbN hB
    replace hG := hG.below hbN
    replace hX := hX.below hbN
    (try replace hL := hL.below hbN)
    replace hH := hH.below hbN
    (try replace h6 := h6.below hbN)
    (try replace h8 := h8.below hbN)
    (try replace h9 := h9.below hbN)
    (try replace h14 := h14.below hbN)
    (try replace h16 := h16.below hbN)
    clear hS
    have hS : ∀ l, S2 6 14 (fun X => X.cell? ⟨g, 16, none⟩ = some (.slice A n cl)) (fun X => X.cell? ⟨g, 17, none⟩ = some (.slice (some ad) (n + 1) ch)) (fun X => Blk X w.heap.size x.cells 59) l WN := fun l => S2.mk (HC16.out _ hG) (HC17.out _ hG) hX
    clear hbN
    refine hK.out _ _ (hS _) ?_
    clear hK K
    (try clear f1)
    (try clear f2)
    refine wpAnyG_put hO hn0.out hN (by rfl) (by rfl) (by rfl) (fun A9 hO9 hN9 => ?_)
    (try clear hO hN)
    have hO := hO9
    have hN := hN9
    clear hO9 hN9
    refine wpAnyG_ready (rs := [8, 16]) (by kernel_rfl) (by simp) ?_
    refine AllReadyG.cons rfl (fun K hK => ?_) (AllReadyG.cons rfl (fun K hK => ?_) AllReadyG.nil)
    ·skip
     have f1 := hN.get 34 rfl
     dsimp only at f1
     (try go_simp)
     refine gen_alloc (M := fun X b => K (Act.put A9 (some 35) (.slice (some ⟨b, 0, none⟩) 1 1)) X) (fun WN b8 hbN h8 hle => ?_)
     replace hB := bl_step hbN hB
     replace hG := hG.below hbN
     replace hX := hX.below hbN
     (try replace hL := hL.below hbN)
     replace hH := hH.below hbN
     (try replace h6 := h6.below hbN)
     (try replace h8 := h8.below hbN)
     (try replace h9 := h9.below hbN)
     (try replace h14 := h14.below hbN)
     (try replace h16 := h16.below hbN)
     clear hS
     have hS : ∀ l, S2 6 14 (fun X => X.cell? ⟨g, 16, none⟩ = some (.slice A n cl)) (fun X => X.cell? ⟨g, 17, none⟩ = some (.slice (some ad) (n + 1) ch)) (fun X => Blk X w.heap.size x.cells 59) l WN := fun l => S2.mk (HC16.out _ hG) (HC17.out _ hG) hX
     clear hbN hle
     refine hK.out _ _ (hS _) ?_
     clear hK K
     (try clear f1)
     (try clear f2)
     refine wpAnyG_put hO hn0.out hN (by rfl) (by rfl) (by rfl) (fun A9 hO9 hN9 => ?_)
     (try clear hO hN)
     have hO := hO9
     have hN := hN9
     clear hO9 hN9
     refine wpAnyG_ready (rs := [9, 16]) (by kernel_rfl) (by simp) ?_
     refine AllReadyG.cons rfl (fun K hK => ?_) (AllReadyG.cons rfl (fun K hK => ?_) AllReadyG.nil)
     ·skip
      refine Eq.mpr (if_pos (by rfl)) ?_
      refine append_anyW (w0 := W0) _ _ 71 59 _ 9 112 rfl Tryz.underlying71 info_en rfl (by decide) _ n (rowsE es) (some ⟨b8, 0, none⟩) 1 1 x.row h6 hB h8.rd (hN.ev 33 rfl) (hN.ev 35 rfl) x.row_length (x.row_one HXO.out) (by have := HMX.out; omega) (by have := HMX.out; omega) ?_
      intro v9 WN h9 hB9 hG9
      clear h8 hL
      replace hG := hG.grown hG9 (h6.ne_blk hG (by decide))
      replace hX := hX.grown hG9 (h6.ne_old HGX.out)
      replace hH := hH.kept hG9 (hH.apart h6 (by decide))
      (try replace h16 := h16.grown hG9 (h6.ne_blk h16 (by decide)))
      (try replace h14 := h14.kept hG9 (h14.apart h6 (by decide)))
      clear hB hS h6 hG9
      have hB := hB9
      clear hB9
      have hS : ∀ l, S2 6 14 (fun X => X.cell? ⟨g, 16, none⟩ = some (.slice A n cl)) (fun X => X.cell? ⟨g, 17, none⟩ = some (.slice (some ad) (n + 1) ch)) (fun X => Blk X w.heap.size x.cells 59) l WN := fun l => S2.mk (HC16.out _ hG) (HC17.out _ hG) hX
      refine hK.out _ _ (hS _) ?_
      clear hK K
      (try clear f1)
      (try clear f2)
      refine wpAnyG_put hO hn0.out hN (by rfl) (by rfl) (by rfl) (fun A9 hO9 hN9 => ?_)
      (try clear hO hN)
      have hO := hO9
      have hN := hN9
      clear hO9 hN9
      refine wpAnyG_ready (rs := [14, 16]) (by kernel_rfl) (by simp) ?_
      refine AllReadyG.cons rfl (fun K hK => ?_) (AllReadyG.cons rfl (fun K hK => ?_) AllReadyG.nil)
      ·skip
       have f1 := hN.get 40 rfl
       dsimp only at f1
       (try go_simp)
       refine (HCU.out _ hH.rd).mono ?_
       rintro en WN ⟨vu, rfl, h14, hbN⟩
       (try go_simp)
       replace h14 := h14.mono hB.size
       replace hB := bl_step hbN hB
       replace hG := hG.below hbN
       replace hX := hX.below hbN
       (try replace hL := hL.below hbN)
       replace hH := hH.below hbN
       (try replace h6 := h6.below hbN)
       (try replace h8 := h8.below hbN)
       (try replace h9 := h9.below hbN)
       (try replace h14 := h14.below hbN)
       (try replace h16 := h16.below hbN)
       clear hS
       have hS : ∀ l, S2 6 14 (fun X => X.cell? ⟨g, 16, none⟩ = some (.slice A n cl)) (fun X => X.cell? ⟨g, 17, none⟩ = some (.slice (some ad) (n + 1) ch)) (fun X => Blk X w.heap.size x.cells 59) l WN := fun l => S2.mk (HC16.out _ hG) (HC17.out _ hG) hX
       clear hbN
       refine hK.out _ _ (hS _) ?_
       clear hK K
       (try clear f1)
       (try clear f2)
       refine wpAnyG_put hO hn0.out hN (by rfl) (by rfl) (by rfl) (fun A9 hO9 hN9 => ?_)
       (try clear hO hN)
       have hO := hO9
       have hN := hN9
       clear hO9 hN9
       refine wpAnyG_ready (rs := [16]) (by kernel_rfl) (by simp) ?_
       refine AllReadyG.cons rfl (fun K hK => ?_) AllReadyG.nil
       have f1 := hN.get 42 rfl
       dsimp only at f1
       (try go_simp)
       refine gen_alloc (M := fun X b => K (Act.put A9 (some 43) (.slice (some ⟨b, 0, none⟩) 1 1)) X) (fun WN b16 hbN h16 hle => ?_)
       replace hB := bl_step hbN hB
       replace hG := hG.below hbN
       replace hX := hX.below hbN
       (try replace hL := hL.below hbN)
       replace hH := hH.below hbN
       (try replace h6 := h6.below hbN)
       (try replace h8 := h8.below hbN)
       (try replace h9 := h9.below hbN)
       (try replace h14 := h14.below hbN)
       (try replace h16 := h16.below hbN)
       clear hS
       have hS : ∀ l, S2 6 14 (fun X => X.cell? ⟨g, 16, none⟩ = some (.slice A n cl)) (fun X => X.cell? ⟨g, 17, none⟩ = some (.slice (some ad) (n + 1) ch)) (fun X => Blk X w.heap.size x.cells 59) l WN := fun l => S2.mk (HC16.out _ hG) (HC17.out _ hG) hX
       clear hbN hle
       refine hK.out _ _ (hS _) ?_
       clear hK K
       (try clear f1)
       (try clear f2)
       refine wpAnyG_put hO hn0.out hN (by rfl) (by rfl) (by rfl) (fun A9 hO9 hN9 => ?_)
       (try clear hO hN)
       have hO := hO9
       have hN := hN9
       clear hO9 hN9
       exact key A9 WN ⟨_, _, _, hB, hG, hX, h9, h14, h16, hO, hN.sub ⟨rfl, rfl, rfl, rfl, rfl, trivial⟩⟩
      ·skip
       have f1 := hN.get 42 rfl
       dsimp only at f1
       (try go_simp)
       refine gen_alloc (M := fun X b => K (Act.put A9 (some 43) (.slice (some ⟨b, 0, none⟩) 1 1)) X) (fun WN b16 hbN h16 hle => ?_)
       replace hB := bl_step hbN hB
       replace hG := hG.below hbN
       replace hX := hX.below hbN
       (try replace hL := hL.below hbN)
       replace hH := hH.below hbN
       (try replace h6 := h6.below hbN)
       (try replace h8 := h8.below hbN)
       (try replace h9 := h9.below hbN)
       (try replace h14 := h14.below hbN)
       (try replace h16 := h16.below hbN)
       clear hS
       have hS : ∀ l, S2 6 14 (fun X => X.cell? ⟨g, 16, none⟩ = some (.slice A n cl)) (fun X => X.cell? ⟨g, 17, none⟩ = some (.slice (some ad) (n + 1) ch)) (fun X => Blk X w.heap.size x.cells 59) l WN := fun l => S2.mk (HC16.out _ hG) (HC17.out _ hG) hX
       clear hbN hle
       refine hK.out _ _ (hS _) ?_
       clear hK K
       (try clear f1)
       (try clear f2)
       refine wpAnyG_put hO hn0.out hN (by rfl) (by rfl) (by rfl) (fun A9 hO9 hN9 => ?_)
       (try clear hO hN)
       have hO := hO9
       have hN := hN9
       clear hO9 hN9
       refine wpAnyG_ready (rs := [14]) (by kernel_rfl) (by simp) ?_
       refine AllReadyG.cons rfl (fun K hK => ?_) AllReadyG.nil
       have f1 := hN.get 40 rfl
       dsimp only at f1
       (try go_simp)
       refine (HCU.out _ hH.rd).mono ?_
       rintro en WN ⟨vu, rfl, h14, hbN⟩
       (try go_simp)
       replace h14 := h14.mono hB.size
       replace hB := bl_step hbN hB
       replace hG := hG.below hbN
       replace hX := hX.below hbN
       (try replace hL := hL.below hbN)
       replace hH := hH.below hbN
       (try replace h6 := h6.below hbN)
       (try replace h8 := h8.below hbN)
       (try replace h9 := h9.below hbN)
       (try replace h14 := h14.below hbN)
       (try replace h16 := h16.below hbN)
       clear hS
       have hS : ∀ l, S2 6 14 (fun X => X.cell? ⟨g, 16, none⟩ = some (.slice A n cl)) (fun X => X.cell? ⟨g, 17, none⟩ = some (.slice (some ad) (n + 1) ch)) (fun X => Blk X w.heap.size x.cells 59) l WN := fun l => S2.mk (HC16.out _ hG) (HC17.out _ hG) hX
       clear hbN
       refine hK.out _ _ (hS _) ?_
       clear hK K
       (try clear f1)
       (try clear f2)
       refine wpAnyG_put hO hn0.out hN (by rfl) (by rfl) (by rfl) (fun A9 hO9 hN9 => ?_)
       (try clear hO hN)
       have hO := hO9
       have hN := hN9
       clear hO9 hN9
       exact key A9 WN ⟨_, _, _, hB, hG, hX, h9, h14, h16, hO, hN.sub ⟨rfl, rfl, rfl, rfl, rfl, trivial⟩⟩
     ·skip
      have f1 := hN.get 42 rfl
      dsimp only at f1
      (try go_simp)
      refine gen_alloc (M := fun X b => K (Act.put A9 (some 43) (.slice (some ⟨b, 0, none⟩) 1 1)) X) (fun WN b16 hbN h16 hle => ?_)
      replace hB := bl_step hbN hB
      replace hG := hG.below hbN
      replace hX := hX.below hbN
      (try replace hL := hL.below hbN)
      replace hH := hH.below hbN
      (try replace h6 := h6.below hbN)
      (try replace h8 := h8.below hbN)
      (try replace h9 := h9.below hbN)
      (try replace h14 := h14.below hbN)
      (try replace h16 := h16.below hbN)
      clear hS
      have hS : ∀ l, S2 6 14 (fun X => X.cell? ⟨g, 16, none⟩ = some (.slice A n cl)) (fun X => X.cell? ⟨g, 17, none⟩ = some (.slice (some ad) (n + 1) ch)) (fun X => Blk X w.heap.size x.cells 59) l WN := fun l => S2.mk (HC16.out _ hG) (HC17.out _ hG) hX
      clear hbN hle
      refine hK.out _ _ (hS _) ?_
      clear hK K
      (try clear f1)
      (try clear f2)
      refine wpAnyG_put hO hn0.out hN (by rfl) (by rfl) (by rfl) (fun A9 hO9 hN9 => ?_)
      (try clear hO hN)
      have hO := hO9
      have hN := hN9
      clear hO9 hN9
      refine wpAnyG_ready (rs := [9]) (by kernel_rfl) (by simp) ?_
      refine AllReadyG.cons rfl (fun K hK => ?_) AllReadyG.nil
      refine Eq.mpr (if_pos (by rfl)) ?_
      refine append_anyW (w0 := W0) _ _ 71 59 _ 9 112 rfl Tryz.underlying71 info_en rfl (by decide) _ n (rowsE es) (some ⟨b8, 0, none⟩) 1 1 x.row h6 hB h8.rd (hN.ev 33 rfl) (hN.ev 35 rfl) x.row_length (x.row_one HXO.out) (by have := HMX.out; omega) (by have := HMX.out; omega) ?_
      intro v9 WN h9 hB9 hG9
      clear h8 hL
      replace hG := hG.grown hG9 (h6.ne_blk hG (by decide))
      replace hX := hX.grown hG9 (h6.ne_old HGX.out)
      replace hH := hH.kept hG9 (hH.apart h6 (by decide))
      (try replace h16 := h16.grown hG9 (h6.ne_blk h16 (by decide)))
      (try replace h14 := h14.kept hG9 (h14.apart h6 (by decide)))
      clear hB hS h6 hG9
      have hB := hB9
      clear hB9
      have hS : ∀ l, S2 6 14 (fun X => X.cell? ⟨g, 16, none⟩ = some (.slice A n cl)) (fun X => X.cell? ⟨g, 17, none⟩ = some (.slice (some ad) (n + 1) ch)) (fun X => Blk X w.heap.size x.cells 59) l WN := fun l => S2.mk (HC16.out _ hG) (HC17.out _ hG) hX
      refine hK.out _ _ (hS _) ?_
      clear hK K
      (try clear f1)
      (try clear f2)
      refine wpAnyG_put hO hn0.out hN (by rfl) (by rfl) (by rfl) (fun A9 hO9 hN9 => ?_)
      (try clear hO hN)
      have hO := hO9
      have hN := hN9
      clear hO9 hN9
      refine wpAnyG_ready (rs := [14]) (by kernel_rfl) (by simp) ?_
      refine AllReadyG.cons rfl (fun K hK => ?_) AllReadyG.nil
      have f1 := hN.get 40 rfl
      dsimp only at f1
      (try go_simp)
      refine (HCU.out _ hH.rd).mono ?_
      rintro en WN ⟨vu, rfl, h14, hbN⟩
      (try go_simp)
      replace h14 := h14.mono hB.size
      replace hB := bl_step hbN hB
      replace hG := hG.below hbN
      replace hX := hX.below hbN
      (try replace hL := hL.below hbN)
      replace hH := hH.below hbN
      (try replace h6 := h6.below hbN)
      (try replace h8 := h8.below hbN)
      (try replace h9 := h9.below hbN)
      (try replace h14 := h14.below hbN)
      (try replace h16 := h16.below hbN)
      clear hS
      have hS : ∀ l, S2 6 14 (fun X => X.cell? ⟨g, 16, none⟩ = some (.slice A n cl)) (fun X => X.cell? ⟨g, 17, none⟩ = some (.slice (some ad) (n + 1) ch)) (fun X => Blk X w.heap.size x.cells 59) l WN := fun l => S2.mk (HC16.out _ hG) (HC17.out _ hG) hX
      clear hbN
      refine hK.out _ _ (hS _) ?_
      clear hK K
      (try clear f1)
      (try clear f2)
      refine wpAnyG_put hO hn0.out hN (by rfl) (by rfl) (by rfl) (fun A9 hO9 hN9 => ?_)
      (try clear hO hN)
      have hO := hO9
      have hN := hN9
      clear hO9 hN9
      exact key A9 WN ⟨_, _, _, hB, hG, hX, h9, h14, h16, hO, hN.sub ⟨rfl, rfl, rfl, rfl, rfl, trivial⟩⟩
    ·skip
     have f1 := hN.get 42 rfl
     dsimp only at f1
     (try go_simp)
     refine gen_alloc (M := fun X b => K (Act.put A9 (some 43) (.slice (some ⟨b, 0, none⟩) 1 1)) X) (fun WN b16 hbN h16 hle => ?_)
     replace hB := bl_step hbN hB
     replace hG := hG.below hbN
     replace hX := hX.below hbN
     (try replace hL := hL.below hbN)
     replace hH := hH.below hbN
     (try replace h6 := h6.below hbN)
     (try replace h8 := h8.below hbN)
     (try replace h9 := h9.below hbN)
     (try replace h14 := h14.below hbN)
     (try replace h16 := h16.below hbN)
     clear hS
     have hS : ∀ l, S2 6 14 (fun X => X.cell? ⟨g, 16, none⟩ = some (.slice A n cl)) (fun X => X.cell? ⟨g, 17, none⟩ = some (.slice (some ad) (n + 1) ch)) (fun X => Blk X w.heap.size x.cells 59) l WN := fun l => S2.mk (HC16.out _ hG) (HC17.out _ hG) hX
     clear hbN hle
     refine hK.out _ _ (hS _) ?_
     clear hK K
     (try clear f1)
     (try clear f2)
     refine wpAnyG_put hO hn0.out hN (by rfl) (by rfl) (by rfl) (fun A9 hO9 hN9 => ?_)
     (try clear hO hN)
     have hO := hO9
     have hN := hN9
     clear hO9 hN9
     refine wpAnyG_ready (rs := [8]) (by kernel_rfl) (by simp) ?_
     refine AllReadyG.cons rfl (fun K hK => ?_) AllReadyG.nil
     have f1 := hN.get 34 rfl
     dsimp only at f1
     (try go_simp)
     refine gen_alloc (M := fun X b => K (Act.put A9 (some 35) (.slice (some ⟨b, 0, none⟩) 1 1)) X) (fun WN b8 hbN h8 hle => ?_)
     replace hB := bl_step hbN hB
     replace hG := hG.below hbN
     replace hX := hX.below hbN
     (try replace hL := hL.below hbN)
     replace hH := hH.below hbN
     (try replace h6 := h6.below hbN)
     (try replace h8 := h8.below hbN)
     (try replace h9 := h9.below hbN)
     (try replace h14 := h14.below hbN)
     (try replace h16 := h16.below hbN)
     clear hS
     have hS : ∀ l, S2 6 14 (fun X => X.cell? ⟨g, 16, none⟩ = some (.slice A n cl)) (fun X => X.cell? ⟨g, 17, none⟩ = some (.slice (some ad) (n + 1) ch)) (fun X => Blk X w.heap.size x.cells 59) l WN := fun l => S2.mk (HC16.out _ hG) (HC17.out _ hG) hX
     clear hbN hle
     refine hK.out _ _ (hS _) ?_
     clear hK K
     (try clear f1)
     (try clear f2)
     refine wpAnyG_put hO hn0.out hN (by rfl) (by rfl) (by rfl) (fun A9 hO9 hN9 => ?_)
     (try clear hO hN)
     have hO := hO9
     have hN := hN9
     clear hO9 hN9
     refine wpAnyG_ready (rs := [9]) (by kernel_rfl) (by simp) ?_
     refine AllReadyG.cons rfl (fun K hK => ?_) AllReadyG.nil
     refine Eq.mpr (if_pos (by rfl)) ?_
     refine append_anyW (w0 := W0) _ _ 71 59 _ 9 112 rfl Tryz.underlying71 info_en rfl (by decide) _ n (rowsE es) (some ⟨b8, 0, none⟩) 1 1 x.row h6 hB h8.rd (hN.ev 33 rfl) (hN.ev 35 rfl) x.row_length (x.row_one HXO.out) (by have := HMX.out; omega) (by have := HMX.out; omega) ?_
     intro v9 WN h9 hB9 hG9
     clear h8 hL
     replace hG := hG.grown hG9 (h6.ne_blk hG (by decide))
     replace hX := hX.grown hG9 (h6.ne_old HGX.out)
     replace hH := hH.kept hG9 (hH.apart h6 (by decide))
     (try replace h16 := h16.grown hG9 (h6.ne_blk h16 (by decide)))
     (try replace h14 := h14.kept hG9 (h14.apart h6 (by decide)))
     clear hB hS h6 hG9
     have hB := hB9
     clear hB9
     have hS : ∀ l, S2 6 14 (fun X => X.cell? ⟨g, 16, none⟩ = some (.slice A n cl)) (fun X => X.cell? ⟨g, 17, none⟩ = some (.slice (some ad) (n + 1) ch)) (fun X => Blk X w.heap.size x.cells 59) l WN := fun l => S2.mk (HC16.out _ hG) (HC17.out _ hG) hX
     refine hK.out _ _ (hS _) ?_
     clear hK K
     (try clear f1)
     (try clear f2)
     refine wpAnyG_put hO hn0.out hN (by rfl) (by rfl) (by rfl) (fun A9 hO9 hN9 => ?_)
     (try clear hO hN)
     have hO := hO9
     have hN := hN9
     clear hO9 hN9
     refine wpAnyG_ready (rs := [14]) (by kernel_rfl) (by simp) ?_
     refine AllReadyG.cons rfl (fun K hK => ?_) AllReadyG.nil
     have f1 := hN.get 40 rfl
     dsimp only at f1
     (try go_simp)
     refine (HCU.out _ hH.rd).mono ?_
     rintro en WN ⟨vu, rfl, h14, hbN⟩
     (try go_simp)
     replace h14 := h14.mono hB.size
     replace hB := bl_step hbN hB
     replace hG := hG.below hbN
     replace hX := hX.below hbN
     (try replace hL := hL.below hbN)
     replace hH := hH.below hbN
     (try replace h6 := h6.below hbN)
     (try replace h8 := h8.below hbN)
     (try replace h9 := h9.below hbN)
     (try replace h14 := h14.below hbN)
     (try replace h16 := h16.below hbN)
     clear hS
     have hS : ∀ l, S2 6 14 (fun X => X.cell? ⟨g, 16, none⟩ = some (.slice A n cl)) (fun X => X.cell? ⟨g, 17, none⟩ = some (.slice (some ad) (n + 1) ch)) (fun X => Blk X w.heap.size x.cells 59) l WN := fun l => S2.mk (HC16.out _ hG) (HC17.out _ hG) hX
     clear hbN
     refine hK.out _ _ (hS _) ?_
     clear hK K
     (try clear f1)
     (try clear f2)
     refine wpAnyG_put hO hn0.out hN (by rfl) (by rfl) (by rfl) (fun A9 hO9 hN9 => ?_)
     (try clear hO hN)
     have hO := hO9
     have hN := hN9
     clear hO9 hN9
     exact key A9 WN ⟨_, _, _, hB, hG, hX, h9, h14, h16, hO, hN.sub ⟨rfl, rfl, rfl, rfl, rfl, trivial⟩⟩
   ·skip
    have f1 := hN.get 34 rfl
    dsimp only at f1
    (try go_simp)
    refine gen_alloc (M := fun X b => K (Act.put A9 (some 35) (.slice (some ⟨b, 0, none⟩) 1 1)) X) (fun WN b8 hbN h8 hle => ?_)
    replace hB := bl_step hbN hB
    replace hG := hG.below hbN
    replace hX := hX.below hbN
    (try replace hL := hL.below hbN)
    replace hH := hH.below hbN
    (try replace h6 := h6.below hbN)
    (try replace h8 := h8.below hbN)
    (try replace h9 := h9.below hbN)
    (try replace h14 := h14.below hbN)
    (try replace h16 := h16.below hbN)
    clear hS
    have hS : ∀ l, S2 6 14 (fun X => X.cell? ⟨g, 16, none⟩ = some (.slice A n cl)) (fun X => X.cell? ⟨g, 17, none⟩ = some (.slice (some ad) (n + 1) ch)) (fun X => Blk X w.heap.size x.cells 59) l WN := fun l => S2.mk (HC16.out _ hG) (HC17.out _ hG) hX
    clear hbN hle
    refine hK.out _ _ (hS _) ?_
    clear hK K
    (try clear f1)
    (try clear f2)
    refine wpAnyG_put hO hn0.out hN (by rfl) (by rfl) (by rfl) (fun A9 hO9 hN9 => ?_)
    (try clear hO hN)
    have hO := hO9
    have hN := hN9
    clear hO9 hN9
    refine wpAnyG_ready (rs := [6, 16]) (by kernel_rfl) (by simp) ?_
    refine AllReadyG.cons rfl (fun K hK => ?_) (AllReadyG.cons rfl (fun K hK => ?_) AllReadyG.nil)
    ·skip
     have f1 := hN.get 32 rfl
     dsimp only at f1
     (try go_simp)
     refine (HCE.out _ hL.rd).mono ?_
     rintro en WN ⟨vk, rfl, h6, hbN⟩
     (try go_simp)
     replace h6 := h6.mono hB.size
     replace hB := bl_step hbN hB
     replace hG := hG.below hbN
     replace hX := hX.below hbN
     (try replace hL := hL.below hbN)
     replace hH := hH.below hbN
     (try replace h6 := h6.below hbN)
     (try replace h8 := h8.below hbN)
     (try replace h9 := h9.below hbN)
     (try replace h14 := h14.below hbN)
     (try replace h16 := h16.below hbN)
     clear hS
     have hS : ∀ l, S2 6 14 (fun X => X.cell? ⟨g, 16, none⟩ = some (.slice A n cl)) (fun X => X.cell? ⟨g, 17, none⟩ = some (.slice (some ad) (n + 1) ch)) (fun X => Blk X w.heap.size x.cells 59) l WN := fun l => S2.mk (HC16.out _ hG) (HC17.out _ hG) hX
     clear hbN
     refine hK.out _ _ (hS _) ?_
     clear hK K
     (try clear f1)
     (try clear f2)
     refine wpAnyG_put hO hn0.out hN (by rfl) (by rfl) (by rfl) (fun A9 hO9 hN9 => ?_)
     (try clear hO hN)
     have hO := hO9
     have hN := hN9
     clear hO9 hN9
     refine wpAnyG_ready (rs := [9, 16]) (by kernel_rfl) (by simp) ?_
     refine AllReadyG.cons rfl (fun K hK => ?_) (AllReadyG.cons rfl (fun K hK => ?_) AllReadyG.nil)
     ·skip
      refine Eq.mpr (if_pos (by rfl)) ?_
      refine append_anyW (w0 := W0) _ _ 71 59 _ 9 112 rfl Tryz.underlying71 info_en rfl (by decide) _ n (rowsE es) (some ⟨b8, 0, none⟩) 1 1 x.row h6 hB h8.rd (hN.ev 33 rfl) (hN.ev 35 rfl) x.row_length (x.row_one HXO.out) (by have := HMX.out; omega) (by have := HMX.out; omega) ?_
      intro v9 WN h9 hB9 hG9
      clear h8 hL
      replace hG := hG.grown hG9 (h6.ne_blk hG (by decide))
      replace hX := hX.grown hG9 (h6.ne_old HGX.out)
      replace hH := hH.kept hG9 (hH.apart h6 (by decide))
      (try replace h16 := h16.grown hG9 (h6.ne_blk h16 (by decide)))
      (try replace h14 := h14.kept hG9 (h14.apart h6 (by decide)))
      clear hB hS h6 hG9
      have hB := hB9
      clear hB9
      have hS : ∀ l, S2 6 14 (fun X => X.cell? ⟨g, 16, none⟩ = some (.slice A n cl)) (fun X => X.cell? ⟨g, 17, none⟩ = some (.slice (some ad) (n + 1) ch)) (fun X => Blk X w.heap.size x.cells 59) l WN := fun l => S2.mk (HC16.out _ hG) (HC17.out _ hG) hX
      refine hK.out _ _ (hS _) ?_
      clear hK K
      (try clear f1)
      (try clear f2)
      refine wpAnyG_put hO hn0.out hN (by rfl) (by rfl) (by rfl) (fun A9 hO9 hN9 => ?_)
      (try clear hO hN)
      have hO := hO9
      have hN := hN9
      clear hO9 hN9
      refine wpAnyG_ready (rs := [14, 16]) (by kernel_rfl) (by simp) ?_
      refine AllReadyG.cons rfl (fun K hK => ?_) (AllReadyG.cons rfl (fun K hK => ?_) AllReadyG.nil)
      ·skip
       have f1 := hN.get 40 rfl
       dsimp only at f1
       (try go_simp)
       refine (HCU.out _ hH.rd).mono ?_
       rintro en WN ⟨vu, rfl, h14, hbN⟩
       (try go_simp)
       replace h14 := h14.mono hB.size
       replace hB := bl_step hbN hB
       replace hG := hG.below hbN
       replace hX := hX.below hbN
       (try replace hL := hL.below hbN)
       replace hH := hH.below hbN
       (try replace h6 := h6.below hbN)
       (try replace h8 := h8.below hbN)
       (try replace h9 := h9.below hbN)
       (try replace h14 := h14.below hbN)
       (try replace h16 := h16.below hbN)
       clear hS
       have hS : ∀ l, S2 6 14 (fun X => X.cell? ⟨g, 16, none⟩ = some (.slice A n cl)) (fun X => X.cell? ⟨g, 17, none⟩ = some (.slice (some ad) (n + 1) ch)) (fun X => Blk X w.heap.size x.cells 59) l WN := fun l => S2.mk (HC16.out _ hG) (HC17.out _ hG) hX
       clear hbN
       refine hK.out _ _ (hS _) ?_
       clear hK K
       (try clear f1)
       (try clear f2)
       refine wpAnyG_put hO hn0.out hN (by rfl) (by rfl) (by rfl) (fun A9 hO9 hN9 => ?_)
       (try clear hO hN)
       have hO := hO9
       have hN := hN9
       clear hO9 hN9
       refine wpAnyG_ready (rs := [16]) (by kernel_rfl) (by simp) ?_
       refine AllReadyG.cons rfl (fun K hK => ?_) AllReadyG.nil
       have f1 := hN.get 42 rfl
       dsimp only at f1
       (try go_simp)
       refine gen_alloc (M := fun X b => K (Act.put A9 (some 43) (.slice (some ⟨b, 0, none⟩) 1 1)) X) (fun WN b16 hbN h16 hle => ?_)
       replace hB := bl_step hbN hB
       replace hG := hG.below hbN
       replace hX := hX.below hbN
       (try replace hL := hL.below hbN)
       replace hH := hH.below hbN
       (try replace h6 := h6.below hbN)
       (try replace h8 := h8.below hbN)
       (try replace h9 := h9.below hbN)
       (try replace h14 := h14.below hbN)
       (try replace h16 := h16.below hbN)
       clear hS
       have hS : ∀ l, S2 6 14 (fun X => X.cell? ⟨g, 16, none⟩ = some (.slice A n cl)) (fun X => X.cell? ⟨g, 17, none⟩ = some (.slice (some ad) (n + 1) ch)) (fun X => Blk X w.heap.size x.cells 59) l WN := fun l => S2.mk (HC16.out _ hG) (HC17.out _ hG) hX
       clear hbN hle
       refine hK.out _ _ (hS _) ?_
       clear hK K
       (try clear f1)
       (try clear f2)
       refine wpAnyG_put hO hn0.out hN (by rfl) (by rfl) (by rfl) (fun A9 hO9 hN9 => ?_)
       (try clear hO hN)
       have hO := hO9
       have hN := hN9
       clear hO9 hN9
       exact key A9 WN ⟨_, _, _, hB, hG, hX, h9, h14, h16, hO, hN.sub ⟨rfl, rfl, rfl, rfl, rfl, trivial⟩⟩
      ·skip
       have f1 := hN.get 42 rfl
       dsimp only at f1
       (try go_simp)
       refine gen_alloc (M := fun X b => K (Act.put A9 (some 43) (.slice (some ⟨b, 0, none⟩) 1 1)) X) (fun WN b16 hbN h16 hle => ?_)
       replace hB := bl_step hbN hB
       replace hG := hG.below hbN
       replace hX := hX.below hbN
       (try replace hL := hL.below hbN)
       replace hH := hH.below hbN
       (try replace h6 := h6.below hbN)
       (try replace h8 := h8.below hbN)
       (try replace h9 := h9.below hbN)
       (try replace h14 := h14.below hbN)
       (try replace h16 := h16.below hbN)
       clear hS
       have hS : ∀ l, S2 6 14 (fun X => X.cell? ⟨g, 16, none⟩ = some (.slice A n cl)) (fun X => X.cell? ⟨g, 17, none⟩ = some (.slice (some ad) (n + 1) ch)) (fun X => Blk X w.heap.size x.cells 59) l WN := fun l => S2.mk (HC16.out _ hG) (HC17.out _ hG) hX
       clear hbN hle
       refine hK.out _ _ (hS _) ?_
       clear hK K
       (try clear f1)
       (try clear f2)
       refine wpAnyG_put hO hn0.out hN (by rfl) (by rfl) (by rfl) (fun A9 hO9 hN9 => ?_)
       (try clear hO hN)
       have hO := hO9
       have hN := hN9
       clear hO9 hN9
       refine wpAnyG_ready (rs := [14]) (by kernel_rfl) (by simp) ?_
       refine AllReadyG.cons rfl (fun K hK => ?_) AllReadyG.nil
       have f1 := hN.get 40 rfl
       dsimp only at f1
       (try go_simp)
       refine (HCU.out _ hH.rd).mono ?_
       rintro en WN ⟨vu, rfl, h14, hbN⟩
       (try go_simp)
       replace h14 := h14.mono hB.size
       replace hB := bl_step hbN hB
       replace hG := hG.below hbN
       replace hX := hX.below hbN
       (try replace hL := hL.below hbN)
       replace hH := hH.below hbN
       (try replace h6 := h6.below hbN)
       (try replace h8 := h8.below hbN)
       (try replace h9 := h9.below hbN)
       (try replace h14 := h14.below hbN)
       (try replace h16 := h16.below hbN)
       clear hS
       have hS : ∀ l, S2 6 14 (fun X => X.cell? ⟨g, 16, none⟩ = some (.slice A n cl)) (fun X => X.cell? ⟨g, 17, none⟩ = some (.slice (some ad) (n + 1) ch)) (fun X => Blk X w.heap.size x.cells 59) l WN := fun l => S2.mk (HC16.out _ hG) (HC17.out _ hG) hX
       clear hbN
       refine hK.out _ _ (hS _) ?_
       clear hK K
       (try clear f1)
       (try clear f2)
       refine wpAnyG_put hO hn0.out hN (by rfl) (by rfl) (by rfl) (fun A9 hO9 hN9 => ?_)
       (try clear hO hN)
       have hO := hO9
       have hN := hN9
       clear hO9 hN9
       exact key A9 WN ⟨_, _, _, hB, hG, hX, h9, h14, h16, hO, hN.sub ⟨rfl, rfl, rfl, rfl, rfl, trivial⟩⟩
     ·skip
      have f1 := hN.get 42 rfl
      dsimp only at f1
      (try go_simp)
      refine gen_alloc (M := fun X b => K (Act.put A9 (some 43) (.slice (some ⟨b, 0, none⟩) 1 1)) X) (fun WN b16 hbN h16 hle => ?_)
      replace hB := bl_step hbN hB
      replace hG := hG.below hbN
      replace hX := hX.below hbN
      (try replace hL := hL.below hbN)
      replace hH := hH.below hbN
      (try replace h6 := h6.below hbN)
      (try replace h8 := h8.below hbN)
      (try replace h9 := h9.below hbN)
      (try replace h14 := h14.below hbN)
      (try replace h16 := h16.below hbN)
      clear hS
      have hS : ∀ l, S2 6 14 (fun X => X.cell? ⟨g, 16, none⟩ = some (.slice A n cl)) (fun X => X.cell? ⟨g, 17, none⟩ = some (.slice (some ad) (n + 1) ch)) (fun X => Blk X w.heap.size x.cells 59) l WN := fun l => S2.mk (HC16.out _ hG) (HC17.out _ hG) hX
      clear hbN hle
      refine hK.out _ _ (hS _) ?_
      clear hK K
      (try clear f1)
      (try clear f2)
      refine wpAnyG_put hO hn0.out hN (by rfl) (by rfl) (by rfl) (fun A9 hO9 hN9 => ?_)
      (try clear hO hN)
      have hO := hO9
      have hN := hN9
      clear hO9 hN9
      refine wpAnyG_ready (rs := [9]) (by kernel_rfl) (by simp) ?_
      refine AllReadyG.cons rfl (fun K hK => ?_) AllReadyG.nil
      refine Eq.mpr (if_pos (by rfl)) ?_
      refine append_anyW (w0 := W0) _ _ 71 59 _ 9 112 rfl Tryz.underlying71 info_en rfl (by decide) _ n (rowsE es) (some ⟨b8, 0, none⟩) 1 1 x.row h6 hB h8.rd (hN.ev 33 rfl) (hN.ev 35 rfl) x.row_length (x.row_one HXO.out) (by have := HMX.out; omega) (by have := HMX.out; omega) ?_
      intro v9 WN h9 hB9 hG9
      clear h8 hL
      replace hG := hG.grown hG9 (h6.ne_blk hG (by decide))
      replace hX := hX.grown hG9 (h6.ne_old HGX.out)
      replace hH := hH.kept hG9 (hH.apart h6 (by decide))
      (try replace h16 := h16.grown hG9 (h6.ne_blk h16 (by decide)))
      (try replace h14 := h14.kept hG9 (h14.apart h6 (by decide)))
      clear hB hS h6 hG9
      have hB := hB9
      clear hB9
      have hS : ∀ l, S2 6 14 (fun X => X.cell? ⟨g, 16, none⟩ = some (.slice A n cl)) (fun X => X.cell? ⟨g, 17, none⟩ = some (.slice (some ad) (n + 1) ch)) (fun X => Blk X w.heap.size x.cells 59) l WN := fun l => S2.mk (HC16.out _ hG) (HC17.out _ hG) hX
      refine hK.out _ _ (hS _) ?_
      clear hK K
      (try clear f1)
      (try clear f2)
      refine wpAnyG_put hO hn0.out hN (by rfl) (by rfl) (by rfl) (fun A9 hO9 hN9 => ?_)
      (try clear hO hN)
      have hO := hO9
      have hN := hN9
      clear hO9 hN9
      refine wpAnyG_ready (rs := [14]) (by kernel_rfl) (by simp) ?_
      refine AllReadyG.cons rfl (fun K hK => ?_) AllReadyG.nil
      have f1 := hN.get 40 rfl
      dsimp only at f1
      (try go_simp)
      refine (HCU.out _ hH.rd).mono ?_
      rintro en WN ⟨vu, rfl, h14, hbN⟩
      (try go_simp)
      replace h14 := h14.mono hB.size
      replace hB := bl_step hbN hB
      replace hG := hG.below hbN
      replace hX := hX.below hbN
      (try replace hL := hL.below hbN)
      replace hH := hH.below hbN
      (try replace h6 := h6.below hbN)
      (try replace h8 := h8.below hbN)
      (try replace h9 := h9.below hbN)
      (try replace h14 := h14.below hbN)
      (try replace h16 := h16.below hbN)
      clear hS
      have hS : ∀ l, S2 6 14 (fun X => X.cell? ⟨g, 16, none⟩ = some (.slice A n cl)) (fun X => X.cell? ⟨g, 17, none⟩ = some (.slice (some ad) (n + 1) ch)) (fun X => Blk X w.heap.size x.cells 59) l WN := fun l => S2.mk (HC16.out _ hG) (HC17.out _ hG) hX
      clear hbN
      refine hK.out _ _ (hS _) ?_
      clear hK K
      (try clear f1)
      (try clear f2)
      refine wpAnyG_put hO hn0.out hN (by rfl) (by rfl) (by rfl) (fun A9 hO9 hN9 => ?_)
      (try clear hO hN)
      have hO := hO9
      have hN := hN9
      clear hO9 hN9
      exact key A9 WN ⟨_, _, _, hB, hG, hX, h9, h14, h16, hO, hN.sub ⟨rfl, rfl, rfl, rfl, rfl, trivial⟩⟩
    ·skip
     have f1 := hN.get 42 rfl
     dsimp only at f1
     (try go_simp)
     refine gen_alloc (M := fun X b => K (Act.put A9 (some 43) (.slice (some ⟨b, 0, none⟩) 1 1)) X) (fun WN b16 hbN h16 hle => ?_)
     replace hB := bl_step hbN hB
     replace hG := hG.below hbN
     replace hX := hX.below hbN
     (try replace hL := hL.below hbN)
     replace hH := hH.below hbN
     (try replace h6 := h6.below hbN)
     (try replace h8 := h8.below hbN)
     (try replace h9 := h9.below hbN)
     (try replace h14 := h14.below hbN)
     (try replace h16 := h16.below hbN)
     clear hS
     have hS : ∀ l, S2 6 14 (fun X => X.cell? ⟨g, 16, none⟩ = some (.slice A n cl)) (fun X => X.cell? ⟨g, 17, none⟩ = some (.slice (some ad) (n + 1) ch)) (fun X => Blk X w.heap.size x.cells 59) l WN := fun l => S2.mk (HC16.out _ hG) (HC17.out _ hG) hX
     clear hbN hle
     refine hK.out _ _ (hS _) ?_
     clear hK K
     (try clear f1)
     (try clear f2)
     refine wpAnyG_put hO hn0.out hN (by rfl) (by rfl) (by rfl) (fun A9 hO9 hN9 => ?_)
     (try clear hO hN)
     have hO := hO9
     have hN := hN9
     clear hO9 hN9
     refine wpAnyG_ready (rs := [6]) (by kernel_rfl) (by simp) ?_
     refine AllReadyG.cons rfl (fun K hK => ?_) AllReadyG.nil
     have f1 := hN.get 32 rfl
     dsimp only at f1
     (try go_simp)
     refine (HCE.out _ hL.rd).mono ?_
     rintro en WN ⟨vk, rfl, h6, hbN⟩
     (try go_simp)
     replace h6 := h6.mono hB.size
     replace hB := bl_step hbN hB
     replace hG := hG.below hbN
     replace hX := hX.below hbN
     (try replace hL := hL.below hbN)
     replace hH := hH.below hbN
     (try replace h6 := h6.below hbN)
     (try replace h8 := h8.below hbN)
     (try replace h9 := h9.below hbN)
     (try replace h14 := h14.below hbN)
     (try replace h16 := h16.below hbN)
     clear hS
     have hS : ∀ l, S2 6 14 (fun X => X.cell? ⟨g, 16, none⟩ = some (.slice A n cl)) (fun X => X.cell? ⟨g, 17, none⟩ = some (.slice (some ad) (n + 1) ch)) (fun X => Blk X w.heap.size x.cells 59) l WN := fun l => S2.mk (HC16.out _ hG) (HC17.out _ hG) hX
     clear hbN
     refine hK.out _ _ (hS _) ?_
     clear hK K
     (try clear f1)
     (try clear f2)
     refine wpAnyG_put hO hn0.out hN (by rfl) (by rfl) (by rfl) (fun A9 hO9 hN9 => ?_)
     (try clear hO hN)
     have hO := hO9
     have hN := hN9
     clear hO9 hN9
     refine wpAnyG_ready (rs := [9]) (by kernel_rfl) (by simp) ?_
     refine AllReadyG.cons rfl (fun K hK => ?_) AllReadyG.nil
     refine Eq.mpr (if_pos (by rfl)) ?_
     refine append_anyW (w0 := W0) _ _ 71 59 _ 9 112 rfl Tryz.underlying71 info_en rfl (by decide) _ n (rowsE es) (some ⟨b8, 0, none⟩) 1 1 x.row h6 hB h8.rd (hN.ev 33 rfl) (hN.ev 35 rfl) x.row_length (x.row_one HXO.out) (by have := HMX.out; omega) (by have := HMX.out; omega) ?_
     intro v9 WN h9 hB9 hG9
     clear h8 hL
     replace hG := hG.grown hG9 (h6.ne_blk hG (by decide))
     replace hX := hX.grown hG9 (h6.ne_old HGX.out)
     replace hH := hH.kept hG9 (hH.apart h6 (by decide))
     (try replace h16 := h16.grown hG9 (h6.ne_blk h16 (by decide)))
     (try replace h14 := h14.kept hG9 (h14.apart h6 (by decide)))
     clear hB hS h6 hG9
     have hB := hB9
     clear hB9
     have hS : ∀ l, S2 6 14 (fun X => X.cell? ⟨g, 16, none⟩ = some (.slice A n cl)) (fun X => X.cell? ⟨g, 17, none⟩ = some (.slice (some ad) (n + 1) ch)) (fun X => Blk X w.heap.size x.cells 59) l WN := fun l => S2.mk (HC16.out _ hG) (HC17.out _ hG) hX
     refine hK.out _ _ (hS _) ?_
     clear hK K
     (try clear f1)
     (try clear f2)
     refine wpAnyG_put hO hn0.out hN (by rfl) (by rfl) (by rfl) (fun A9 hO9 hN9 => ?_)
     (try clear hO hN)
     have hO := hO9
     have hN := hN9
     clear hO9 hN9
     refine wpAnyG_ready (rs := [14]) (by kernel_rfl) (by simp) ?_
     refine AllReadyG.cons rfl (fun K hK => ?_) AllReadyG.nil
     have f1 := hN.get 40 rfl
     dsimp only at f1
     (try go_simp)
     refine (HCU.out _ hH.rd).mono ?_
     rintro en WN ⟨vu, rfl, h14, hbN⟩
     (try go_simp)
     replace h14 := h14.mono hB.size
     replace hB := bl_step hbN hB
     replace hG := hG.below hbN
     replace hX := hX.below hbN
     (try replace hL := hL.below hbN)
     replace hH := hH.below hbN
     (try replace h6 := h6.below hbN)
     (try replace h8 := h8.below hbN)
     (try replace h9 := h9.below hbN)
     (try replace h14 := h14.below hbN)
     (try replace h16 := h16.below hbN)
     clear hS
     have hS : ∀ l, S2 6 14 (fun X => X.cell? ⟨g, 16, none⟩ = some (.slice A n cl)) (fun X => X.cell? ⟨g, 17, none⟩ = some (.slice (some ad) (n + 1) ch)) (fun X => Blk X w.heap.size x.cells 59) l WN := fun l => S2.mk (HC16.out _ hG) (HC17.out _ hG) hX
     clear hbN
     refine hK.out _ _ (hS _) ?_
     clear hK K
     (try clear f1)
     (try clear f2)
     refine wpAnyG_put hO hn0.out hN (by rfl) (by rfl) (by rfl) (fun A9 hO9 hN9 => ?_)
     (try clear hO hN)
     have hO := hO9
     have hN := hN9
     clear hO9 hN9
     exact key A9 WN ⟨_, _, _, hB, hG, hX, h9, h14, h16, hO, hN.sub ⟨rfl, rfl, rfl, rfl, rfl, trivial⟩⟩
   ·skip
    have f1 := hN.get 42 rfl
    dsimp only at f1
    (try go_simp)
    refine gen_alloc (M := fun X b => K (Act.put A9 (some 43) (.slice (some ⟨b, 0, none⟩) 1 1)) X) (fun WN b16 hbN h16 hle => ?_)
    replace hB := bl_step hbN hB
    replace hG := hG.below hbN
    replace hX := hX.below hbN
    (try replace hL := hL.below hbN)
    replace hH := hH.below hbN
    (try replace h6 := h6.below hbN)
    (try replace h8 := h8.below hbN)
    (try replace h9 := h9.below hbN)
    (try replace h14 := h14.below hbN)
    (try replace h16 := h16.below hbN)
    clear hS
    have hS : ∀ l, S2 6 14 (fun X => X.cell? ⟨g, 16, none⟩ = some (.slice A n cl)) (fun X => X.cell? ⟨g, 17, none⟩ = some (.slice (some ad) (n + 1) ch)) (fun X => Blk X w.heap.size x.cells 59) l WN := fun l => S2.mk (HC16.out _ hG) (HC17.out _ hG) hX
    clear hbN hle
    refine hK.out _ _ (hS _) ?_
    clear hK K
    (try clear f1)
    (try clear f2)
    refine wpAnyG_put hO hn0.out hN (by rfl) (by rfl) (by rfl) (fun A9 hO9 hN9 => ?_)
    (try clear hO hN)
    have hO := hO9
    have hN := hN9
    clear hO9 hN9
    refine wpAnyG_ready (rs := [6, 8]) (by kernel_rfl) (by simp) ?_
    refine AllReadyG.cons rfl (fun K hK => ?_) (AllReadyG.cons rfl (fun K hK => ?_) AllReadyG.nil)
    ·skip
     have f1 := hN.get 32 rfl
     dsimp only at f1
     (try go_simp)
     refine (HCE.out _ hL.rd).mono ?_
     rintro en WN ⟨vk, rfl, h6, hbN⟩
     (try go_simp)
     replace h6 := h6.mono hB.size
     replace hB := bl_step hbN hB
     replace hG := hG.below hbN
     replace hX := hX.below hbN
     (try replace hL := hL.below hbN)
     replace hH := hH.below hbN
     (try replace h6 := h6.below hbN)
     (try replace h8 := h8.below hbN)
     (try replace h9 := h9.below hbN)
     (try replace h14 := h14.below hbN)
     (try replace h16 := h16.below hbN)
     clear hS
     have hS : ∀ l, S2 6 14 (fun X => X.cell? ⟨g, 16, none⟩ = some (.slice A n cl)) (fun X => X.cell? ⟨g, 17, none⟩ = some (.slice (some ad) (n + 1) ch)) (fun X => Blk X w.heap.size x.cells 59) l WN := fun l => S2.mk (HC16.out _ hG) (HC17.out _ hG) hX
     clear hbN
     refine hK.out _ _ (hS _) ?_
     clear hK K
     (try clear f1)
     (try clear f2)
     refine wpAnyG_put hO hn0.out hN (by rfl) (by rfl) (by rfl) (fun A9 hO9 hN9 => ?_)
     (try clear hO hN)
     have hO := hO9
     have hN := hN9
     clear hO9 hN9
     refine wpAnyG_ready (rs := [8]) (by kernel_rfl) (by simp) ?_
     refine AllReadyG.cons rfl (fun K hK => ?_) AllReadyG.nil
     have f1 := hN.get 34 rfl
     dsimp only at f1
     (try go_simp)
     refine gen_alloc (M := fun X b => K (Act.put A9 (some 35) (.slice (some ⟨b, 0, none⟩) 1 1)) X) (fun WN b8 hbN h8 hle => ?_)
     replace hB := bl_step hbN hB
     replace hG := hG.below hbN
     replace hX := hX.below hbN
     (try replace hL := hL.below hbN)
     replace hH := hH.below hbN
     (try replace h6 := h6.below hbN)
     (try replace h8 := h8.below hbN)
     (try replace h9 := h9.below hbN)
     (try replace h14 := h14.below hbN)
     (try replace h16 := h16.below hbN)
     clear hS
     have hS : ∀ l, S2 6 14 (fun X => X.cell? ⟨g, 16, none⟩ = some (.slice A n cl)) (fun X => X.cell? ⟨g, 17, none⟩ = some (.slice (some ad) (n + 1) ch)) (fun X => Blk X w.heap.size x.cells 59) l WN := fun l => S2.mk (HC16.out _ hG) (HC17.out _ hG) hX
     clear hbN hle
     refine hK.out _ _ (hS _) ?_
     clear hK K
     (try clear f1)
     (try clear f2)
     refine wpAnyG_put hO hn0.out hN (by rfl) (by rfl) (by rfl) (fun A9 hO9 hN9 => ?_)
     (try clear hO hN)
     have hO := hO9
     have hN := hN9
     clear hO9 hN9
     refine wpAnyG_ready (rs := [9]) (by kernel_rfl) (by simp) ?_
     refine AllReadyG.cons rfl (fun K hK => ?_) AllReadyG.nil
     refine Eq.mpr (if_pos (by rfl)) ?_
     refine append_anyW (w0 := W0) _ _ 71 59 _ 9 112 rfl Tryz.underlying71 info_en rfl (by decide) _ n (rowsE es) (some ⟨b8, 0, none⟩) 1 1 x.row h6 hB h8.rd (hN.ev 33 rfl) (hN.ev 35 rfl) x.row_length (x.row_one HXO.out) (by have := HMX.out; omega) (by have := HMX.out; omega) ?_
     intro v9 WN h9 hB9 hG9
     clear h8 hL
     replace hG := hG.grown hG9 (h6.ne_blk hG (by decide))
     replace hX := hX.grown hG9 (h6.ne_old HGX.out)
     replace hH := hH.kept hG9 (hH.apart h6 (by decide))
     (try replace h16 := h16.grown hG9 (h6.ne_blk h16 (by decide)))
     (try replace h14 := h14.kept hG9 (h14.apart h6 (by decide)))
     clear hB hS h6 hG9
     have hB := hB9
     clear hB9
     have hS : ∀ l, S2 6 14 (fun X => X.cell? ⟨g, 16, none⟩ = some (.slice A n cl)) (fun X => X.cell? ⟨g, 17, none⟩ = some (.slice (some ad) (n + 1) ch)) (fun X => Blk X w.heap.size x.cells 59) l WN := fun l => S2.mk (HC16.out _ hG) (HC17.out _ hG) hX
     refine hK.out _ _ (hS _) ?_
     clear hK K
     (try clear f1)
     (try clear f2)
     refine wpAnyG_put hO hn0.out hN (by rfl) (by rfl) (by rfl) (fun A9 hO9 hN9 => ?_)
     (try clear hO hN)
     have hO := hO9
     have hN := hN9
     clear hO9 hN9
     refine wpAnyG_ready (rs := [14]) (by kernel_rfl) (by simp) ?_
     refine AllReadyG.cons rfl (fun K hK => ?_) AllReadyG.nil
     have f1 := hN.get 40 rfl
     dsimp only at f1
     (try go_simp)
     refine (HCU.out _ hH.rd).mono ?_
     rintro en WN ⟨vu, rfl, h14, hbN⟩
     (try go_simp)
     replace h14 := h14.mono hB.size
     replace hB := bl_step hbN hB
     replace hG := hG.below hbN
     replace hX := hX.below hbN
     (try replace hL := hL.below hbN)
     replace hH := hH.below hbN
     (try replace h6 := h6.below hbN)
     (try replace h8 := h8.below hbN)
     (try replace h9 := h9.below hbN)
     (try replace h14 := h14.below hbN)
     (try replace h16 := h16.below hbN)
     clear hS
     have hS : ∀ l, S2 6 14 (fun X => X.cell? ⟨g, 16, none⟩ = some (.slice A n cl)) (fun X => X.cell? ⟨g, 17, none⟩ = some (.slice (some ad) (n + 1) ch)) (fun X => Blk X w.heap.size x.cells 59) l WN := fun l => S2.mk (HC16.out _ hG) (HC17.out _ hG) hX
     clear hbN
     refine hK.out _ _ (hS _) ?_
     clear hK K
     (try clear f1)
     (try clear f2)
     refine wpAnyG_put hO hn0.out hN (by rfl) (by rfl) (by rfl) (fun A9 hO9 hN9 => ?_)
     (try clear hO hN)
     have hO := hO9
     have hN := hN9
     clear hO9 hN9
     exact key A9 WN ⟨_, _, _, hB, hG, hX, h9, h14, h16, hO, hN.sub ⟨rfl, rfl, rfl, rfl, rfl, trivial⟩⟩
    ·skip
     have f1 := hN.get 34 rfl
     dsimp only at f1
     (try go_simp)
     refine gen_alloc (M := fun X b => K (Act.put A9 (some 35) (.slice (some ⟨b, 0, none⟩) 1 1)) X) (fun WN b8 hbN h8 hle => ?_)
     replace hB := bl_step hbN hB
     replace hG := hG.below hbN
     replace hX := hX.below hbN
     (try replace hL := hL.below hbN)
     replace hH := hH.below hbN
     (try replace h6 := h6.below hbN)
     (try replace h8 := h8.below hbN)
     (try replace h9 := h9.below hbN)
     (try replace h14 := h14.below hbN)
     (try replace h16 := h16.below hbN)
     clear hS
     have hS : ∀ l, S2 6 14 (fun X => X.cell? ⟨g, 16, none⟩ = some (.slice A n cl)) (fun X => X.cell? ⟨g, 17, none⟩ = some (.slice (some ad) (n + 1) ch)) (fun X => Blk X w.heap.size x.cells 59) l WN := fun l => S2.mk (HC16.out _ hG) (HC17.out _ hG) hX
     clear hbN hle
     refine hK.out _ _ (hS _) ?_
     clear hK K
     (try clear f1)
     (try clear f2)
     refine wpAnyG_put hO hn0.out hN (by rfl) (by rfl) (by rfl) (fun A9 hO9 hN9 => ?_)
     (try clear hO hN)
     have hO := hO9
     have hN := hN9
     clear hO9 hN9
     refine wpAnyG_ready (rs := [6]) (by kernel_rfl) (by simp) ?_
     refine AllReadyG.cons rfl (fun K hK => ?_) AllReadyG.nil
     have f1 := hN.get 32 rfl
     dsimp only at f1
     (try go_simp)
     refine (HCE.out _ hL.rd).mono ?_
     rintro en WN ⟨vk, rfl, h6, hbN⟩
     (try go_simp)
     replace h6 := h6.mono hB.size
     replace hB := bl_step hbN hB
     replace hG := hG.below hbN
     replace hX := hX.below hbN
     (try replace hL := hL.below hbN)
     replace hH := hH.below hbN
     (try replace h6 := h6.below hbN)
     (try replace h8 := h8.below hbN)
     (try replace h9 := h9.below hbN)
     (try replace h14 := h14.below hbN)
     (try replace h16 := h16.below hbN)
     clear hS
     have hS : ∀ l, S2 6 14 (fun X => X.cell? ⟨g, 16, none⟩ = some (.slice A n cl)) (fun X => X.cell? ⟨g, 17, none⟩ = some (.slice (some ad) (n + 1) ch)) (fun X => Blk X w.heap.size x.cells 59) l WN := fun l => S2.mk (HC16.out _ hG) (HC17.out _ hG) hX
     clear hbN
     refine hK.out _ _ (hS _) ?_
     clear hK K
     (try clear f1)
     (try clear f2)
     refine wpAnyG_put hO hn0.out hN (by rfl) (by rfl) (by rfl) (fun A9 hO9 hN9 => ?_)
     (try clear hO hN)
     have hO := hO9
     have hN := hN9
     clear hO9 hN9
     refine wpAnyG_ready (rs := [9]) (by kernel_rfl) (by simp) ?_
     refine AllReadyG.cons rfl (fun K hK => ?_) AllReadyG.nil
     refine Eq.mpr (if_pos (by rfl)) ?_
     refine append_anyW (w0 := W0) _ _ 71 59 _ 9 112 rfl Tryz.underlying71 info_en rfl (by decide) _ n (rowsE es) (some ⟨b8, 0, none⟩) 1 1 x.row h6 hB h8.rd (hN.ev 33 rfl) (hN.ev 35 rfl) x.row_length (x.row_one HXO.out) (by have := HMX.out; omega) (by have := HMX.out; omega) ?_
     intro v9 WN h9 hB9 hG9
     clear h8 hL
     replace hG := hG.grown hG9 (h6.ne_blk hG (by decide))
     replace hX := hX.grown hG9 (h6.ne_old HGX.out)
     replace hH := hH.kept hG9 (hH.apart h6 (by decide))
     (try replace h16 := h16.grown hG9 (h6.ne_blk h16 (by decide)))
     (try replace h14 := h14.kept hG9 (h14.apart h6 (by decide)))
     clear hB hS h6 hG9
     have hB := hB9
     clear hB9
     have hS : ∀ l, S2 6 14 (fun X => X.cell? ⟨g, 16, none⟩ = some (.slice A n cl)) (fun X => X.cell? ⟨g, 17, none⟩ = some (.slice (some ad) (n + 1) ch)) (fun X => Blk X w.heap.size x.cells 59) l WN := fun l => S2.mk (HC16.out _ hG) (HC17.out _ hG) hX
     refine hK.out _ _ (hS _) ?_
     clear hK K
     (try clear f1)
     (try clear f2)
     refine wpAnyG_put hO hn0.out hN (by rfl) (by rfl) (by rfl) (fun A9 hO9 hN9 => ?_)
     (try clear hO hN)
     have hO := hO9
     have hN := hN9
     clear hO9 hN9
     refine wpAnyG_ready (rs := [14]) (by kernel_rfl) (by simp) ?_
     refine AllReadyG.cons rfl (fun K hK => ?_) AllReadyG.nil
     have f1 := hN.get 40 rfl
     dsimp only at f1
     (try go_simp)
     refine (HCU.out _ hH.rd).mono ?_
     rintro en WN ⟨vu, rfl, h14, hbN⟩
     (try go_simp)
     replace h14 := h14.mono hB.size
     replace hB := bl_step hbN hB
     replace hG := hG.below hbN
     replace hX := hX.below hbN
     (try replace hL := hL.below hbN)
     replace hH := hH.below hbN
     (try replace h6 := h6.below hbN)
     (try replace h8 := h8.below hbN)
     (try replace h9 := h9.below hbN)
     (try replace h14 := h14.below hbN)
     (try replace h16 := h16.below hbN)
     clear hS
     have hS : ∀ l, S2 6 14 (fun X => X.cell? ⟨g, 16, none⟩ = some (.slice A n cl)) (fun X => X.cell? ⟨g, 17, none⟩ = some (.slice (some ad) (n + 1) ch)) (fun X => Blk X w.heap.size x.cells 59) l WN := fun l => S2.mk (HC16.out _ hG) (HC17.out _ hG) hX
     clear hbN
     refine hK.out _ _ (hS _) ?_
     clear hK K
     (try clear f1)
     (try clear f2)
     refine wpAnyG_put hO hn0.out hN (by rfl) (by rfl) (by rfl) (fun A9 hO9 hN9 => ?_)
     (try clear hO hN)
     have hO := hO9
     have hN := hN9
     clear hO9 hN9
     exact key A9 WN ⟨_, _, _, hB, hG, hX, h9, h14, h16, hO, hN.sub ⟨rfl, rfl, rfl, rfl, rfl, trivial⟩⟩
  case kp =>
   intro A9 WN hT
   obtain ⟨v9, v14, b16, hB, hG, hX, h9, h14, h16, hO, hN⟩ := hT
   obtain ⟨B9, d9, rfl, -, -, -⟩ := h9.read
   refine wpAnyG_ready (rs := [17]) (by kernel_rfl) (by simp) ?_
   refine AllReadyG.cons rfl (fun K hK => ?_) AllReadyG.nil
   refine Eq.mpr (if_pos (by rfl)) ?_
   refine append_anyW (w0 := W0) _ _ 75 62 _ 1 8 rfl Tryz.underlying75 info_u64 rfl (by decide) _ (n + 1) (u64s hs) (some ⟨b16, 0, none⟩) 1 1 [.int .u64 nx] h14 hB h16.rd (hN.ev 41 rfl) (hN.ev 43 rfl) rfl (u64s_one [nx]) (by have := HMX.out; omega) (by have := HMX.out; omega) ?_
   intro v17 W7 h17 hB9 hG9
   replace hG := hG.grown hG9 (h14.ne_blk hG (by decide))
   replace hX := hX.grown hG9 (h14.ne_blk hX (by decide))
   replace h9 := h9.kept hG9 (h9.apart h14 (by decide))
   clear hB h14 h16 hG9
   have hS : ∀ l, S2 6 14 (fun X => X.cell? ⟨g, 16, none⟩ = some (.slice A n cl)) (fun X => X.cell? ⟨g, 17, none⟩ = some (.slice (some ad) (n + 1) ch)) (fun X => Blk X w.heap.size x.cells 59) l W7 := fun l => S2.mk (HC16.out _ hG) (HC17.out _ hG) hX
   refine hK.out _ _ (hS _) ?_
   clear hK K
   (try clear f1)
   (try clear f2)
   refine wpAnyG_put hO hn0.out hN (by rfl) (by rfl) (by rfl) (fun A9 hO9 hN9 => ?_)
   (try clear hO hN)
   have hO := hO9
   have hN := hN9
   clear hO9 hN9
   obtain ⟨B7, d7, rfl, -, -, -⟩ := h17.read
   refine wpAnyG_pure (i := 18) (oi := ⟨_, _, _, _, _, _⟩) (v := ?_) rfl (by kernel_rfl) (by kernel_rfl) (by kernel_rfl) (fun _ _ _ h => h) (fun _ _ h => S2.mono (by decide) (by decide) h) (Or.inl ⟨by rfl, ?_⟩) (hS _) ?_
   rotate_left
   ·intro w hSw; clear hSw; have f1 := hN.get 27 rfl; dsimp only at f1; go_simp; try with_reducible rfl
   refine wpAnyG_put hO hn0.out hN (by rfl) (by rfl) (by rfl) (fun A9 hO9 hN9 => ?_)
   (try clear hO hN)
   have hO := hO9
   have hN := hN9
   clear hO9 hN9
   refine wpAnyG_pure (i := 19) (oi := ⟨_, _, _, _, _, _⟩) (v := ?_) rfl (by kernel_rfl) (by kernel_rfl) (by kernel_rfl) (fun _ _ _ h => h) (fun _ _ h => S2.mono (by decide) (by decide) h) (Or.inl ⟨by rfl, ?_⟩) (hS _) ?_
   rotate_left
   ·intro w hSw; clear hSw; have f1 := hN.get 45 rfl; dsimp only at f1; go_simp; try with_reducible rfl
   refine wpAnyG_put hO hn0.out hN (by rfl) (by rfl) (by rfl) (fun A9 hO9 hN9 => ?_)
   (try clear hO hN)
   have hO := hO9
   have hN := hN9
   clear hO9 hN9
   have ex := HC16.out _ hG
   have ez := hG.frozen 16
   have ey := HC17.out _ hG
   have ew := hG.frozen 17
   refine wpAnyG_ready (rs := [20]) (by kernel_rfl) (by simp) ?_
   refine AllReadyG.cons rfl (fun K hK => ?_) AllReadyG.nil
   have f1 := hN.get 46 rfl
   have f2 := hN.get 36 rfl
   dsimp only at f1 f2
   (try go_simp)
   have hG2 := hG.set 16 (.slice B9 (n + 1) d9)
   have hX2 := hX.grown (gb_set (g := g) 16 (.slice B9 (n + 1) d9)) (fun e => HNG.out (by injection e))
   have h92 := h9.kept (gb_set (g := g) 16 (.slice B9 (n + 1) d9)) (.inr (h9.ne_blk hG (by decide)))
   have h172 := h17.kept (gb_set (g := g) 16 (.slice B9 (n + 1) d9)) (.inr (h17.ne_blk hG (by decide)))
   have hg2 := gb_trans (gb_below (bl_step hB9 HBW.out) (some g)) (gb_set (g := g) 16 (.slice B9 (n + 1) d9))
   refine hK.out _ _ (S2.late (by kernel_rfl) (by kernel_rfl) hX2) ?_
   clear hK K f1 f2 hS hG hX h9 h17 hB9 ex ez ey ew
   (try dsimp only [Act.put_no])
   obtain ⟨W8, hW8⟩ : ∃ W8, W7.setCell ⟨g, 16, none⟩ (.slice B9 (n + 1) d9) = W8 := ⟨_, rfl⟩
   rw [hW8] at hG2 hX2 h92 h172 hg2 ⊢
   have hX := hX2
   clear hW8 hX2
   refine wpAnyG_pure (i := 21) (oi := ⟨_, _, _, _, _, _⟩) (v := ?_) rfl (by kernel_rfl) (by kernel_rfl) (by kernel_rfl) (fun _ _ _ h => h) (fun _ _ h => S2.mono (by decide) (by decide) h) (Or.inl ⟨by rfl, ?_⟩) (S2.late (by kernel_rfl) (by kernel_rfl) hX) ?_
   rotate_left
   ·intro w hSw; clear hSw; have f1 := hN.get 28 rfl; dsimp only at f1; go_simp; try with_reducible rfl
   refine wpAnyG_put hO hn0.out hN (by rfl) (by rfl) (by rfl) (fun A9 hO9 hN9 => ?_)
   (try clear hO hN)
   have hO := hO9
   have hN := hN9
   clear hO9 hN9
   refine wpAnyG_pure (i := 22) (oi := ⟨_, _, _, _, _, _⟩) (v := ?_) rfl (by kernel_rfl) (by kernel_rfl) (by kernel_rfl) (fun _ _ _ h => h) (fun _ _ h => S2.mono (by decide) (by decide) h) (Or.inl ⟨by rfl, ?_⟩) (S2.late (by kernel_rfl) (by kernel_rfl) hX) ?_
   rotate_left
   ·intro w hSw; clear hSw; have f1 := hN.get 47 rfl; dsimp only at f1; go_simp; try with_reducible rfl
   refine wpAnyG_put hO hn0.out hN (by rfl) (by rfl) (by rfl) (fun A9 hO9 hN9 => ?_)
   (try clear hO hN)
   have hO := hO9
   have hN := hN9
   clear hO9 hN9
   have ex : W8.cell? ⟨g, 17, none⟩ = some (.slice (some ad) (n + 1) ch) := (hG2.cell 17).trans (by rw [Array.getElem?_setIfInBounds_ne (by decide)]; exact HE17.out)
   have ez := hG2.frozen 17
   refine wpAnyG_ready (rs := [23]) (by kernel_rfl) (by simp) ?_
   refine AllReadyG.cons rfl (fun K hK => ?_) AllReadyG.nil
   have f1 := hN.get 48 rfl
   have f2 := hN.get 44 rfl
   dsimp only at f1 f2
   (try go_simp)
   have hG3 := hG2.set 17 (.slice B7 (n + 1 + 1) d7)
   have hX3 := hX.grown (gb_set (g := g) 17 (.slice B7 (n + 1 + 1) d7)) (fun e => HNG.out (by injection e))
   have h93 := h92.kept (gb_set (g := g) 17 (.slice B7 (n + 1 + 1) d7)) (.inr (h92.ne_blk hG2 (by decide)))
   have h173 := h172.kept (gb_set (g := g) 17 (.slice B7 (n + 1 + 1) d7)) (.inr (h172.ne_blk hG2 (by decide)))
   have hg3 := gb_trans hg2 (gb_set (g := g) 17 (.slice B7 (n + 1 + 1) d7))
   refine hK.out _ _ (S2.late (by kernel_rfl) (by kernel_rfl) hX3) ?_
   clear hK K f1 f2 hG2 hX hX3 h92 h172 hg2 ex ez
   (try dsimp only [Act.put_no])
   obtain ⟨W9, hW9⟩ : ∃ W9, W8.setCell ⟨g, 17, none⟩ (.slice B7 (n + 1 + 1) d7) = W9 := ⟨_, rfl⟩
   rw [hW9] at hG3 h93 h173 hg3 ⊢
   clear hW9
   rw [ChC_set HKL.out] at hG3
   refine wpAnyG_done (by kernel_rfl) ?_ _
   refine NoPanic.normal ?_
   obtain ⟨fo, hfo⟩ := hO.lit HA0.out
   clear hO hN
   dsimp only [putL, List.set_cons_zero, List.set_cons_succ] at hfo
   subst hfo
   have HG3 := Lib.hid hG3; have H93 := Lib.hid h93; have H173 := Lib.hid h173; have HG := Lib.hid hg3
   clear hG3 h93 h173 hg3
   go_wp2_with fail
   go_ret
   exact ⟨rfl, add_post HG3.out H93.out H173.out HWZ.out HLEN.out (Nat.le_trans HGZ.out HG.out.size), HG.out, add_post HG3.out H93.out H173.out HBW.out.size HLEN.out HG.out.size⟩
 ·rw [HA2.out HMX.out hz]
  have hzb : (x.ev.check != 0) = true := by simp [hz]
  have HZ := Lib.hid hz
  generalize x.ev.check = er at *
  clear hz HA1 HA2 HA3
  go_enter Tryz.func23, Tryz.ntmps23
  go_upto_region 1 with fail
  rw [HW1.out]
  clear HW1
  go_upto_region 3 with fail
  clear c16 c17
  have hu := Tryz.underlying55
  have hi : (Tryz.prog.info? 55).map (·.size) = some (byts key).length := by rw [byts_length, HKL.out]; kernel_rfl
  refine wp_region_noPanic ?_
  refine wp_region_held_drew (S := fun w' => w'.rangeAt g 0 (byts key) ∧ w'.cell? ⟨w.heap.size, 0, none⟩ = some (.int .i64 x.ev.kind) ∧ w'.cell? ⟨w.heap.size, 1, none⟩ = some (.string x.ev.id) ∧ w'.cell? ⟨w.heap.size, 2, none⟩ = some (.string x.ev.name) ∧ w'.cell? ⟨w.heap.size, 3, none⟩ = some (.string x.ev.label) ∧ w'.cell? ⟨w.heap.size, 4, none⟩ = some (.string x.ev.cur) ∧ w'.cell? ⟨w.heap.size, 5, none⟩ = some (.int .i64 x.ev.day) ∧ w'.cell? ⟨w.heap.size, 6, none⟩ = some (.int .i64 x.ev.value) ∧ w'.cell? ⟨w.heap.size, 7, none⟩ = some x.ev.term.val ∧ w'.cell? ⟨w.heap.size, 8, none⟩ = some (.bool x.no)) (by kernel_rfl) ⟨HRA.out, Blk.ens (x := x) HX1.out⟩ (fun hHeld => ?_)
  clear f0 f1 f2 f3 f4 f5 f6 f7 f8
  refine wpAnyH_world (fun W => Below W1.heap.size W1 W) (bl_drew (bl_refl _)) (fun W2 hb2 => ?_)
  clear hHeld
  have hHeld : W2.rangeAt g 0 (byts key) ∧ W2.cell? ⟨w.heap.size, 0, none⟩ = some (.int .i64 x.ev.kind) ∧ W2.cell? ⟨w.heap.size, 1, none⟩ = some (.string x.ev.id) ∧ W2.cell? ⟨w.heap.size, 2, none⟩ = some (.string x.ev.name) ∧ W2.cell? ⟨w.heap.size, 3, none⟩ = some (.string x.ev.label) ∧ W2.cell? ⟨w.heap.size, 4, none⟩ = some (.string x.ev.cur) ∧ W2.cell? ⟨w.heap.size, 5, none⟩ = some (.int .i64 x.ev.day) ∧ W2.cell? ⟨w.heap.size, 6, none⟩ = some (.int .i64 x.ev.value) ∧ W2.cell? ⟨w.heap.size, 7, none⟩ = some x.ev.term.val ∧ W2.cell? ⟨w.heap.size, 8, none⟩ = some (.bool x.no) := ⟨range_below HRA.out hb2, Blk.ens (x := x) (HX1.out.below hb2)⟩
  refine tkx 0 rfl ?_
  refine tkx 1 rfl ?_
  refine tkx 2 rfl ?_
  refine wpAnyH_take (i := 3) (oi := ⟨some 17, .load 55 (.tmp 16), _, _, _, _⟩) (v := .agg (List.toArray (byts key))) rfl (by kernel_rfl) (by kernel_rfl) (by kernel_rfl) (fun _ _ _ h => h) (yieldsIf_load_mid (by rfl) _ _ rfl _ _ rfl (byts key) _ (fun w h => h.1) hu rfl hi) (by assumption) ?_
  (try dsimp only [Act.put, List.setIfInBounds_toArray, List.set_cons_zero, List.set_cons_succ])
  refine tkx 4 rfl ?_
  refine tkx 6 rfl ?_
  refine wpAnyH_ready (rs := [5]) (by kernel_rfl) (by simp) ?_
  refine AllReadyH.cons rfl (fun K hK => ?_) AllReadyH.nil
  (try go_simp)
  refine (HHD.out _ (HCH.out.below hb2)).mono ?_
  rintro en W3 ⟨rfl, hb3⟩
  (try go_simp)
  have hb4 := bl_step hb3 hb2
  refine hK.out _ _ ⟨range_below HRA.out hb4, Blk.ens (x := x) (HX1.out.below hb4)⟩ (fun hH9 => ?_)
  clear hK K hHeld hb2 hb3
  have hHeld := hH9
  clear hH9
  (try dsimp only [Act.put, List.setIfInBounds_toArray, List.set_cons_zero, List.set_cons_succ])
  refine wpAnyH_ready (rs := [7]) (by kernel_rfl) (by simp) ?_
  refine AllReadyH.cons rfl (fun K hK => ?_) AllReadyH.nil
  (try go_simp)
  refine (HNX.out _ (HT1.out.below hb4)).mono ?_
  rintro en W0 ⟨rfl, hb5⟩
  (try go_simp)
  have hb6 := bl_step hb5 hb4
  refine hK.out _ _ ⟨range_below HRA.out hb6, Blk.ens (x := x) (HX1.out.below hb6)⟩ (fun hH9 => ?_)
  clear hK K hHeld hb4 hb5
  have hHeld := hH9
  clear hH9
  (try dsimp only [Act.put, List.setIfInBounds_toArray, List.set_cons_zero, List.set_cons_succ])
  refine tkx 8 rfl ?_
  refine tkx 9 rfl ?_
  refine tkx 10 rfl ?_
  refine tkx 11 rfl ?_
  refine tkx 12 rfl ?_
  refine wpAnyH_done (by kernel_rfl) ?_ _
  refine NoPanic.normal ?_
  clear hHeld hu hi
  go_wp2_with fail
  go_ret
  exact ⟨rfl, (HCH.out.below hb6), gb_below (bl_step hb6 HBA.out) _, fun h => absurd h HZ.out⟩
theorem clone_post {w W : World} {key : List UInt8} {es : List En} {hs : List Int} {n m : Nat} {vl vh : Value} (hB : Below w.heap.size w W) (hL : Own w W 59 9 vl n (rowsE es)) (hH : Own w W 62 1 vh m (u64s hs)) (hn : es.length = n) (hm : hs.length = m) :
  ChAt w (W.alloc (.cells (byts key ++ [vl, vh]).toArray 101)) W.heap.size ⟨key, es, hs⟩ ∧ w.heap.size ≤ W.heap.size ∧ Below w.heap.size w (W.alloc (.cells (byts key ++ [vl, vh]).toArray 101)) := by
 subst hn hm
 have hz := (bl_alloc hB (.cells (byts key ++ [vl, vh]).toArray 101)).size
 exact ⟨⟨vl, vh, Blk.new _ _ _, hL.below (bl_alloc (bl_refl _) _), hH.below (bl_alloc (bl_refl _) _), hz⟩, hB.size, bl_alloc hB _⟩
set_option maxRecDepth 100000 in
set_option maxHeartbeats 8000000 in
theorem cclone_calls (w0 : World) (g : Nat) (c : Ch) (ho : c.ok) (w : World) (h : ChAt w0 w g c) :
  Calls Tryz.prog 28 #[.pointer (some ⟨g, 0, none⟩)] w (RetCh w w c) := by
 obtain ⟨key, es, hs⟩ := c
 obtain ⟨n, hn⟩ : ∃ n, es.length = n := ⟨_, rfl⟩
 obtain ⟨vl, vh, hG0, hL0, hH0, -⟩ := h
 dsimp only at hG0 hL0 hH0
 obtain ⟨A, cl, rfl, hA, -, -⟩ := hL0.read
 obtain ⟨D, ch, rfl, hD, -, -⟩ := hH0.read
 have hl : hs.length = es.length + 1 := ho.len
 obtain ⟨h0, hh⟩ : ∃ h0, (u64s hs)[0]? = some h0 := ⟨_, List.getElem?_eq_getElem (by rw [u64s_length]; omega)⟩
 obtain ⟨ad, rfl, -⟩ := hD 0 h0 hh
 rw [hn] at hl hG0
 rw [hl] at hG0
 have hkl : key.length = 16 := ho.key
 have hone : ∀ u ∈ rowsE es, u.oneCell' = true := ho.one
 have hmx : n ≤ 64 := by have := ho.max; dsimp only at this; omega
 have hce := fun W hW => sclone_e A n cl (rowsE es) (by rw [rowsE_length, hn]) hone (by omega) W hW
 have hcu := fun W hW => sclone_u (some ad) (n + 1) ch (u64s hs) (by rw [u64s_length, hl, Nat.mul_one]) (u64s_one hs) (by omega) W hW
 have hbd := fun (A B : Option Addr) (n c m d : Nat) (W : World) => run_bd_Chain3 hkl A B n c m d W
 have hra : w.rangeAt g 0 (byts key) := by
  intro j v hv
  exact (hG0.range) j v (by rw [List.getElem?_append_left (List.getElem?_eq_some_iff.1 hv).1]; exact hv)
 obtain ⟨e16, e17⟩ := ChC_get hkl (.slice A n cl) (.slice (some ad) (n + 1) ch)
 have c16 := (hG0.cell 16).trans e16
 have c17 := (hG0.cell 17).trans e17
 unfold RetOwn at hce hcu
 unfold RetCh
 have HRA := Lib.hid hra; have HC16 := Lib.hid c16; have HC17 := Lib.hid c17; have HCE := Lib.hid hce; have HCU := Lib.hid hcu; have HA := Lib.hid hA; have HD := Lib.hid hD; have HKL := Lib.hid hkl; have HLN := Lib.hid (And.intro hn hl); have HBD := Lib.hid hbd
 clear hra hce hcu hA hD hkl hG0 hL0 hH0 hl hh e16 e17 ho hone hn hbd hmx
 go_enter Tryz.func28, Tryz.ntmps28
 go_upto_region 1 with fail
 have hu := Tryz.underlying55
 have hi : (Tryz.prog.info? 55).map (·.size) = some (byts key).length := by rw [byts_length, HKL.out]; kernel_rfl
 refine wp_region_noPanic ?_
 refine wp_region_held_drew (S := fun w' => w'.rangeAt g 0 (byts key) ∧ w'.cell? ⟨g, 16, none⟩ = some (.slice A n cl) ∧ w'.cell? ⟨g, 17, none⟩ = some (.slice (some ad) (n + 1) ch)) (by kernel_rfl) ⟨HRA.out, c16, c17⟩ (fun hHeld => ?_)
 clear c16 c17
 refine wpAnyH_world (fun W => Below w.heap.size w W) (bl_drew (bl_refl _)) (fun W2 hb2 => ?_)
 clear hHeld
 have hHeld : W2.rangeAt g 0 (byts key) ∧ W2.cell? ⟨g, 16, none⟩ = some (.slice A n cl) ∧ W2.cell? ⟨g, 17, none⟩ = some (.slice (some ad) (n + 1) ch) := ⟨range_below HRA.out hb2, cell_below hb2 HC16.out, cell_below hb2 HC17.out⟩
 refine tkx 0 rfl ?_
 refine tkx 1 rfl ?_
 refine tkx 2 rfl ?_
 refine wpAnyH_take (i := 3) (oi := ⟨some 6, .load 55 (.tmp 5), _, _, _, _⟩) (v := .agg (List.toArray (byts key))) rfl (by kernel_rfl) (by kernel_rfl) (by kernel_rfl) (fun _ _ _ h => h) (yieldsIf_load_mid (by rfl) _ _ rfl _ _ rfl (byts key) _ (fun w h => h.1) hu rfl hi) (by assumption) ?_
 (try dsimp only [Act.put, List.setIfInBounds_toArray, List.set_cons_zero, List.set_cons_succ])
 refine tkx 4 rfl ?_
 refine tkx 5 rfl ?_
 refine tkx 6 rfl ?_
 refine tkx 7 rfl ?_
 refine tkx 9 rfl ?_
 refine tkx 10 rfl ?_
 refine tkx 11 rfl ?_
 refine tkx 12 rfl ?_
 refine wpAnyH_ready (rs := [8]) (by kernel_rfl) (by simp) ?_
 refine AllReadyH.cons rfl (fun K hK => ?_) AllReadyH.nil
 (try go_simp)
 refine (HCE.out _ (HA.out.below hb2)).mono ?_
 rintro en W3 ⟨v1, rfl, hO1, hb3⟩
 obtain ⟨A1, c1, rfl, -, -, -⟩ := hO1.read
 (try go_simp)
 replace hO1 := hO1.mono hb2.size
 have hb4 := bl_step hb3 hb2
 refine hK.out _ _ ⟨range_below HRA.out hb4, cell_below hb4 HC16.out, cell_below hb4 HC17.out⟩ (fun hH9 => ?_)
 clear hK K hHeld hb2 hb3
 have hHeld := hH9
 clear hH9
 (try dsimp only [Act.put, List.setIfInBounds_toArray, List.set_cons_zero, List.set_cons_succ])
 refine wpAnyH_ready (rs := [13]) (by kernel_rfl) (by simp) ?_
 refine AllReadyH.cons rfl (fun K hK => ?_) AllReadyH.nil
 (try go_simp)
 refine (HCU.out _ (HD.out.below hb4)).mono ?_
 rintro en W4 ⟨v2, rfl, hO2, hb5⟩
 obtain ⟨A2, c2, rfl, -, -, -⟩ := hO2.read
 (try go_simp)
 replace hO2 := hO2.mono hb4.size
 replace hO1 := hO1.below hb5
 have hb6 := bl_step hb5 hb4
 refine hK.out _ _ ⟨range_below HRA.out hb6, cell_below hb6 HC16.out, cell_below hb6 HC17.out⟩ (fun hH9 => ?_)
 clear hK K hHeld hb4 hb5
 have hHeld := hH9
 clear hH9
 (try dsimp only [Act.put, List.setIfInBounds_toArray, List.set_cons_zero, List.set_cons_succ])
 have hbd := HBD.out
 refine tkx (v := .agg (byts key ++ [Value.slice A1 n c1, Value.slice A2 (n + 1) c2]).toArray) 14 rfl ?_
 clear hbd
 refine wpAnyH_ready (rs := [15]) (by kernel_rfl) (by simp) ?_
 refine AllReadyH.cons rfl (fun K hK => ?_) AllReadyH.nil
 (try go_simp)
 have hp := clone_post (key := key) hb6 hO1 hO2 HLN.out.1 HLN.out.2
 refine hK.out _ _ ⟨range_below HRA.out hp.2.2, cell_below hp.2.2 HC16.out, cell_below hp.2.2 HC17.out⟩ (fun hH9 => ?_)
 clear hK K hHeld hb6 hO1 hO2
 have hHeld := hH9
 clear hH9
 (try dsimp only [Act.put, List.setIfInBounds_toArray, List.set_cons_zero, List.set_cons_succ])
 refine tkx 16 rfl ?_
 refine wpAnyH_done (by kernel_rfl) ?_ _
 refine NoPanic.normal ?_
 clear hHeld hu hi
 have HP := Lib.hid hp
 clear hp
 go_wp2_with fail
 go_ret
 exact ⟨_, rfl, HP.out⟩
end Go.Proofs.YtapbkomicihkkaaGreatDoor
