/- ChainLong: the walk. -/
import Derived.Test.YtapbkomicihkkaaGreatDoorChnB
import Derived.Test.YtapbkomicihkkaaGreatDoorEventG
namespace Go.Proofs.YtapbkomicihkkaaGreatDoor
open Go.RowKit
set_option linter.unusedVariables false
set_option linter.unusedSimpArgs false

def key1 : List UInt8 := [1, 0, 0, 0, 0, 0, 0, 0, 0, 0, 0, 0, 0, 0, 0, 0]
theorem passE_small : passE.small := ⟨passE_ok, by decide, by decide, by decide, by decide, by decide⟩
theorem Ch.new_ok (key : List UInt8) (hk : key.length = 16) : (Ch.mk key [] [0]).ok :=
 {key := hk
  len := rfl
  es := fun x hx => (by cases hx)
  hs := fun h hh => (by
   obtain rfl : h = 0 := by simpa using hh
   exact ⟨by decide, by decide⟩)
  max := (by show 0 ≤ 64; omega) }
def passN : En := ⟨passE, false⟩
theorem bl_gb {w W w' : World} {g : Nat} (h : Below w.heap.size w W) (hg : w.heap.size ≤ g) (k : W.grownBy w' (some g)) : Below w.heap.size w w' := bl_grown h k hg
set_option maxRecDepth 100000 in
set_option maxHeartbeats 4000000 in
theorem wakes13_calls (w : World) (ht : TabOk w) :
  Calls Tryz.prog 27 #[] w fun e w' => e = .returned (.bool true) ∧ Below w.heap.size w w' := by
 have hnw := cnew_calls w key1 rfl w (Nat.le_refl _)
 unfold RetCh at hnw
 have ho := Ch.new_ok key1 rfl
 have hhd := fun g W hW => chead_calls w g ⟨key1, [], [0]⟩ ho W hW
 have had := fun g W hW ht => cadd_calls w g ⟨key1, [], [0]⟩ ho passN passE_small W hW ht
 have ha : Ch.add ⟨key1, [], [0]⟩ passN = (⟨key1, [passN], [0, passN.next key1 0]⟩, 0) := by
  unfold Ch.add
  rw [if_neg (by show ¬ 64 ≤ 0; omega), if_pos (show passN.ev.check = 0 from passE_check)]
  rfl
 have ho2 := Ch.add_ok ho passN passE_small
 rw [ha] at ho2
 have hln := fun g W hW => clen_calls w g ⟨key1, [passN], [0, passN.next key1 0]⟩ ho2 W hW
 unfold RetAdd at had
 simp only [ha] at had
 have hka : (byts key1).toArray = #[.int .u8 1, .int .u8 0, .int .u8 0, .int .u8 0, .int .u8 0, .int .u8 0, .int .u8 0, .int .u8 0, .int .u8 0, .int .u8 0, .int .u8 0, .int .u8 0, .int .u8 0, .int .u8 0, .int .u8 0, .int .u8 0] := rfl
 have hpn : passN.val = .agg #[.int .i64 1, .string ⟨#[]⟩, .string ⟨#[]⟩, .string ⟨#[]⟩, .string ⟨#[]⟩, .int .i64 0, .int .i64 0, .nilIface, .bool false] := rfl
 rw [hka] at hnw
 rw [hpn] at had
 have hH : (Ch.mk key1 [] [0]).head = 0 := rfl
 rw [hH] at hhd
 have HNW := Lib.hid hnw; have HHD := Lib.hid hhd; have HAD := Lib.hid had; have HLN := Lib.hid hln; have HT := Lib.hid ht
 clear hnw hhd had hln ht ha ho ho2 hka hpn hH
 go_enter Tryz.func27, Tryz.ntmps27
 go_wp2_with fail
 refine (HNW.out).mono ?_
 rintro en w1 ⟨g, rfl, hC, hg, hb⟩
 have HC := Lib.hid hC; have HB := Lib.hid hb; have HG := Lib.hid hg
 clear hC hb hg
 go_wp2_with fail
 refine (HHD.out g _ HC.out).mono ?_
 rintro en w2 ⟨rfl, hb⟩
 have hC := HC.out.below hb
 have hB := bl_step hb HB.out
 clear hb
 go_wp2_with fail
 refine (HAD.out g _ hC (HT.out.below hB)).mono ?_
 rintro en w3 ⟨rfl, hC3, hg3, -⟩
 have hB3 := bl_gb hB HG.out hg3
 clear hC hB hg3
 go_wp2_with fail
 refine (HLN.out g _ hC3).mono ?_
 rintro en w4 ⟨rfl, hb⟩
 have hB4 := bl_step hb hB3
 go_wp2_with fail
 go_ret
 exact ⟨rfl, hB4⟩
theorem ChAt.blk {w0 W : World} {g : Nat} {c : Ch} (h : ChAt w0 W g c) : ∃ cs, Blk W g cs 101 := by
 obtain ⟨vl, vh, h1, -⟩ := h
 exact ⟨_, h1⟩
theorem ChAt.kept {wk W W1 : World} {g : Nat} {c : Ch} {r : Option Nat} (h : ChAt wk W g c) (hg : W.grownBy W1 r) (h1 : r ≠ some g) (h2 : ∀ b, r = some b → b < wk.heap.size) : ChAt wk W1 g c := by
 obtain ⟨vl, vh, k1, k2, k3, k4⟩ := h
 have ne : ∀ {v : Value} {e size n : Nat} {xs : List Value}, Own wk W e size v n xs → v.ownBlock = none ∨ v.ownBlock ≠ r := fun {v e size n xs} ho => by
  cases hv : v.ownBlock with
  | none => exact .inl rfl
  | some b => exact .inr (fun e => by have := Own.at_base ho b hv; have := h2 b e.symm; omega)
 exact ⟨vl, vh, k1.grown hg h1, k2.kept hg (ne k2), k3.kept hg (ne k3), Nat.le_trans k4 hg.size⟩
end Go.Proofs.YtapbkomicihkkaaGreatDoor
