/- Package sip: rounds; a number taken. -/
import Derived.Test.YtapbkomicihkkaaDoorSip1
namespace Go.Proofs.YtapbkomicihkkaaDoor
open Go.RowKit
set_option linter.unusedVariables false
set_option linter.unusedSimpArgs false

def Is4 (w0 w : World) (g : Nat) (s : Four) : Prop := IsSt w0 w g s.a s.b s.c s.d
theorem Is4.mk {w0 w : World} {g : Nat} {a b c d : Int} (h : IsSt w0 w g a b c d) : Is4 w0 w g ⟨a, b, c, d⟩ := h
def Four.rnds : Nat → Four → Four
  | 0, s => s
  | n + 1, s => (Four.rnds n s).rnd
theorem round_at (w0 : World) (g : Nat) (s : Four) (w : World) (hs : Is4 w0 w g s) :
    Calls Tryd.prog 97 #[.pointer (some ⟨g, 0, none⟩)] w fun e w' => e = .returned (.tuple #[]) ∧ Is4 w0 w' g s.rnd :=
  (round_calls w0 g s.a s.b s.c s.d w hs).mono fun _ _ h => h

set_option maxRecDepth 100000 in
set_option maxHeartbeats 1000000 in
theorem rounds_calls (w0 : World) (g : Nat) (s : Four) (n : Nat) (hn : n ≤ 1000000) (w : World) (hs : Is4 w0 w g s) :
    Calls Tryd.prog 82 #[.pointer (some ⟨g, 0, none⟩), .int .i64 (n : Int)] w fun e w' => e = .returned (.tuple #[]) ∧ Is4 w0 w' g (s.rnds n) := by
  go_enter Tryd.func82, Tryd.ntmps82
  go_wp2_with fail
  go_loopw [5] (fun i wr => ∃ k : Nat, k ≤ n ∧ i = .int .i64 k ∧ Is4 w0 wr g (s.rnds k)) (fun i _ => n - (intOf i).toNat)
  case atStart => exact ⟨0, Nat.zero_le _, rfl, hs⟩
  case round =>
    obtain ⟨k, hk, rfl, hk4⟩ := hrel
    by_cases hlt : k < n
    · go_wp2_with (go_at_call 97; refine (round_at w0 g _ _ hk4).mono ?_; rintro e w4 ⟨rfl, h4⟩)
      go_roundw
      case rel => exact ⟨k + 1, by omega, by go_num, h4⟩
      case measure => simp [intOf]; omega
    · go_wp2_with fail
      go_end0
      have hk' : k = n := by omega
      subst hk'
      exact ⟨rfl, hk4⟩

/-- A number is taken. -/
def Four.put (t : Four) (m : Int) : Four := ⟨xor64 t.a m, t.b, t.c, t.d⟩
def Four.pre (s : Four) (m : Int) : Four := ⟨s.a, s.b, s.c, xor64 s.d m⟩
def Four.take (s : Four) (m : Int) : Four := (Four.rnds 2 (s.pre m)).put m
theorem Is4.put {w0 w : World} {g : Nat} {t : Four} (h : Is4 w0 w g t) (m : Int) : Is4 w0 (w.setCell ⟨g, 0, none⟩ (.int .u64 (xor64 t.a m))) g (t.put m) := IsSt.set0 h _ (isU_xor _ _)
theorem Is4.pre {w0 w : World} {g : Nat} {t : Four} (h : Is4 w0 w g t) (m : Int) : Is4 w0 (w.setCell ⟨g, 3, none⟩ (.int .u64 (xor64 t.d m))) g (t.pre m) := IsSt.set3 h _ (isU_xor _ _)

set_option maxRecDepth 100000 in
set_option maxHeartbeats 1000000 in
theorem take_calls (w0 : World) (g : Nat) (s : Four) (m : Int) (w : World) (hs : Is4 w0 w g s) :
    Calls Tryd.prog 81 #[.pointer (some ⟨g, 0, none⟩), .int .u64 m] w fun e w' => e = .returned (.tuple #[]) ∧ Is4 w0 w' g (s.take m) := by
  obtain ⟨c0, c1, c2, c3, f0, f1, f2, f3⟩ := IsSt.facts hs
  go_enter Tryd.func81, Tryd.ntmps81
  go_wp2_with fail
  clear c0 c1 c2 c3 f0 f1 f2 f3
  refine (rounds_calls w0 g (s.pre m) 2 (by decide) _ (hs.pre m)).mono ?_
  have ht : s.take m = (Four.rnds 2 (s.pre m)).put m := rfl
  generalize Four.rnds 2 (s.pre m) = t at ht
  have HT := Lib.hid ht
  clear ht
  rintro e w4 ⟨rfl, h4⟩
  obtain ⟨c0, c1, c2, c3, f0, f1, f2, f3⟩ := IsSt.facts h4
  go_wp2_with fail
  go_end0
  exact ⟨rfl, by rw [HT.out]; exact h4.put m⟩
end Go.Proofs.YtapbkomicihkkaaDoor
