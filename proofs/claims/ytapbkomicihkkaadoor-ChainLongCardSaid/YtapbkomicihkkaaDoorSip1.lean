/- Package sip: numbers of bytes; rounds; a number taken. -/
import Derived.Test.YtapbkomicihkkaaDoorSip0
import Derived.Test.YtapbkomicihkkaaDoorRd
namespace Go.Proofs.YtapbkomicihkkaaDoor
open Go.RowKit
set_option linter.unusedVariables false
set_option linter.unusedSimpArgs false

/-- Bytes as a number, the least first: what 'low' adds at place i. -/
def lowAt (n : Int) (i : Nat) (c : UInt8) : Int := bits .or .u64 n (IntKind.u64.wrap ((c.toNat : Int) * 2 ^ min (8 * i) 64))
def lowFrom (n : Int) : Nat → List UInt8 → Int
  | _, [] => n
  | i, c :: l => lowFrom (lowAt n i c) (i + 1) l
theorem lowFrom_snoc (l : List UInt8) (c : UInt8) : ∀ n i, lowFrom n i (l ++ [c]) = lowAt (lowFrom n i l) (i + l.length) c := by
  induction l with
  | nil => intro n i; simp [lowFrom]
  | cons x l ih => intro n i; simp only [List.cons_append, lowFrom, ih, List.length_cons]; rw [show i + 1 + l.length = i + (l.length + 1) by omega]
theorem isU_lowFrom (l : List UInt8) : ∀ n i, isU n → isU (lowFrom n i l) := by
  induction l with
  | nil => intro n i h; exact h
  | cons x l ih => intro n i _; exact ih _ _ (isU_bits _ _ _)
def lowI (l : List UInt8) : Int := lowFrom 0 0 l
theorem isU_low (l : List UInt8) : isU (lowI l) := isU_lowFrom _ _ _ ⟨by decide, by decide⟩

set_option maxRecDepth 100000 in
set_option maxHeartbeats 1000000 in
theorem low_calls (A : Option Addr) (c : Nat) (l : List UInt8) (w : World) (hr : Rd w A (byts l)) (hl : l.length ≤ 140737488351232) :
    Calls Tryd.prog 80 #[.slice A l.length c] w fun e w' => e = .returned (.int .u64 (lowI l)) ∧ w' = w := by
  have HR := Lib.hid hr
  clear hr
  go_enter Tryd.func80, Tryd.ntmps80
  go_wp2
  go_loop [3, 8] (fun n i => ∃ k : Nat, k ≤ l.length ∧ i = .int .i64 k ∧ n = .int .u64 (lowI (l.take k))) (fun _ i => l.length - (intOf i).toNat)
  case atStart => exact ⟨0, Nat.zero_le _, rfl, rfl⟩
  case round =>
    obtain ⟨k, hk, rfl, rfl⟩ := hrel
    by_cases hlt : k < l.length
    · obtain ⟨ad, hA, hcell⟩ := HR.out k _ (byts_get l k hlt)
      subst hA
      have hb := l[k].toNat_lt
      have hsh := fun w' => (run_shl Tryd.prog .u64 .i64 (l[k].toNat : Int) (8 * (k : Int)) (by omega) w')
      rw [show min (8 * (k : Int)).toNat IntKind.u64.bits = min (8 * k) 64 by rw [show (8 * (k : Int)).toNat = 8 * k by omega]; rfl] at hsh
      have HS : Hid (lowI (l.take (k + 1)) = lowAt (lowI (l.take k)) k l[k]) := by
        show lowI (l.take (k + 1)) = lowAt (lowI (l.take k)) k l[k]
        unfold lowI
        rw [List.take_succ_eq_append_getElem hlt, lowFrom_snoc, List.length_take, Nat.zero_add, Nat.min_eq_left (by omega)]
      go_wp2
      go_round
      case rel => exact ⟨k + 1, by omega, by go_num, by rw [HS.out]; rfl⟩
      case measure => simp [intOf]; omega
    · go_wp2
      go_ret
      have hk' : k = l.length := by omega
      subst hk'
      simp
theorem low_at (A : Option Addr) (c n : Nat) (l : List UInt8) (w : World) (hn : l.length = n) (hr : Rd w A (byts l)) (hl : n ≤ 140737488351232) :
    Calls Tryd.prog 80 #[.slice A n c] w fun e w' => e = .returned (.int .u64 (lowI l)) ∧ w' = w := by
  subst hn; exact low_calls A c l w hr hl

end Go.Proofs.YtapbkomicihkkaaDoor
