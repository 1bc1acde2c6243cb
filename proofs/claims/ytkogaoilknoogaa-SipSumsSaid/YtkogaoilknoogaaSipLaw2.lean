/- Plain law: the last number of the sum is that of the padded bytes. -/
import Derived.Test.YtkogaoilknoogaaSip4
import Derived.Test.YtkogaoilknoogaaSipLaw
namespace Go.Proofs.Ytkogaoilknoogaa
open Go.RowKit

/-- How many zeros the document's answer puts behind the bytes. -/
def padN (n : Nat) : Nat := 7 - n % 8
def padded (b : List UInt8) : List UInt8 := b ++ List.replicate (padN b.length) 0 ++ [UInt8.ofNat b.length]
theorem padded_length (b : List UInt8) : (padded b).length = 8 * (b.length / 8 + 1) := by
  unfold padded padN
  simp
  omega
theorem valN_zeros (k : Nat) : valN (List.replicate k 0) = 0 := by
  induction k with
  | zero => rfl
  | succ k ih => rw [List.replicate_succ]; simp [valN, ih]
theorem padded_block (b : List UInt8) (j : Nat) (h : j < b.length / 8) : ((padded b).drop (8 * j)).take 8 = (b.drop (8 * j)).take 8 := by
  unfold padded
  rw [List.append_assoc, List.drop_append_of_le_length (by omega), List.take_append_of_le_length (by rw [List.length_drop]; omega)]
theorem padded_last (b : List UInt8) : ((padded b).drop (8 * (b.length / 8))).take 8 = b.drop (8 * (b.length / 8)) ++ (List.replicate (padN b.length) 0 ++ [UInt8.ofNat b.length]) := by
  unfold padded
  rw [List.append_assoc, List.drop_append_of_le_length (by omega)]
  apply List.take_of_length_le
  unfold padN
  simp
  omega
theorem last_eq (b : List UInt8) (hb : b.length < 9223372036854775808) : lowI (((padded b).drop (8 * (b.length / 8))).take 8) = lastNum b := by
  rw [padded_last]
  have hr : (b.drop (8 * (b.length / 8))).length ≤ 7 := by rw [List.length_drop]; omega
  have hlen : (b.drop (8 * (b.length / 8))).length + padN b.length = 7 := by rw [List.length_drop]; unfold padN; omega
  rw [lowI_val _ (by simp only [List.length_append, List.length_replicate, List.length_cons, List.length_nil]; omega)]
  rw [valN_append, valN_append, valN_zeros]
  unfold lastNum
  rw [lowI_val _ (by omega)]
  have hv := valN_lt (b.drop (8 * (b.length / 8)))
  generalize hR : b.drop (8 * (b.length / 8)) = R at *
  have h7 : 256 ^ R.length ≤ 256 ^ 7 := Nat.pow_le_pow_right (by omega) (by omega)
  have e1 : (((b.length : Int)) * 72057594037927936) % 18446744073709551616 = (((b.length % 256) * 72057594037927936 : Nat) : Int) := by omega
  rw [IntKind.wrap_u64, e1]
  have h56 : (256 : Nat) ^ 7 = 72057594037927936 := by decide
  rw [bits_or_u64_nat _ _ (by omega) (by omega)]
  congr 1
  have h2 : valN R < 2 ^ 56 := by
    have : (2 : Nat) ^ 56 = 72057594037927936 := by decide
    omega
  rw [Nat.or_comm, Nat.mul_comm (b.length % 256), show (72057594037927936 : Nat) = 2 ^ 56 by decide, ← Nat.two_pow_add_eq_or_of_lt h2]
  rw [Nat.zero_add, ← Nat.mul_assoc, ← Nat.pow_add, List.length_replicate, hlen, h56]
  simp only [valN, Nat.mul_zero, Nat.add_zero, Nat.zero_add]
  rw [show (UInt8.ofNat b.length).toNat = b.length % 256 by simp]
  omega
theorem blocks_padded (s : Four) (b : List UInt8) : ∀ j, j ≤ b.length / 8 → blocks s (padded b) j = blocks s b j := by
  intro j
  induction j with
  | zero => intro _; rfl
  | succ j ih => intro h; simp only [blocks]; rw [ih (by omega), padded_block b j (by omega)]
/-- What the document's answer reckons. -/
def refOf (s : Four) (p : List UInt8) : Int := (Four.rnds 4 (blocks s p (p.length / 8)).fin).out
theorem ref_eq (s : Four) (b : List UInt8) (hb : b.length < 9223372036854775808) : refOf s (padded b) = sipOf s b := by
  unfold refOf sipOf
  rw [padded_length, show 8 * (b.length / 8 + 1) / 8 = b.length / 8 + 1 by omega]
  simp only [blocks]
  rw [blocks_padded s b _ (Nat.le_refl _), last_eq b hb]
end Go.Proofs.Ytkogaoilknoogaa
