/- Plain laws: numbers of bytes, from either end; bytes of numbers. -/
import Derived.Test.YtapbkomicihkkaaDoorSip3
import Derived.Laws.Bits64
namespace Go.Proofs.YtapbkomicihkkaaDoor
open Go.RowKit
set_option linter.unusedVariables false
set_option linter.unusedSimpArgs false

theorem bits_or_u64_nat (a b : Nat) (ha : a < 18446744073709551616) (hb : b < 18446744073709551616) :
    bits .or .u64 (a : Int) (b : Int) = ((a ||| b : Nat) : Int) := by
  have hx : a ||| b < 2 ^ 64 := Nat.or_lt_two_pow (by omega) (by omega)
  have h1 : (BitVec.ofInt 64 (a : Int)).toNat = a := by
    rw [BitVec.ofInt_natCast, BitVec.toNat_ofNat]; exact Nat.mod_eq_of_lt (by omega)
  have h2 : (BitVec.ofInt 64 (b : Int)).toNat = b := by
    rw [BitVec.ofInt_natCast, BitVec.toNat_ofNat]; exact Nat.mod_eq_of_lt (by omega)
  show IntKind.u64.wrap ((BitVec.ofInt 64 (a : Int) ||| BitVec.ofInt 64 (b : Int)).toNat : Int) = _
  rw [BitVec.toNat_or, h1, h2, IntKind.wrap_u64]
  omega

/-- Bytes as a number, the least first. -/
def valN : List UInt8 → Nat
  | [] => 0
  | c :: l => c.toNat + 256 * valN l
theorem valN_lt (l : List UInt8) : valN l < 256 ^ l.length := by
  induction l with
  | nil => simp [valN]
  | cons c l ih =>
    have := c.toNat_lt
    simp only [valN, List.length_cons, Nat.pow_succ]
    omega
theorem valN_append (l m : List UInt8) : valN (l ++ m) = valN l + 256 ^ l.length * valN m := by
  induction l with
  | nil => simp [valN]
  | cons c l ih =>
    simp only [List.cons_append, valN, ih, List.length_cons, Nat.pow_succ]
    rw [Nat.mul_add, Nat.mul_comm (256 ^ l.length) 256, Nat.mul_assoc, Nat.add_assoc]
theorem pow256 (i : Nat) : 256 ^ i = 2 ^ (8 * i) := by rw [Nat.pow_mul]
theorem lt64 {i : Nat} (h : i ≤ 8) : 256 ^ i ≤ 18446744073709551616 := by
  have := Nat.pow_le_pow_right (show 0 < 256 by omega) h
  simpa using this
theorem lowFrom_val (l : List UInt8) : ∀ (n i : Nat), n < 256 ^ i → i + l.length ≤ 8 → lowFrom (n : Int) i l = ((n + 256 ^ i * valN l : Nat) : Int) := by
  induction l with
  | nil => intro n i _ _; simp [lowFrom, valN]
  | cons c l ih =>
    intro n i hn hi
    simp only [List.length_cons] at hi
    have hc := c.toNat_lt
    have h1 : c.toNat * 256 ^ i < 256 ^ (i + 1) := by
      rw [Nat.pow_succ, Nat.mul_comm]
      exact Nat.mul_lt_mul_of_pos_left (by omega) (Nat.pow_pos (by omega))
    have h2 := lt64 (show i + 1 ≤ 8 by omega)
    have h3 := lt64 (show i ≤ 8 by omega)
    have e1 : lowAt (n : Int) i c = ((n + 256 ^ i * c.toNat : Nat) : Int) := by
      unfold lowAt
      rw [IntKind.wrap_u64, Nat.min_eq_left (by omega)]
      have e2 : ((c.toNat : Int) * 2 ^ (8 * i)) % 18446744073709551616 = ((c.toNat * 256 ^ i : Nat) : Int) := by
        rw [pow256]
        rw [pow256] at h1
        have e3 : ((c.toNat : Int) * 2 ^ (8 * i)) = ((c.toNat * 2 ^ (8 * i) : Nat) : Int) := by
          rw [Int.natCast_mul, Int.natCast_pow]; rfl
        rw [e3]
        omega
      rw [e2, bits_or_u64_nat _ _ (by omega) (by omega)]
      congr 1
      rw [Nat.or_comm, Nat.mul_comm c.toNat, pow256]
      rw [pow256] at hn
      rw [← Nat.two_pow_add_eq_or_of_lt hn, Nat.add_comm]
    show lowFrom (lowAt (n : Int) i c) (i + 1) l = _
    rw [e1, ih _ _ ?_ (by omega)]
    · congr 1
      simp only [valN]
      rw [Nat.pow_succ, Nat.mul_add, Nat.add_assoc, Nat.mul_assoc]
    · rw [Nat.pow_succ]
      have : 256 ^ i * c.toNat ≤ 256 ^ i * 255 := Nat.mul_le_mul_left _ (by omega)
      omega
theorem lowI_val (l : List UInt8) (h : l.length ≤ 8) : lowI l = (valN l : Int) := by
  have := lowFrom_val l 0 0 (by decide) (by omega)
  unfold lowI
  simpa using this
theorem refNum_val (l : List UInt8) (h : l.length ≤ 8) : refNum l = (valN l : Int) := by
  induction l with
  | nil => rfl
  | cons c l ih =>
    simp only [List.length_cons] at h
    have hc := c.toNat_lt
    have hl := valN_lt l
    have h1 := lt64 (show l.length + 1 ≤ 8 by omega)
    rw [Nat.pow_succ] at h1
    show refStep c (refNum l) = _
    rw [ih (by omega)]
    unfold refStep
    rw [IntKind.wrap_u64]
    have e1 : ((valN l : Int) * 256) % 18446744073709551616 = ((valN l * 256 : Nat) : Int) := by omega
    rw [e1, bits_or_u64_nat _ _ (by omega) (by omega)]
    congr 1
    have : c.toNat < 2 ^ 8 := by omega
    rw [Nat.mul_comm, show (256 : Nat) = 2 ^ 8 by rfl, ← Nat.two_pow_add_eq_or_of_lt this]
    simp only [valN]
    omega
/-- A number's bytes. -/
def bytesI (n : Int) : List UInt8 := (List.range 8).map fun i => UInt8.ofNat ((n / 2 ^ (8 * i)) % 256).toNat
theorem bytesI_length (n : Int) : (bytesI n).length = 8 := by simp [bytesI]
def bytesRec : Nat → Nat → List UInt8
  | 0, _ => []
  | k + 1, n => UInt8.ofNat (n % 256) :: bytesRec k (n / 256)
theorem bytesRec_map (k : Nat) : ∀ n : Nat, (List.range k).map (fun i => UInt8.ofNat (((n : Int) / 2 ^ (8 * i)) % 256).toNat) = bytesRec k n := by
  induction k with
  | zero => intro n; rfl
  | succ k ih =>
    intro n
    rw [List.range_succ_eq_map, List.map_cons, List.map_map, bytesRec, ← ih]
    congr 1
    · congr 1; simp; omega
    · apply List.map_congr_left
      intro i _
      simp only [Function.comp]
      congr 2
      have e1 : (2 : Int) ^ (8 * (i + 1)) = 256 * 2 ^ (8 * i) := by
        rw [show 8 * (i + 1) = 8 + 8 * i by omega, Int.pow_add]; rfl
      rw [e1, ← Int.ediv_ediv_of_nonneg (by decide)]
      rfl
theorem bytesI_rec (n : Nat) : bytesI (n : Int) = bytesRec 8 n := bytesRec_map 8 n
theorem valN_rec (k : Nat) : ∀ n, valN (bytesRec k n) = n % 256 ^ k := by
  induction k with
  | zero => intro n; simp [bytesRec, valN, Nat.mod_one]
  | succ k ih =>
    intro n
    simp only [bytesRec, valN, ih]
    rw [Nat.pow_succ, Nat.mul_comm (256 ^ k) 256, Nat.mod_mul]
    simp
theorem rec_valN (l : List UInt8) : bytesRec l.length (valN l) = l := by
  induction l with
  | nil => rfl
  | cons c l ih =>
    have hc := c.toNat_lt
    simp only [List.length_cons, bytesRec, valN]
    rw [show (c.toNat + 256 * valN l) / 256 = valN l by omega, ih, show (c.toNat + 256 * valN l) % 256 = c.toNat by omega]
    simp
theorem valN_bytesI (n : Int) (h : isU n) : (valN (bytesI n) : Int) = n := by
  obtain ⟨h0, h1⟩ := h
  obtain ⟨n, rfl⟩ := Int.eq_ofNat_of_zero_le h0
  rw [bytesI_rec, valN_rec, Nat.mod_eq_of_lt (by have : (256 : Nat) ^ 8 = 18446744073709551616 := by decide
                                                 omega)]
theorem bytesI_valN (l : List UInt8) (h : l.length = 8) : bytesI (valN l : Int) = l := by
  rw [bytesI_rec, ← h, rec_valN]
/-- There and back. -/
theorem low_bytesI (n : Int) (h : isU n) : lowI (bytesI n) = n := by
  rw [lowI_val _ (by rw [bytesI_length]; omega), valN_bytesI n h]
theorem bytesI_low (l : List UInt8) (h : l.length = 8) : bytesI (lowI l) = l := by
  rw [lowI_val _ (by omega), bytesI_valN l h]
theorem refNum_low (l : List UInt8) (h : l.length ≤ 8) : refNum l = lowI l := by rw [refNum_val l h, lowI_val l h]
end Go.Proofs.YtapbkomicihkkaaDoor
