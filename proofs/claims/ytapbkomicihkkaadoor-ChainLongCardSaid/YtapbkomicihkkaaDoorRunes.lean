/- Names: runes that may stand in one. -/
import Derived.Test.YtapbkomicihkkaaDoorRd
namespace Go.Proofs.YtapbkomicihkkaaDoor
open Go.RowKit
set_option linter.unusedVariables false
set_option linter.unusedSimpArgs false

theorem ret_bool {a b : Bool} (h : a = b) : Ending.returned (.bool a) = .returned (.bool b) := by rw [h]
theorem ret_int {k : IntKind} {a b : Int} (h : a = b) : Ending.returned (.int k a) = .returned (.int k b) := by rw [h]
def digitB (r : Int) : Bool := decide (48 ≤ r ∧ r ≤ 57)
def letterB (r : Int) : Bool := decide ((97 ≤ r ∧ r ≤ 122) ∨ (48 ≤ r ∧ r ≤ 57) ∨ r = 95 ∨ (128 ≤ r ∧ r ≠ 65533))
theorem digit_calls (r : Int) (w : World) :
    Calls Tryd.prog 86 #[.int .i32 r] w fun e w' => e = .returned (.bool (digitB r)) ∧ w' = w := by
  unfold digitB
  by_cases h1 : 48 ≤ r
  · by_cases h2 : r ≤ 57
    · have hd : decide (48 ≤ r ∧ r ≤ 57) = true := by simp; omega
      rw [hd]
      go_enter Tryd.func86, Tryd.ntmps86
      go_wp2
      go_ret
      exact ⟨rfl, rfl⟩
    · have hd : decide (48 ≤ r ∧ r ≤ 57) = false := by simp; omega
      rw [hd]
      have h3 : decide (r ≤ 57) = false := by simp; omega
      go_enter Tryd.func86, Tryd.ntmps86
      go_wp2
      go_ret
      exact ⟨rfl, rfl⟩
  · have hd : decide (48 ≤ r ∧ r ≤ 57) = false := by simp; omega
    rw [hd]
    have h3 : decide (48 ≤ r) = false := by simp; omega
    go_enter Tryd.func86, Tryd.ntmps86
    go_wp2
    go_ret
    exact ⟨rfl, rfl⟩
theorem letter_calls (r : Int) (w : World) :
    Calls Tryd.prog 85 #[.int .i32 r] w fun e w' => e = .returned (.bool (letterB r)) ∧ w' = w := by
  go_enter Tryd.func85, Tryd.ntmps85
  go_wp2_with (go_at_call 86; refine (digit_calls _ _).mono ?_; rintro e w' ⟨rfl, rfl⟩)
  all_goals go_ret
  all_goals
    refine ⟨ret_bool ?_, rfl⟩
    rw [Bool.eq_iff_iff]
    simp [letterB, digitB] at *
    try omega
theorem letter_range {r : Int} (h : letterB r = true) : digitB r = true ∨ letterB r = true := .inr h

/-- The runes of a text from a place on, as a range tells them. -/
def runesF (s : ByteArray) : Nat → Nat → List Int
  | 0, _ => []
  | b + 1, pos => if pos < s.size then ((Utf8.decode s pos).1 : Int) :: runesF s b (pos + (Utf8.decode s pos).2) else []
def runesL (s : ByteArray) : List Int := runesF s s.size 0
theorem width_pos (s : ByteArray) (pos : Nat) (h : pos < s.size) : 1 ≤ (Utf8.decode s pos).2 := by
  by_cases ha : (s[pos]'h).toNat < 128
  · rw [decode_ascii s pos h ha]
    exact Nat.le_refl _
  · exact (decode_high s pos h (by omega)).2
theorem runesF_end (s : ByteArray) (b pos : Nat) (h : ¬ pos < s.size) : runesF s b pos = [] := by
  cases b with
  | zero => rfl
  | succ b => simp [runesF, h]
theorem runesF_step (s : ByteArray) (b pos : Nat) (h : pos < s.size) : runesF s (b + 1) pos = ((Utf8.decode s pos).1 : Int) :: runesF s b (pos + (Utf8.decode s pos).2) := by
  simp [runesF, h]
theorem runesF_length (s : ByteArray) : ∀ b pos, (runesF s b pos).length ≤ b
  | 0, _ => by simp [runesF]
  | b + 1, pos => by
    unfold runesF
    split
    · have := runesF_length s b (pos + (Utf8.decode s pos).2)
      simp; omega
    · simp
/-- The rest of a name, n runes being before it. -/
def nameF : Nat → List Int → Bool
  | n, [] => decide (0 < n)
  | n, r :: l => if !letterB r || (n == 0 && digitB r) || decide (12 < n + 1) then false else nameF (n + 1) l
def nameB (s : ByteArray) : Bool := nameF 0 (runesL s)
set_option maxRecDepth 100000 in
set_option maxHeartbeats 400000 in
theorem name_calls (s : ByteArray) (w : World) :
    Calls Tryd.prog 65 #[.string s] w fun e w' => e = .returned (.bool (nameB s)) ∧ Below w.heap.size w w' := by
  go_enter Tryd.func65, Tryd.ntmps65
  go_wp2
  go_loopw [3] (fun n wr => ∃ (pos b m : Nat), wr = w.iter s pos ∧ n = .int .i64 m ∧ m ≤ 12 ∧ nameF m (runesF s b pos) = nameB s ∧ s.size ≤ pos + b) (fun _ wr => s.size - wr.iterPos w.heap.size)
  case atStart => exact ⟨0, s.size, 0, rfl, rfl, by omega, rfl, by omega⟩
  case round =>
    obtain ⟨pos, b, m, rfl, rfl, hm, hc, hb⟩ := hrel
    have hbel : ∀ p, Below w.heap.size w (w.iter s p) := fun p => bl_alloc (bl_refl w) _
    have HC := Lib.hid hc
    clear hc
    by_cases hp : pos < s.size
    · have hwd := width_pos s pos hp
      have hnx : ∀ ty, (Instr.next (.pointer (some ⟨w.heap.size, 0, none⟩)) true ty).run Tryd.prog (w.iter s pos) = _ := fun ty => run_next_any w s pos ty hp
      obtain ⟨b, rfl⟩ : ∃ c, b = c + 1 := ⟨b - 1, by omega⟩
      have hs := runesF_step s b pos hp
      have HS := Lib.hid hs
      clear hs
      go_wp2_with (first | (go_at_call 85; refine (letter_calls _ _).mono ?_; rintro e w' ⟨rfl, rfl⟩) | (go_at_call 86; refine (digit_calls _ _).mono ?_; rintro e w' ⟨rfl, rfl⟩))
      all_goals have hc := HC.out
      all_goals rw [HS.out] at hc
      all_goals generalize hR : runesF s b (pos + (Utf8.decode s pos).2) = R at hc
      all_goals generalize hr : ((Utf8.decode s pos).1 : Int) = r at *
      · go_ret
        refine ⟨ret_bool ?_, hbel _⟩
        rw [← hc]
        have hm0 : m = 0 := by omega
        subst hm0
        have hd : digitB r = true := by assumption
        simp [nameF, hd]
      · have hm0 : m = 0 := by omega
        subst hm0
        have hl : letterB r = true := by assumption
        have hd : digitB r = false := by simpa using ‹¬digitB r = true›
        refine ⟨⟨_, b, 1, rfl, rfl, by omega, ?_, by omega⟩, ?_⟩
        · rw [hR, ← hc]
          simp [nameF, hl, hd]
        · simp; omega
      · go_ret
        refine ⟨ret_bool ?_, hbel _⟩
        rw [← hc]
        have hm0 : decide (12 < m + 1) = true := by simp; omega
        simp only [nameF, hm0]; simp
      · have hm0 : decide (12 < m + 1) = false := by simp; omega
        have hm1 : (m == 0) = false := by simp; omega
        have hl : letterB r = true := by assumption
        refine ⟨⟨_, b, m + 1, rfl, by go_num, by omega, ?_, by omega⟩, ?_⟩
        · rw [hR, ← hc]
          simp only [nameF, hm0, hm1, hl]; simp
        · simp; omega
      · go_ret
        refine ⟨ret_bool ?_, hbel _⟩
        rw [← hc]
        have hl : letterB r = false := by simpa using ‹¬letterB r = true›
        simp [nameF, hl]
    · have hnx : ∀ ty, (Instr.next (.pointer (some ⟨w.heap.size, 0, none⟩)) true ty).run Tryd.prog (w.iter s pos) = _ := fun ty => run_next_end w s pos ty hp
      go_wp2
      go_ret
      have := HC.out
      rw [runesF_end s b pos hp] at this
      refine ⟨ret_bool ?_, hbel _⟩
      rw [← this]
      simp [nameF]
end Go.Proofs.YtapbkomicihkkaaDoor
