/- The walk of EventTerms. -/
import Derived.Test.YtgcglongjjpkbaaDoorLawETerms
import Derived.Test.YtgcglongjjpkbaaDoorPlan8
import Derived.Test.YtgcglongjjpkbaaDoorConv2
namespace Go.Proofs.YtgcglongjjpkbaaDoor
open Go.RowKit
set_option linter.unusedVariables false
set_option linter.unusedSimpArgs false

def tradeE (id : ByteArray) (t : Tm) : Ev := ⟨2, id, noS, noS, noS, 0, 0, t⟩
theorem tradeE_ok (id : ByteArray) (t : Tm) (h : t.ok) : (tradeE id t).ok := ⟨by unfold IsInt64 tradeE; dsimp only; decide, by unfold IsInt64 tradeE; dsimp only; decide, by unfold IsInt64 tradeE; dsimp only; decide, h⟩
theorem tradeE_check (id : ByteArray) (t : Tm) : (tradeE id t).check = if nameB id = true then t.write.2 else 1 := by
  have h1 : qB 2 = false := by decide +kernel
  have hI : hasB 2 73 = true := by decide +kernel
  have hN : hasB 2 78 = false := by decide +kernel
  have hL : hasB 2 76 = false := by decide +kernel
  have hC : hasB 2 67 = false := by decide +kernel
  have hT : hasB 2 84 = true := by decide +kernel
  have he : noS.toList.isEmpty = true := by decide +kernel
  have hv : validB 0 = true := by decide +kernel
  have ho : (tradeE id t).only = true := by
    unfold Ev.only Ev.onlyT Ev.onlyR Ev.texts tradeE
    simp [hI, hT, he]
  have hn : (tradeE id t).named = nameB id := by
    unfold Ev.named Ev.texts tradeE
    simp [hI, hN, hL, hC]
  unfold Ev.check
  rw [ho, hn]
  show (if (qB 2 || !true || !nameB id) = true then 1 else _) = _
  rw [h1]
  cases nameB id with
  | false => rfl
  | true =>
    show (if (0 : Int) < 0 ∨ (10000 : Int) < 0 ∨ validB 0 = false then 1 else _) = _
    rw [hv, if_neg (by simp)]
    rfl
theorem t1_name : nameB ⟨#[116, 49]⟩ = true := by decide +kernel
theorem tradeE_same (id : ByteArray) (t : Tm) (h : t.fine) : (tradeE id t).same (tradeE id t) = true := by
  unfold Ev.same Ev.terms Ev.rest tradeE
  simp [t.same_self h]
theorem tradeE_other (id : ByteArray) (t : Tm) (h : t.fine) : (tradeE id t).same (tradeE id (.give t)) = false := by
  have hn : (Tm.give t).isNil = false := rfl
  unfold Ev.same Ev.terms tradeE
  simp [t.same_give, hn]
theorem Tm.text_pos : ∀ (t : Tm), t.fine → t.text.size ≠ 0
  | .zero, _ => by decide
  | .one _, _ => by simp only [Tm.text, callS_size]; omega
  | .give _, _ => by simp only [Tm.text, callS_size]; omega
  | .and _ _, _ => by simp only [Tm.text, callS_size]; omega
  | .or _ _ _, _ => by simp only [Tm.text, callS_size]; omega
  | .scale _ _, _ => by simp only [Tm.text, callS_size]; omega
  | .when_ _ _, _ => by simp only [Tm.text, callS_size]; omega
  | .if_ _ _ _, _ => by simp only [Tm.text, callS_size]; omega
  | .odd _, h => h.elim
/-- Either there is a text, or there is none and a reason. -/
theorem Tm.write_or (t : Tm) (h : t.fine) : (t.write.2 = 0 ∧ (t.write.1.toList == []) = false) ∨ (t.write.2 ≠ 0 ∧ t.write.1 = ⟨#[]⟩) := by
  unfold Tm.write
  by_cases hc : t.check = 0
  · rw [if_pos hc]
    unfold toldS
    by_cases hs : 1000 < t.text.size
    · rw [if_pos hs]; exact .inr ⟨by decide, rfl⟩
    · rw [if_neg hs]
      refine .inl ⟨rfl, ?_⟩
      have hp := t.text_pos h
      generalize t.text = s at *
      cases he : (s.toList == []) with
      | false => rfl
      | true =>
        have : s.toList = [] := by simpa using he
        have h2 := congrArg List.length this
        rw [ByteArray.toList_eq] at h2
        rw [Array.length_toList] at h2
        exact absurd h2 hp
  · rw [if_neg hc]; exact .inr ⟨hc, rfl⟩
@[go_sem ↓] theorem bd_Event (parts : Array (Nat × Value)) : Instr.build 83 parts = bdN 83 parts := rfl
@[go_sem] theorem run_bd_Event (k : Int) (x1 : ByteArray) (x7 : Value) (h7 : IsI x7) (W : World) : (bdN 83 #[(0, .int .i64 k), (1, .string x1), (7, x7)]).run Tryd.prog W = .ok (.agg #[.int .i64 k, .string x1, .string ⟨#[]⟩, .string ⟨#[]⟩, .string ⟨#[]⟩, .int .i64 0, .int .i64 0, x7]) W := by
  rcases h7 with rfl | ⟨_, _, rfl⟩ <;> kernel_rfl
end Go.Proofs.YtgcglongjjpkbaaDoor
