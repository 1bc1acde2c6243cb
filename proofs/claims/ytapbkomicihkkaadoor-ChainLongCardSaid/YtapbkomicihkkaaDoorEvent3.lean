/- Whether an event may be; whether two are alike. -/
import Derived.Test.YtapbkomicihkkaaDoorEvent2
namespace Go.Proofs.YtapbkomicihkkaaDoor
open Go.RowKit
set_option linter.unusedVariables false
set_option linter.unusedSimpArgs false

def qB (k : Int) : Bool := (fieldsS k).toList == [63]
def Ev.check (e : Ev) : Int :=
  if (qB e.kind || !e.only || !e.named) = true then 1
  else if e.day < 0 ∨ 10000 < e.day ∨ validB e.value = false then 1
  else if e.kind = 4 ∧ e.value ≠ 0 ∧ e.value ≠ 1 then 1
  else if e.kind = 2 then e.term.write.2
  else 0
theorem Blk.evs {w : World} {g : Nat} {e : Ev} (h : Blk w g e.cells 84) :
    w.cell? ⟨g, 0, none⟩ = some (.int .i64 e.kind) ∧ w.cell? ⟨g, 1, none⟩ = some (.string e.id) ∧ w.cell? ⟨g, 2, none⟩ = some (.string e.name) ∧ w.cell? ⟨g, 3, none⟩ = some (.string e.label) ∧ w.cell? ⟨g, 4, none⟩ = some (.string e.cur) ∧
    w.cell? ⟨g, 5, none⟩ = some (.int .i64 e.day) ∧ w.cell? ⟨g, 6, none⟩ = some (.int .i64 e.value) ∧ w.cell? ⟨g, 7, none⟩ = some e.term.val :=
  ⟨h.cell 0, h.cell 1, h.cell 2, h.cell 3, h.cell 4, h.cell 5, h.cell 6, h.cell 7⟩
set_option maxRecDepth 100000 in
set_option maxHeartbeats 4000000 in
theorem echeck_calls (e : Ev) (hok : e.ok) (hm : e.term.meas ≤ 1099511627776) (w : World) (ht : TabOk w) :
    Calls Tryd.prog 94 #[e.val] w fun en w' => en = .returned (.int .i64 e.check) ∧ Below w.heap.size w w' := by
  have hcc := e.term.cells_ hok.term
  have ho7 := e.term.one_ hok.term
  have hb0 := Blk.new w e.cells 84
  have hbA := bl_alloc (bl_refl w) (.cells e.cells 84)
  have HC : Hid (e.check = if (qB e.kind || !e.only || !e.named) = true then 1
    else if e.day < 0 ∨ 10000 < e.day ∨ validB e.value = false then 1
    else if e.kind = 4 ∧ e.value ≠ 0 ∧ e.value ≠ 1 then 1
    else if e.kind = 2 then e.term.write.2
    else 0) := rfl
  have hev : e.val = .agg #[.int .i64 e.kind, .string e.id, .string e.name, .string e.label, .string e.cur, .int .i64 e.day, .int .i64 e.value, e.term.val] := rfl
  have hon := only_calls e hok
  have hna := named_calls e hok
  rw [hev] at hon hna ⊢
  have hqq : Hid (qB e.kind = ((fieldsS e.kind).toList == [63])) := rfl
  unfold Ev.cells at *
  generalize e.only = on at *
  generalize e.named = na at *
  go_enter Tryd.func94, Tryd.ntmps94
  go_wp2_with fail
  refine (fields_calls _ _).mono ?_
  rintro en w1 ⟨rfl, rfl⟩
  cases hq : qB e.kind with
  | true =>
    have hq' : ((fieldsS e.kind).toList == [63]) = true := hqq.out.symm.trans hq
    have HQ := Lib.hid hq
    go_wp2_with fail
    go_ret
    refine ⟨ret_int ?_, hbA⟩
    rw [HC.out, HQ.out]; rfl
  | false =>
    have hq' : ((fieldsS e.kind).toList == [63]) = false := hqq.out.symm.trans hq
    have HQ := Lib.hid hq
    go_wp2_with fail
    refine (hon _).mono ?_
    rintro en w2 ⟨rfl, hb2⟩
    have hk2 := hb0.below hb2
    obtain ⟨f0, f1, f2, f3, f4, f5, f6, f7⟩ := Blk.evs (e := e) hk2
    cases on with
    | false =>
      go_wp2_with fail
      go_ret
      refine ⟨ret_int ?_, bl_step hb2 hbA⟩
      rw [HC.out, HQ.out]; rfl
    | true =>
      go_wp2_with fail
      refine (hna _).mono ?_
      rintro en w3 ⟨rfl, hb3⟩
      have hk3 := hk2.below hb3
      have hbB := bl_step hb3 (bl_step hb2 hbA)
      clear f0 f1 f2 f3 f4 f5 f6 f7
      obtain ⟨f0, f1, f2, f3, f4, f5, f6, f7⟩ := Blk.evs (e := e) hk3
      cases na with
      | false =>
        go_wp2_with fail
        go_ret
        refine ⟨ret_int ?_, hbB⟩
        rw [HC.out, HQ.out]; rfl
      | true =>
        have hvc := valid_calls e.value
        have HQN : (false || !true || !true) = false := rfl
        have htw := fun w ht => twrite_calls e.term hok.term hm w ht
        have ht3 := ht.below hbB
        cases hv : validB e.value with
        | false =>
          rw [hv] at hvc
          have HV := Lib.hid hv
          have HVC := Lib.hid hvc
          clear hv hvc hq HQN htw
          go_wp2_with (go_at_call 92; refine (HVC.out _).mono ?_; rintro en w4 ⟨rfl, rfl⟩)
          all_goals go_ret
          all_goals
            refine ⟨ret_int ?_, hbB⟩
            rw [HC.out, HQ.out, HV.out]; simp
        | true =>
          rw [hv] at hvc
          have HV := Lib.hid hv
          have HVC := Lib.hid hvc
          have HTW := Lib.hid htw
          clear hv hvc hq HQN htw
          go_wp2_with (first | (go_at_call 92; refine (HVC.out _).mono ?_; rintro en w4 ⟨rfl, rfl⟩) | (go_at_call 8; refine (HTW.out _ ht3).mono ?_; rintro en w5 ⟨rfl, hb5⟩))
          all_goals go_ret
          all_goals
            refine ⟨ret_int ?_, ?_⟩
            · rw [HC.out, HQ.out, HV.out]
              simp only [beq_iff_eq, beq_eq_false_iff_ne, bne_iff_ne, bne_eq_false_iff_eq, ne_eq] at *
              rw [if_neg (by simp)]
              first
                | (rw [if_pos (.inl (by assumption))]; done)
                | (rw [if_pos (.inr (.inl (by assumption)))]; done)
                | (rw [if_neg (by simp; omega), if_pos (by omega)]; done)
                | (rw [if_neg (by simp; omega), if_neg (by omega), if_pos (by omega)]; done)
                | (rw [if_neg (by simp; omega), if_neg (by omega), if_neg (by omega)]; done)
            · first | exact hbB | exact bl_step hb5 hbB
def Ev.terms (a b : Ev) : Bool := (a.term.isNil && b.term.isNil) || a.term.same b.term
def Ev.rest (a b : Ev) : Bool := a.kind == b.kind && (a.id.toList == b.id.toList && (a.name.toList == b.name.toList && (a.label.toList == b.label.toList && (a.cur.toList == b.cur.toList && (a.day == b.day && a.value == b.value)))))
def Ev.same (a b : Ev) : Bool := a.terms b && a.rest b
end Go.Proofs.YtapbkomicihkkaaDoor
