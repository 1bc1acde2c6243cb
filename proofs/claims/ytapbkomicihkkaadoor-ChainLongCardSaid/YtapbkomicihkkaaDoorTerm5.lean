/- Whether a contract may be; whether two are made alike. -/
import Derived.Test.YtapbkomicihkkaaDoorTerm4
namespace Go.Proofs.YtapbkomicihkkaaDoor
open Go.RowKit
set_option linter.unusedVariables false
set_option linter.unusedSimpArgs false

/-- Is a text there twice? -/
def dupL (l : List ByteArray) : Bool := anyTo (fun i => anyTo (eqTo l (strAt l i)) i) l.length
def Tm.check (t : Tm) : Int := if t.form then (if 60 < t.nodes ∨ 12 < t.deep then 5 else if dupL t.labels then 4 else 0) else 2
set_option maxRecDepth 100000 in
set_option maxHeartbeats 1000000 in
theorem tcheck_calls (o : Tm) (ho : o.ok) (hm : o.meas ≤ 1099511627776) (w : World) :
    Calls Tryd.prog 25 #[o.val] w fun e w' => e = .returned (.int .i64 o.check) ∧ Below w.heap.size w w' := by
  have hf := tform_calls _ o (Nat.le_refl _) (by omega) ho
  have hs := tsize_calls _ o (Nat.le_refl _) ho (by omega)
  have hl := labels_calls _ o (Nat.le_refl _) hm ho
  have hc : Hid (o.check = if o.form then (if 60 < o.nodes ∨ 12 < o.deep then 5 else if dupL o.labels then 4 else 0) else 2) := rfl
  have hb0 := bl_refl w
  cases hfo : o.form with
  | false =>
    rw [hfo] at hf hc
    have HC := Lib.hid hc.out
    clear hfo hc
    go_enter Tryd.func25, Tryd.ntmps25
    go_wp2_with fail
    refine (hf _).mono ?_
    rintro e w1 ⟨rfl, hb1⟩
    go_wp2_with fail
    go_ret
    exact ⟨by rw [HC.out]; rfl, hb1⟩
  | true =>
    rw [hfo] at hf hc
    have HC := Lib.hid hc.out
    clear hfo hc
    by_cases hsz : 60 < o.nodes ∨ 12 < o.deep
    · have HSZ := Lib.hid hsz
      clear hsz
      go_enter Tryd.func25, Tryd.ntmps25
      go_wp2_with fail
      refine (hf _).mono ?_
      rintro e w1 ⟨rfl, hb1⟩
      go_wp2_with fail
      refine (hs _).mono ?_
      rintro e w2 ⟨rfl, hb2⟩
      by_cases h60 : 60 < o.nodes
      · go_wp2_with fail
        go_ret
        refine ⟨ret_int ?_, bl_step hb2 hb1⟩
        simp only [HC.out, if_true]; rw [if_pos HSZ.out]
      · have h12 : 12 < o.deep := by have := HSZ.out; omega
        go_wp2_with fail
        go_ret
        refine ⟨ret_int ?_, bl_step hb2 hb1⟩
        simp only [HC.out, if_true]; rw [if_pos HSZ.out]
    · have h60 : o.nodes ≤ 60 := by omega
      have h12 : o.deep ≤ 12 := by omega
      have HSZ := Lib.hid hsz
      have hlm := o.labels_meas
      clear hsz
      go_enter Tryd.func25, Tryd.ntmps25
      go_wp2_with fail
      refine (hf _).mono ?_
      rintro e w1 ⟨rfl, hb1⟩
      go_wp2_with fail
      refine (hs _).mono ?_
      rintro e w2 ⟨rfl, hb2⟩
      go_wp2_with fail
      refine (hl _).mono ?_
      intro e w3 hq; obtain ⟨v, rfl, HO, hb3⟩ := hq
      obtain ⟨A, c, rfl, hrd, hnc, _⟩ := HO.read
      have hb : Below w.heap.size w w3 := by
        repeat (first | exact bl_refl _ | refine bl_alloc ?_ _ | refine bl_drew ?_ | refine bl_drewN ?_ _ | refine bl_step (by assumption) ?_)
      have HRD := Lib.hid hrd
      clear hrd HO hb1 hb2 hb3
      go_wp2_with fail
      go_loopw [26] (fun i wr => ∃ k : Nat, k ≤ o.labels.length ∧ i = .int .i64 k ∧ Hid (∀ j, j < k → anyTo (eqTo o.labels (strAt o.labels j)) j = false) ∧ Below w3.heap.size w3 wr) (fun i _ => o.labels.length - (intOf i).toNat)
      case atStart => exact ⟨0, Nat.zero_le _, rfl, Lib.hid (fun j hj => by omega), bl_refl w3⟩
      case round =>
        obtain ⟨k, hk, rfl, hno, hbk⟩ := hrel
        have HBK := Lib.hid (bl_step hbk hb)
        by_cases hlt : k < o.labels.length
        · have hxk := strAt_val o.labels k hlt
          obtain ⟨ad, rfl, hcell⟩ := HRD.out k _ hxk
          have hc2 := cell_below hbk hcell
          have hct := Lib.hid (fun c' => scontains_calls (some ad) k c' o.labels (strAt o.labels k) (by omega) wr (HRD.out.below hbk) (by omega))
          have hkc : k ≤ c := by omega
          clear hxk hcell
          have HV : Hid (anyTo (eqTo o.labels (strAt o.labels k)) k = anyTo (eqTo o.labels (strAt o.labels k)) k) := rfl
          generalize hz : anyTo (eqTo o.labels (strAt o.labels k)) k = z at *
          have HZ := Lib.hid hz
          clear hz
          generalize hxx : strAt o.labels k = x at *
          have HXX := Lib.hid hxx
          clear hxx
          cases z with
          | true =>
            go_wp2_with fail
            refine (hct.out _).mono ?_
            rintro e w5 ⟨rfl, hb5⟩
            go_wp2_with fail
            go_ret
            refine ⟨ret_int ?_, bl_step hb5 HBK.out⟩
            simp only [HC.out, if_true]; rw [if_neg HSZ.out, if_pos]
            have hz := HZ.out
            rw [← HXX.out] at hz
            exact anyTo_true hlt hz
          | false =>
            go_wp2_with fail
            refine (hct.out _).mono ?_
            rintro e w5 ⟨rfl, hb5⟩
            go_wp2_with fail
            go_roundw
            case rel =>
              refine ⟨k + 1, by omega, by go_num, Lib.hid (fun j hj => ?_), bl_step hb5 hbk⟩
              by_cases e : j = k
              · subst e
                have hz := HZ.out
                rw [← HXX.out] at hz
                exact hz
              · exact hno.out j (by omega)
            case measure => simp [intOf]; omega
        · obtain rfl : k = o.labels.length := by omega
          go_wp2_with fail
          go_ret
          refine ⟨ret_int ?_, HBK.out⟩
          simp only [HC.out, if_true]; rw [if_neg HSZ.out, if_neg]
          unfold dupL
          rw [anyTo_false hno.out]; simp

def Tm.same : Tm → Tm → Bool
  | .zero, .zero => true
  | .one s, .one t => s.toList == t.toList
  | .give t, .give t' => t.same t'
  | .and l r, .and l' r' => l.same l' && r.same r'
  | .or s l r, .or s' l' r' => s.toList == s'.toList && (l.same l' && r.same r')
  | .scale o t, .scale o' t' => o.same o' && t.same t'
  | .when_ n t, .when_ n' t' => n == n' && t.same t'
  | .if_ o l r, .if_ o' l' r' => o.same o' && (l.same l' && r.same r')
  | _, _ => false
def tkidSame (o p : Tm) (j : Nat) : Bool := match o.kids[j]?, p.kids[j]? with | some k, some l => k.same l | _, _ => false
def numSame : Option Ob → Option Ob → Bool
  | some a, some b => a.same b
  | none, none => true
  | _, _ => false
theorem toList_nil (s : ByteArray) : True := trivial
theorem Tm.same_parts (o p : Tm) (h : o.kind = p.kind) (h0 : o.kind ≠ 0) : o.same p = (o.ownS.toList == p.ownS.toList && (o.ownN == p.ownN && (numSame o.num p.num && allTo (tkidSame o p) o.kids.length))) ∧ o.kids.length = p.kids.length ∧ o.num.isSome = p.num.isSome := by
  cases o <;> cases p <;> simp_all [Tm.kind, Tm.same, Tm.ownS, Tm.ownN, Tm.num, numSame, allTo, tkidSame, Tm.kids, List.range_succ]
end Go.Proofs.YtapbkomicihkkaaDoor
