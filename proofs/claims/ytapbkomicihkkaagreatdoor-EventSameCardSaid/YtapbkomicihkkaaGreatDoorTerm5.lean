/- Whether a contract may be; whether two are made alike. -/
import Derived.Test.YtapbkomicihkkaaGreatDoorTerm4
namespace Go.Proofs.YtapbkomicihkkaaGreatDoor
open Go.RowKit
set_option linter.unusedVariables false
set_option linter.unusedSimpArgs false

/-- Is a text there twice? -/
def dupL (l : List ByteArray) : Bool := anyTo (fun i => anyTo (eqTo l (strAt l i)) i) l.length
def Tm.check (t : Tm) : Int := if t.form then (if 60 < t.nodes ∨ 12 < t.deep then 5 else if dupL t.labels then 4 else 0) else 2
set_option maxRecDepth 100000 in
set_option maxHeartbeats 1000000 in
theorem tcheck_calls (o : Tm) (ho : o.ok) (hm : o.meas ≤ 1099511627776) (w : World) :
    Calls Tryz.prog 76 #[o.val] w fun e w' => e = .returned (.int .i64 o.check) ∧ Below w.heap.size w w' := by
  have hf := tform_calls _ o (Nat.le_refl _) (by omega) ho
  have hs := tsize_calls _ o (Nat.le_refl _) ho (by omega)
  have hl := labels_calls _ o (Nat.le_refl _) hm ho
  have hc : Hid (o.check = if o.form then (if 60 < o.nodes ∨ 12 < o.deep then 5 else if dupL o.labels then 4 else 0) else 2) := rfl
  have hb0 := bl_refl w
  cases hfo : o.form with
  | false =>
    rw [hfo] at hf hc
    have HC := Lib.hid hc.out
    clear hfo hc
    go_enter Tryz.func76, Tryz.ntmps76
    go_wp2_with fail
    refine (hf _).mono ?_
    rintro e w1 ⟨rfl, hb1⟩
    go_wp2_with fail
    go_ret
    exact ⟨by rw [HC.out]; rfl, hb1⟩
  | true =>
    rw [hfo] at hf hc
    have HC := Lib.hid hc.out
    clear hfo hc
    by_cases hsz : 60 < o.nodes ∨ 12 < o.deep
    · have HSZ := Lib.hid hsz
      clear hsz
      go_enter Tryz.func76, Tryz.ntmps76
      go_wp2_with fail
      refine (hf _).mono ?_
      rintro e w1 ⟨rfl, hb1⟩
      go_wp2_with fail
      refine (hs _).mono ?_
      rintro e w2 ⟨rfl, hb2⟩
      by_cases h60 : 60 < o.nodes
      · go_wp2_with fail
        go_ret
        refine ⟨ret_int ?_, bl_step hb2 hb1⟩
        simp only [HC.out, if_true]; rw [if_pos HSZ.out]
      · have h12 : 12 < o.deep := by have := HSZ.out; omega
        go_wp2_with fail
        go_ret
        refine ⟨ret_int ?_, bl_step hb2 hb1⟩
        simp only [HC.out, if_true]; rw [if_pos HSZ.out]
    · have h60 : o.nodes ≤ 60 := by omega
      have h12 : o.deep ≤ 12 := by omega
      have HSZ := Lib.hid hsz
      have hlm := o.labels_meas
      clear hsz
      go_enter Tryz.func76, Tryz.ntmps76
      go_wp2_with fail
      refine (hf _).mono ?_
      rintro e w1 ⟨rfl, hb1⟩
      go_wp2_with fail
      refine (hs _).mono ?_
      rintro e w2 ⟨rfl, hb2⟩
      go_wp2_with fail
      refine (hl _).mono ?_
      intro e w3 hq; obtain ⟨v, rfl, HO, hb3⟩ := hq
      obtain ⟨A, c, rfl, hrd, hnc, _⟩ := HO.read
      have hb : Below w.heap.size w w3 := by
        repeat (first | exact bl_refl _ | refine bl_alloc ?_ _ | refine bl_drew ?_ | refine bl_drewN ?_ _ | refine bl_step (by assumption) ?_)
      have HRD := Lib.hid hrd
      clear hrd HO hb1 hb2 hb3
      go_wp2_with fail
      go_loopw [26] (fun i wr => ∃ k : Nat, k ≤ o.labels.length ∧ i = .int .i64 k ∧ Hid (∀ j, j < k → anyTo (eqTo o.labels (strAt o.labels j)) j = false) ∧ Below w3.heap.size w3 wr) (fun i _ => o.labels.length - (intOf i).toNat)
      case atStart => exact ⟨0, Nat.zero_le _, rfl, Lib.hid (fun j hj => by omega), bl_refl w3⟩
      case round =>
        obtain ⟨k, hk, rfl, hno, hbk⟩ := hrel
        have HBK := Lib.hid (bl_step hbk hb)
        by_cases hlt : k < o.labels.length
        · have hxk := strAt_val o.labels k hlt
          obtain ⟨ad, rfl, hcell⟩ := HRD.out k _ hxk
          have hc2 := cell_below hbk hcell
          have hct := Lib.hid (fun c' => scontains_calls (some ad) k c' o.labels (strAt o.labels k) (by omega) wr (HRD.out.below hbk) (by omega))
          have hkc : k ≤ c := by omega
          clear hxk hcell
          have HV : Hid (anyTo (eqTo o.labels (strAt o.labels k)) k = anyTo (eqTo o.labels (strAt o.labels k)) k) := rfl
          generalize hz : anyTo (eqTo o.labels (strAt o.labels k)) k = z at *
          have HZ := Lib.hid hz
          clear hz
          generalize hxx : strAt o.labels k = x at *
          have HXX := Lib.hid hxx
          clear hxx
          cases z with
          | true =>
            go_wp2_with fail
            refine (hct.out _).mono ?_
            rintro e w5 ⟨rfl, hb5⟩
            go_wp2_with fail
            go_ret
            refine ⟨ret_int ?_, bl_step hb5 HBK.out⟩
            simp only [HC.out, if_true]; rw [if_neg HSZ.out, if_pos]
            have hz := HZ.out
            rw [← HXX.out] at hz
            exact anyTo_true hlt hz
          | false =>
            go_wp2_with fail
            refine (hct.out _).mono ?_
            rintro e w5 ⟨rfl, hb5⟩
            go_wp2_with fail
            go_roundw
            case rel =>
              refine ⟨k + 1, by omega, by go_num, Lib.hid (fun j hj => ?_), bl_step hb5 hbk⟩
              by_cases e : j = k
              · subst e
                have hz := HZ.out
                rw [← HXX.out] at hz
                exact hz
              · exact hno.out j (by omega)
            case measure => simp [intOf]; omega
        · obtain rfl : k = o.labels.length := by omega
          go_wp2_with fail
          go_ret
          refine ⟨ret_int ?_, HBK.out⟩
          simp only [HC.out, if_true]; rw [if_neg HSZ.out, if_neg]
          unfold dupL
          rw [anyTo_false hno.out]; simp

theorem hcall_tsame (args : Array Value) (W : World) : (callFunc 38 args).run Tryz.prog W = .ok (.enter 38 args) W := by kernel_rfl
def Tm.same : Tm → Tm → Bool
  | .zero, .zero => true
  | .one s, .one t => s.toList == t.toList
  | .give t, .give t' => t.same t'
  | .and l r, .and l' r' => l.same l' && r.same r'
  | .or s l r, .or s' l' r' => s.toList == s'.toList && (l.same l' && r.same r')
  | .scale o t, .scale o' t' => o.same o' && t.same t'
  | .when_ n t, .when_ n' t' => n == n' && t.same t'
  | .if_ o l r, .if_ o' l' r' => o.same o' && (l.same l' && r.same r')
  | _, _ => false
def tkidSame (o p : Tm) (j : Nat) : Bool := match o.kids[j]?, p.kids[j]? with | some k, some l => k.same l | _, _ => false
def numSame : Option Ob → Option Ob → Bool
  | some a, some b => a.same b
  | none, none => true
  | _, _ => false
theorem toList_nil (s : ByteArray) : True := trivial
theorem Tm.same_parts (o p : Tm) (h : o.kind = p.kind) (h0 : o.kind ≠ 0) : o.same p = (o.ownS.toList == p.ownS.toList && (o.ownN == p.ownN && (numSame o.num p.num && allTo (tkidSame o p) o.kids.length))) ∧ o.kids.length = p.kids.length ∧ o.num.isSome = p.num.isSome := by
  cases o <;> cases p <;> simp_all [Tm.kind, Tm.same, Tm.ownS, Tm.ownN, Tm.num, numSame, allTo, tkidSame, Tm.kids, List.range_succ]
set_option maxRecDepth 100000 in
set_option maxHeartbeats 4000000 in
theorem tsame_calls (B : Nat) : ∀ (o p : Tm), o.meas ≤ B → o.ok → p.ok → ∀ w : World,
    Calls Tryz.prog 38 #[o.val, p.val] w fun e w' => e = .returned (.bool (o.same p)) ∧ Below w.heap.size w w' := by
  induction B with
  | zero => intro o p h; cases o <;> simp [Tm.meas] at h
  | succ B ih =>
    intro o p hm ho hp w
    have hb0 := bl_refl w
    have hk1 := tkind_calls o ho
    have hk2 := tkind_calls p hp
    have ho1 := town_calls o ho
    have ho2 := town_calls p hp
    have hn1 := tnumber_calls o ho
    have hn2 := tnumber_calls p hp
    have hkd1 := term_kids o ho
    have hkd2 := term_kids p hp
    have hp2 : ∀ W, Pred2On 38 W (Tm.vals o.kids) (Tm.vals p.kids) (tkidSame o p) := by
      intro W j x y hx hy W' _
      unfold Tm.vals at hx hy
      rw [List.getElem?_map] at hx hy
      obtain ⟨k, hk, rfl⟩ := Option.map_eq_some_iff.1 hx
      obtain ⟨l, hl, rfl⟩ := Option.map_eq_some_iff.1 hy
      have hmem := List.mem_of_getElem? hk
      have h1 := ih k l (by have := o.kid_meas k hmem; omega) (o.kid_ok ho k hmem) (p.kid_ok hp l (List.mem_of_getElem? hl)) W'
      have h2 : tkidSame o p j = k.same l := by unfold tkidSame; rw [hk, hl]
      rw [h2]
      exact h1
    have HP2 := Lib.hid hp2
    have hlen := o.kids_len
    clear hp2
    by_cases hk : o.kind = 0 ∨ o.kind ≠ p.kind
    · have hs : o.same p = false := by
        cases o <;> cases p <;> simp_all [Tm.kind, Tm.same]
      have HS := Lib.hid hs
      clear hs ih ho1 ho2 hn1 hn2 hkd1 hkd2
      generalize o.kind = a at *
      generalize p.kind = b at *
      by_cases h0 : a = 0
      · subst h0
        clear hk
        go_enter Tryz.func38, Tryz.ntmps38
        go_wp2_with fail
        refine (hk1 _).mono ?_
        rintro e w1 ⟨rfl, hb1⟩
        go_wp2_with fail
        go_ret
        exact ⟨ret_bool HS.out.symm, hb1⟩
      · have h1 : (a == 0) = false := by simp [h0]
        have h2 : (a != b) = true := by simp; omega
        clear hk h0
        go_enter Tryz.func38, Tryz.ntmps38
        go_wp2_with fail
        refine (hk1 _).mono ?_
        rintro e w1 ⟨rfl, hb1⟩
        go_wp2_with fail
        refine (hk1 _).mono ?_
        rintro e w2 ⟨rfl, hb2⟩
        go_wp2_with fail
        refine (hk2 _).mono ?_
        rintro e w3 ⟨rfl, hb3⟩
        go_wp2_with fail
        go_ret
        refine ⟨ret_bool HS.out.symm, ?_⟩
        repeat (first | exact bl_refl _ | refine bl_alloc ?_ _ | refine bl_drew ?_ | refine bl_drewN ?_ _ | refine bl_step (by assumption) ?_)
    · have hk0 : o.kind ≠ 0 := fun h => hk (.inl h)
      have hkk : o.kind = p.kind := by
        by_cases h : o.kind = p.kind
        · exact h
        · exact absurd (.inr h) hk
      obtain ⟨hs, hl, hns⟩ := o.same_parts p hkk hk0
      have HS := Lib.hid hs
      have HL := Lib.hid hl
      rw [← hkk] at hk2
      rw [← hns] at hn2
      have h1 : (o.kind == 0) = false := by simp [hk0]
      clear hk hk0 hkk hs hl ih
      generalize o.kind = kk at *
      generalize o.ownS = s1 at *
      generalize p.ownS = s2 at *
      generalize o.ownN = n1 at *
      generalize p.ownN = n2 at *
      go_enter Tryz.func38, Tryz.ntmps38
      go_wp2_with fail
      refine (hk1 _).mono ?_
      rintro e w1 ⟨rfl, hb1⟩
      go_wp2_with fail
      refine (hk1 _).mono ?_
      rintro e w2 ⟨rfl, hb2⟩
      go_wp2_with fail
      refine (hk2 _).mono ?_
      rintro e w3 ⟨rfl, hb3⟩
      go_wp2_with fail
      refine (ho1 _).mono ?_
      rintro e w4 ⟨rfl, hb4⟩
      go_wp2_with fail
      refine (ho2 _).mono ?_
      rintro e w5 ⟨rfl, hb5⟩
      cases hs : (s1.toList == s2.toList) with
      | false =>
        have hs' : (s1.toList != s2.toList) = true := by simp [bne, hs]
        have HX := Lib.hid hs
        go_wp2_with fail
        go_ret
        refine ⟨ret_bool ?_, ?_⟩
        · rw [HS.out, HX.out]; rfl
        repeat (first | exact bl_refl _ | refine bl_alloc ?_ _ | refine bl_drew ?_ | refine bl_drewN ?_ _ | refine bl_step (by assumption) ?_)
      | true =>
        have hs' : (s1.toList != s2.toList) = false := by simp [bne, hs]
        have HX := Lib.hid hs
        cases hn : (n1 == n2) with
        | false =>
          have hn' : (n1 != n2) = true := by simp [bne, hn]
          have HY := Lib.hid hn
          go_wp2_with fail
          go_ret
          refine ⟨ret_bool ?_, ?_⟩
          · rw [HS.out, HX.out, HY.out]; rfl
          repeat (first | exact bl_refl _ | refine bl_alloc ?_ _ | refine bl_drew ?_ | refine bl_drewN ?_ _ | refine bl_step (by assumption) ?_)
        | true =>
          have hn' : (n1 != n2) = false := by simp [bne, hn]
          have HY := Lib.hid hn
          cases hq1 : o.num with
          | none =>
            cases hq2 : p.num with
            | some q => rw [hq1, hq2] at hns; cases hns
            | none =>
              rw [hq1] at HS hn1 hn2
              rw [hq2] at HS hn2
              simp only [numSame, numV, Option.isSome, Bool.true_and] at HS hn1 hn2
              have HN1 := Lib.hid hn1
              clear hq1 hq2 hns hn1 hn2
              go_wp2_with fail
              refine (HN1.out _).mono ?_
              rintro e w6 ⟨rfl, hb6⟩
              go_wp2_with fail
              refine (hkd1 _).mono ?_
              intro e w13 hr; obtain ⟨A, c, rfl, hrd, hb13, hnc⟩ := hr.open_; clear hr
              have HR1 := Lib.hid hrd
              clear hrd
              go_wp2_with fail
              refine (hkd2 _).mono ?_
              intro e w14 hr; obtain ⟨A', c', rfl, hrd, hb14, hnc'⟩ := hr.open_; clear hr
              have HR2 := Lib.hid hrd
              clear hrd
              go_wp2_with fail
              rw [← HL.out]
              refine (term_equal _ hcall_tsame A A' _ c c' _ _ (by simp [Tm.vals]) (by simp [Tm.vals, HL.out]) _ _ (HR1.out.below hb14) HR2.out (by omega) (HP2.out _)).mono ?_
              rintro e w15 ⟨rfl, hb15⟩
              go_wp2_with fail
              go_ret
              refine ⟨ret_bool ?_, ?_⟩
              · rw [HS.out, HX.out, HY.out]; simp
              repeat (first | exact bl_refl _ | refine bl_alloc ?_ _ | refine bl_drew ?_ | refine bl_drewN ?_ _ | refine bl_step (by assumption) ?_)
          | some q =>
            cases hq2 : p.num with
            | none => rw [hq1, hq2] at hns; cases hns
            | some q2 =>
              have hoq := same_calls _ q q2 (Nat.le_refl _) (o.num_ok ho q hq1) (p.num_ok hp q2 hq2)
              rw [hq1] at HS hn1 hn2
              rw [hq2] at HS hn2
              simp only [numSame, numV, Option.isSome, Bool.true_and] at HS hn1 hn2
              have HN1 := Lib.hid hn1
              have HN2 := Lib.hid hn2
              clear hq1 hq2 hns hn1 hn2
              generalize q.same q2 = z at *
              have HOQ := Lib.hid hoq
              clear hoq
              cases z with
              | false =>
                go_wp2_with fail
                refine (HN1.out _).mono ?_
                rintro e w6 ⟨rfl, hb6⟩
                go_wp2_with fail
                refine (HN2.out _).mono ?_
                rintro e w7 ⟨rfl, hb7⟩
                go_wp2_with fail
                refine (HOQ.out _).mono ?_
                rintro e w8 ⟨rfl, hb8⟩
                go_wp2_with fail
                go_ret
                refine ⟨ret_bool ?_, ?_⟩
                · rw [HS.out, HX.out, HY.out]; rfl
                repeat (first | exact bl_refl _ | refine bl_alloc ?_ _ | refine bl_drew ?_ | refine bl_drewN ?_ _ | refine bl_step (by assumption) ?_)
              | true =>
                go_wp2_with fail
                refine (HN1.out _).mono ?_
                rintro e w6 ⟨rfl, hb6⟩
                go_wp2_with fail
                refine (HN2.out _).mono ?_
                rintro e w7 ⟨rfl, hb7⟩
                go_wp2_with fail
                refine (HOQ.out _).mono ?_
                rintro e w8 ⟨rfl, hb8⟩
                go_wp2_with fail
                refine (hkd1 _).mono ?_
                intro e w13 hr; obtain ⟨A, c, rfl, hrd, hb13, hnc⟩ := hr.open_; clear hr
                have HR1 := Lib.hid hrd
                clear hrd
                go_wp2_with fail
                refine (hkd2 _).mono ?_
                intro e w14 hr; obtain ⟨A', c', rfl, hrd, hb14, hnc'⟩ := hr.open_; clear hr
                have HR2 := Lib.hid hrd
                clear hrd
                go_wp2_with fail
                rw [← HL.out]
                refine (term_equal _ hcall_tsame A A' _ c c' _ _ (by simp [Tm.vals]) (by simp [Tm.vals, HL.out]) _ _ (HR1.out.below hb14) HR2.out (by omega) (HP2.out _)).mono ?_
                rintro e w15 ⟨rfl, hb15⟩
                go_wp2_with fail
                go_ret
                refine ⟨ret_bool ?_, ?_⟩
                · rw [HS.out, HX.out, HY.out]; simp
                repeat (first | exact bl_refl _ | refine bl_alloc ?_ _ | refine bl_drew ?_ | refine bl_drewN ?_ _ | refine bl_step (by assumption) ?_)
end Go.Proofs.YtapbkomicihkkaaGreatDoor
