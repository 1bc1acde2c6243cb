/- The walk over a choice; a clone of what is known. -/
import Derived.Test.YtnekcijganhknaaGreatDoorBase
import Derived.Maps.OwnSet
import Derived.Test.YtnekcijganhknaaGreatDoorLgG
import Derived.Test.YtnekcijganhknaaGreatDoorOwn
import Derived.DeepKeys4
import Derived.Shelf.SlMaps.Clone
import Derived.BigQuiet
import Derived.OwnWalk
import Derived.BigRegion
import Derived.WideKeyEntry
namespace Go.Proofs.YtnekcijganhknaaGreatDoor
open Go.RowKit
open Go.Maps (Keyed)
set_option linter.unusedVariables false
set_option linter.unusedSimpArgs false

section
variable {P : Program} {K E t : TypeId} {R : Value → Option (DataW Unit × List MemPlace)} {κ ν : Type} [BEq κ] {kf : κ → Value} {vf : ν → DataW Unit} {W W' : World} {b : Nat} {l : List (κ × ν)}
/-- What a list has at a key, or z. -/
def atL (vf : ν → DataW Unit) (l : List (κ × ν)) (k : κ) (z : DataW Unit) : DataW Unit := match l.lookup k with
  | some v => vf v
  | none => z
def MapAt (P : Program) (K : TypeId) (R : Value → Option (DataW Unit × List MemPlace)) (kf : κ → Value) (vf : ν → DataW Unit) (W : World) (b : Nat) (l : List (κ × ν)) : Prop :=
  ∃ D, W.ownsMap P K R b l.length D ∧ Maps.size D = l.length ∧ ∀ (k : κ) (kl : Lit), keyOf P K (kf k) = some kl → (∀ z, D.atKey kl z = atL vf l k z) ∧ Maps.has D kl = (l.lookup k).isSome
theorem ownsMap_tight {n : Nat} {D : DataW Unit} (h : W.ownsMap P K R b n D) : W.ownsMap P K R b (Maps.size D) D := by
  obtain ⟨es, clock, hb, F, hs, rfl⟩ := h
  exact ⟨es, clock, hb, F, by simp [Maps.size, length_sorted], rfl⟩
theorem MapAt.made (W : World) : MapAt P K R kf vf (W.alloc (.map #[] 0)) W.heap.size ([] : List (κ × ν)) :=
  ⟨.map [], World.ownsMap_made W P K R, rfl, fun k kl _ => ⟨fun z => rfl, rfl⟩⟩
theorem MapAt.kept {row : Option Nat} (h : MapAt P K R kf vf W b l) (hg : W.grownBy W' row) (hne : some b ≠ row) : MapAt P K R kf vf W' b l := by
  obtain ⟨D, h1, h2, h3⟩ := h
  exact ⟨D, h1.kept hg hne, h2, h3⟩
/-- It hangs on the block's entries alone. -/
theorem MapAt.obj (h : MapAt P K R kf vf W b l) : ∃ es clock, W.heap[b]? = some (.map es clock) ∧ ∀ (W1 : World) (b1 : Nat), W1.heap[b1]? = some (.map es clock) → MapAt P K R kf vf W1 b1 l := by
  obtain ⟨D, ⟨es, clock, hb, F, hs, hD⟩, h2, h3⟩ := h
  exact ⟨es, clock, hb, fun W1 b1 h1 => ⟨D, ⟨es, clock, h1, F, hs, hD⟩, h2, h3⟩⟩
theorem MapAt.below (h : MapAt P K R kf vf W b l) (hb : Below W.heap.size W W') : MapAt P K R kf vf W' b l := h.kept (gb_below hb none) (by simp)
theorem MapAt.lt (h : MapAt P K R kf vf W b l) : b < W.heap.size := by
  obtain ⟨D, h1, -⟩ := h
  exact h1.lt
/-- v, ok := m[k] -/
theorem MapAt.look_ok (h : MapAt P K R kf vf W b l) (KK : Keyed P K) (ht : P.underlying t = some (.map K E)) {z : Value} (hz : (zeroValue E).run P W = .ok z W) {zd : DataW Unit} {zp : List MemPlace} (hzd : R z = some (zd, zp)) {k : κ} {kl : Lit} (hkey : keyOf P K (kf k) = some kl) :
    ∃ v ps, (Instr.lookup t (.map (some b)) (kf k) true).run P W = .ok (.tuple #[v, .bool (l.lookup k).isSome]) W ∧ R v = some (atL vf l k zd, ps) := by
  obtain ⟨D, h1, h2, h3⟩ := h
  obtain ⟨v, ps, hrun, hv⟩ := h1.look_ok KK ht hz hzd hkey
  obtain ⟨h4, h5⟩ := h3 k kl hkey
  rw [h5] at hrun
  rw [h4] at hv
  exact ⟨v, ps, hrun, hv⟩
theorem MapAt.len (h : MapAt P K R kf vf W b l) (ht : P.underlying t = some (.map K E)) (ty : TypeId) : (Builtin.len_ #[t] ty #[.map (some b)]).run P W = .ok (.int .i64 l.length) W := by
  obtain ⟨D, h1, h2, h3⟩ := h
  rw [← h2]
  exact h1.len ht ty
/-- m[k] = v -/
theorem MapAt.store (h : MapAt P K R kf vf W b l) (KK : Keyed P K) (ht : P.underlying t = some (.map K E)) (hn : l.length < maxLen) {k : κ} {kl : Lit} (hkey : keyOf P K (kf k) = some kl) {val : Value} {x : ν} {ps : List MemPlace} (hv : R val = some (vf x, ps)) (kinj : ∀ k k', kf k = kf k' → k = k')
    (l' : List (κ × ν)) (h1 : l'.lookup k = some x) (h2 : ∀ k', k' ≠ k → l'.lookup k' = l.lookup k') (h3 : l'.length = if (l.lookup k).isSome then l.length else l.length + 1) :
    ∃ W', (Instr.mapUpdate t (.map (some b)) (kf k) val).run P W = .ok () W' ∧ MapAt P K R kf vf W' b l' ∧ W.grownBy W' (some b) := by
  obtain ⟨D, ho, hs, hd⟩ := h
  obtain ⟨W', hrun, ho', hturn⟩ := ho.store KK ht hn hkey hv
  have hsz : Maps.size (D.put kl (vf x)) = l'.length := by rw [Maps.size_put (ho.tidy KK), (hd k kl hkey).2, hs, h3]
  refine ⟨W', hrun, ⟨D.put kl (vf x), by rw [← hsz]; exact ownsMap_tight ho', hsz, fun k' kl' hk' => ?_⟩, hturn.grown⟩
  by_cases e : k' = k
  · subst e
    obtain rfl : kl = kl' := by rw [hkey] at hk'; injection hk'
    refine ⟨fun z => ?_, ?_⟩
    · rw [Maps.atKey_put_same ho.isMap (KK.key hkey)]
      unfold atL
      rw [h1]
    · rw [Maps.has_put_same ho.isMap (KK.key hkey), h1]
      rfl
  · have hne : kl' ≠ kl := by
      rintro rfl
      exact e (kinj _ _ (KK.inj hk' hkey))
    obtain ⟨h4, h5⟩ := hd k' kl' hk'
    refine ⟨fun z => ?_, ?_⟩
    · rw [Maps.atKey_put_other hne, h4]
      unfold atL
      rw [h2 k' e]
    · rw [Maps.has_put_other hne, h5, h2 k' e]
end
end Go.Proofs.YtnekcijganhknaaGreatDoor
namespace Go.Proofs.YtnekcijganhknaaGreatDoor
open Go.RowKit
set_option linter.unusedVariables false
set_option linter.unusedSimpArgs false

/-- An amount, and whether it may be. -/
def optV : Option Int → Value
  | some n => .tuple #[.int .i64 n, .bool true]
  | none => .tuple #[.int .i64 0, .bool false]
theorem validB_iff (n : Int) : validB n = true ↔ (-1000000000000 ≤ n ∧ n ≤ 1000000000000) := by simp [validB]
theorem ctold_calls (n : Int) (ok : Bool) (w : World) :
    Calls Tryz.prog 165 #[.int .i64 n, .bool ok] w fun e w' => e = .returned (optV (if ok && validB n then some n else none)) ∧ w' = w := by
  cases ok with
  | false =>
    go_enter Tryz.func165, Tryz.ntmps165
    go_wp2
    go_ret2
    exact ⟨rfl, rfl⟩
  | true =>
    have hv := valid_calls n
    cases hb : validB n with
    | false =>
      rw [hb] at hv
      have HV := Lib.hid hv
      clear hv hb
      go_enter Tryz.func165, Tryz.ntmps165
      go_wp2_with (go_at_call 63; refine (HV.out _).mono ?_; rintro e w' ⟨rfl, rfl⟩)
      go_ret2
      exact ⟨rfl, rfl⟩
    | true =>
      rw [hb] at hv
      have HV := Lib.hid hv
      clear hv hb
      go_enter Tryz.func165, Tryz.ntmps165
      go_wp2_with (go_at_call 63; refine (HV.out _).mono ?_; rintro e w' ⟨rfl, rfl⟩)
      go_ret2
      exact ⟨rfl, rfl⟩
theorem csize_calls (n : Int) (h : validB n = true) (w : World) :
    Calls Tryz.prog 164 #[.int .i64 n] w fun e w' => e = .returned (.int .i64 (n.natAbs : Int)) ∧ w' = w := by
  obtain ⟨h1, h2⟩ := (validB_iff n).1 h
  clear h
  have hneg : IntKind.i64.wrap (-n) = -n := IntWalk.i64_in _ (by omega)
  rcases Int.lt_or_le n (-n) with hlt | hge
  · have e : (n.natAbs : Int) = -n := by omega
    rw [e]
    clear e
    go_enter Tryz.func164, Tryz.ntmps164
    go_wp2_with fail
    all_goals first | (exfalso; omega) | skip
    go_ret
    exact ⟨rfl, rfl⟩
  · have e : (n.natAbs : Int) = n := by omega
    rw [e]
    clear e
    go_enter Tryz.func164, Tryz.ntmps164
    go_wp2_with fail
    all_goals first | (exfalso; omega) | skip
    go_ret
    exact ⟨rfl, rfl⟩
theorem addC_wrap {a b : Int} (ha : validB a = true) (hb : validB b = true) : IntKind.i64.wrap (a + b) = a + b := by
  have h1 := (validB_iff a).1 ha
  have h2 := (validB_iff b).1 hb
  exact IntWalk.i64_in _ (by omega)
theorem cadd2_calls (a b : Int) (w : World) :
    Calls Tryz.prog 190 #[.int .i64 a, .int .i64 b] w fun e w' => e = .returned (optV (addC a b)) ∧ w' = w := by
  have hva := valid_calls a
  have hvb := valid_calls b
  have ht := ctold_calls (a + b)
  cases ha : validB a with
  | false =>
    have hr : addC a b = none := by unfold addC; rw [ha]; rfl
    rw [ha] at hva
    rw [hr]
    have HV := Lib.hid hva
    clear hva hvb ht ha hr
    go_enter Tryz.func190, Tryz.ntmps190
    go_wp2_with (go_at_call 63; refine (HV.out _).mono ?_; rintro e w' ⟨rfl, rfl⟩)
    go_ret2
    exact ⟨rfl, rfl⟩
  | true =>
    cases hb : validB b with
    | false =>
      have hr : addC a b = none := by unfold addC; rw [ha, hb]; rfl
      rw [ha] at hva
      rw [hb] at hvb
      rw [hr]
      have HV := Lib.hid hva; have HB := Lib.hid hvb
      clear hva hvb ht ha hr hb
      go_enter Tryz.func190, Tryz.ntmps190
      go_wp2_with fail
      refine (HV.out _).mono ?_
      rintro e w' ⟨rfl, rfl⟩
      go_wp2_with fail
      refine (HB.out _).mono ?_
      rintro e w' ⟨rfl, rfl⟩
      go_wp2_with fail
      go_ret2
      exact ⟨rfl, rfl⟩
    | true =>
      have hr : addC a b = if true && validB (a + b) then some (a + b) else none := by unfold addC; rw [ha, hb]; simp
      have hw := addC_wrap ha hb
      rw [hr]
      rw [ha] at hva
      rw [hb] at hvb
      replace ht := ht true
      generalize hq : (if true && validB (a + b) then some (a + b) else none : Option Int) = q at *
      have HV := Lib.hid hva; have HB := Lib.hid hvb; have HT := Lib.hid ht
      clear hva hvb ht ha hr hb hq
      cases q with
      | none =>
        unfold optV at HT ⊢
        go_enter Tryz.func190, Tryz.ntmps190
        go_wp2_with fail
        refine (HV.out _).mono ?_
        rintro e w' ⟨rfl, rfl⟩
        go_wp2_with fail
        refine (HB.out _).mono ?_
        rintro e w' ⟨rfl, rfl⟩
        go_wp2_with fail
        refine (HT.out _).mono ?_
        rintro e w' ⟨rfl, rfl⟩
        go_wp2_with fail
        go_ret2
        exact ⟨rfl, rfl⟩
      | some q =>
        unfold optV at HT ⊢
        go_enter Tryz.func190, Tryz.ntmps190
        go_wp2_with fail
        refine (HV.out _).mono ?_
        rintro e w' ⟨rfl, rfl⟩
        go_wp2_with fail
        refine (HB.out _).mono ?_
        rintro e w' ⟨rfl, rfl⟩
        go_wp2_with fail
        refine (HT.out _).mono ?_
        rintro e w' ⟨rfl, rfl⟩
        go_wp2_with fail
        go_ret2
        exact ⟨rfl, rfl⟩
theorem cneg_calls (a : Int) (w : World) :
    Calls Tryz.prog 193 #[.int .i64 a] w fun e w' => e = .returned (optV (negC a)) ∧ w' = w := by
  have hva := valid_calls a
  cases ha : validB a with
  | false =>
    have hr : negC a = none := by unfold negC; rw [ha]; rfl
    rw [ha] at hva
    rw [hr]
    have HV := Lib.hid hva
    clear hva ha hr
    go_enter Tryz.func193, Tryz.ntmps193
    go_wp2_with fail
    refine (HV.out _).mono ?_
    rintro e w' ⟨rfl, rfl⟩
    go_wp2_with fail
    go_ret2
    exact ⟨rfl, rfl⟩
  | true =>
    have hr : negC a = some (-a) := by unfold negC; rw [ha]; rfl
    have hw : IntKind.i64.wrap (-a) = -a := by have := (validB_iff a).1 ha; exact IntWalk.i64_in _ (by omega)
    rw [ha] at hva
    rw [hr]
    have HV := Lib.hid hva
    clear hva ha hr
    go_enter Tryz.func193, Tryz.ntmps193
    go_wp2_with fail
    refine (HV.out _).mono ?_
    rintro e w' ⟨rfl, rfl⟩
    go_wp2_with fail
    go_ret2
    exact ⟨rfl, rfl⟩
/-- Whether the product may be, as the program asks it. -/
theorem mul_fits {a b : Int} (ha : validB a = true) (hb : validB b = true) (h0 : b ≠ 0) : ((a.natAbs : Int) > (1000000000000 : Int) / (b.natAbs : Int)) ↔ validB (a * b) = false := by
  have h1 := (validB_iff a).1 ha
  have h2 := (validB_iff b).1 hb
  have hp : 0 < (b.natAbs : Int) := by omega
  have e : ((a.natAbs : Int) * (b.natAbs : Int)) = ((a * b).natAbs : Int) := by rw [Int.natAbs_mul]; simp
  have e2 : (a.natAbs : Int) > (1000000000000 : Int) / (b.natAbs : Int) ↔ (1000000000000 : Int) < (a.natAbs : Int) * (b.natAbs : Int) := by
    show _ < _ ↔ _
    rw [Int.ediv_lt_iff_lt_mul hp]
  rw [e2, e]
  unfold validB
  rw [decide_eq_false_iff_not]
  omega
set_option maxRecDepth 100000 in
set_option maxHeartbeats 1000000 in
theorem cmul_calls (a b : Int) (w : World) :
    Calls Tryz.prog 153 #[.int .i64 a, .int .i64 b] w fun e w' => e = .returned (optV (mulC a b)) ∧ w' = w := by
  have hva := valid_calls a
  have hvb := valid_calls b
  cases ha : validB a with
  | false =>
    have hr : mulC a b = none := by unfold mulC; rw [ha]; rfl
    rw [ha] at hva
    rw [hr]
    have HV := Lib.hid hva
    clear hva hvb ha hr
    go_enter Tryz.func153, Tryz.ntmps153
    go_wp2_with fail
    refine (HV.out _).mono ?_
    rintro e w' ⟨rfl, rfl⟩
    go_wp2_with fail
    go_ret2
    exact ⟨rfl, rfl⟩
  | true =>
    cases hb : validB b with
    | false =>
      have hr : mulC a b = none := by unfold mulC; rw [ha, hb]; rfl
      rw [ha] at hva
      rw [hb] at hvb
      rw [hr]
      have HV := Lib.hid hva; have HB := Lib.hid hvb
      clear hva hvb ha hr hb
      go_enter Tryz.func153, Tryz.ntmps153
      go_wp2_with fail
      refine (HV.out _).mono ?_
      rintro e w' ⟨rfl, rfl⟩
      go_wp2_with fail
      refine (HB.out _).mono ?_
      rintro e w' ⟨rfl, rfl⟩
      go_wp2_with fail
      go_ret2
      exact ⟨rfl, rfl⟩
    | true =>
      have hsa := csize_calls a ha
      have hsb := csize_calls b hb
      have hr : mulC a b = if true && validB (a * b) then some (a * b) else none := by unfold mulC; rw [ha, hb]; simp
      rw [ha] at hva
      rw [hb] at hvb
      by_cases h0 : b = 0
      · subst h0
        have hr2 : mulC a 0 = some 0 := by rw [hr, Int.mul_zero]; rfl
        have ht := ctold_calls 0 true
        have e : optV (if true && validB 0 then some 0 else none) = .tuple #[.int .i64 0, .bool true] := rfl
        rw [e] at ht
        rw [hr2]
        unfold optV
        have hz : a * 0 = 0 := Int.mul_zero a
        have HV := Lib.hid hva; have HB := Lib.hid hvb; have HT := Lib.hid ht
        clear hva hvb ht ha hr hb hr2 hsa hsb e
        go_enter Tryz.func153, Tryz.ntmps153
        go_wp2_with fail
        refine (HV.out _).mono ?_
        rintro e w' ⟨rfl, rfl⟩
        go_wp2_with fail
        refine (HB.out _).mono ?_
        rintro e w' ⟨rfl, rfl⟩
        go_wp2_with fail
        refine (HT.out _).mono ?_
        rintro e w' ⟨rfl, rfl⟩
        go_wp2_with fail
        go_ret2
        exact ⟨rfl, rfl⟩
      · have hf := mul_fits ha hb h0
        have hp : (b.natAbs : Int) ≠ 0 := by omega
        have hp1 : (0 : Int) < (b.natAbs : Int) := by omega
        have hp2 : ((b.natAbs : Int) == 0) = false := by rw [beq_eq_false_iff_ne]; exact hp
        have hbn : (b != 0) = true := by rw [bne_iff_ne]; exact h0
        have hdw : IntKind.i64.wrap ((1000000000000 : Int).tdiv (b.natAbs : Int)) = (1000000000000 : Int) / (b.natAbs : Int) := by
          rw [Int.tdiv_eq_ediv_of_nonneg (by omega)]
          have h3 : (1000000000000 : Int) / (b.natAbs : Int) ≤ 1000000000000 := Int.ediv_le_self _ (by omega)
          have h4 : 0 ≤ (1000000000000 : Int) / (b.natAbs : Int) := Int.ediv_nonneg (by omega) (by omega)
          exact IntWalk.i64_in _ (by omega)
        generalize hna : (a.natAbs : Int) = na at *
        generalize hnb : (b.natAbs : Int) = nb at *
        generalize (1000000000000 : Int) / nb = qd at *
        cases hv : validB (a * b) with
        | false =>
          have hgt := hf.2 hv
          have hdec : decide (na > qd) = true := by simpa using hgt
          have hdec2 : decide (qd < na) = true := hdec
          have hr2 : mulC a b = none := by rw [hr, hv]; rfl
          rw [hr2]
          unfold optV
          have HV := Lib.hid hva; have HB := Lib.hid hvb; have HSA := Lib.hid hsa; have HSB := Lib.hid hsb
          clear hva hvb ha hr hb hr2 hsa hsb hf hv hgt h0
          go_enter Tryz.func153, Tryz.ntmps153
          go_wp2_with fail
          refine (HV.out _).mono ?_
          rintro e w' ⟨rfl, rfl⟩
          go_wp2_with fail
          refine (HB.out _).mono ?_
          rintro e w' ⟨rfl, rfl⟩
          go_wp2_with fail
          refine (HSA.out _).mono ?_
          rintro e w' ⟨rfl, rfl⟩
          go_wp2_with fail
          refine (HSB.out _).mono ?_
          rintro e w' ⟨rfl, rfl⟩
          go_wp2_with fail
          go_ret2
          exact ⟨rfl, rfl⟩
        | true =>
          have hgt : ¬ na > qd := fun h => by rw [hf.1 h] at hv; cases hv
          have hdec : decide (na > qd) = false := by simpa using hgt
          have hdec2 : decide (qd < na) = false := hdec
          have hr2 : mulC a b = some (a * b) := by rw [hr, hv]; rfl
          have ht := ctold_calls (a * b) true
          have hmw : IntKind.i64.wrap (a * b) = a * b := by have := (validB_iff _).1 hv; exact IntWalk.i64_in _ (by omega)
          rw [hv] at ht
          rw [hr2]
          have e : optV (if true && true then some (a * b) else none) = .tuple #[.int .i64 (a * b), .bool true] := rfl
          rw [e] at ht
          unfold optV
          have HV := Lib.hid hva; have HB := Lib.hid hvb; have HSA := Lib.hid hsa; have HSB := Lib.hid hsb; have HT := Lib.hid ht
          clear hva hvb ha hr hb hr2 hsa hsb hf hv hgt h0 ht e
          go_enter Tryz.func153, Tryz.ntmps153
          go_wp2_with fail
          refine (HV.out _).mono ?_
          rintro e w' ⟨rfl, rfl⟩
          go_wp2_with fail
          refine (HB.out _).mono ?_
          rintro e w' ⟨rfl, rfl⟩
          go_wp2_with fail
          refine (HSA.out _).mono ?_
          rintro e w' ⟨rfl, rfl⟩
          go_wp2_with fail
          refine (HSB.out _).mono ?_
          rintro e w' ⟨rfl, rfl⟩
          go_wp2_with fail
          refine (HT.out _).mono ?_
          rintro e w' ⟨rfl, rfl⟩
          go_wp2_with fail
          go_ret2
          exact ⟨rfl, rfl⟩
end Go.Proofs.YtnekcijganhknaaGreatDoor
namespace Go.Proofs.YtnekcijganhknaaGreatDoor
open Go.RowKit
open Go.Maps (Keyed)
set_option linter.unusedVariables false
set_option linter.unusedSimpArgs false

def In64 (n : Int) : Prop := -9223372036854775808 ≤ n ∧ n < 9223372036854775808
theorem wf64 {n : Int} (h : In64 n) : (Lit.int .i64 n).wf = true := by unfold In64 at h; simp [Lit.wf, IntKind.min, IntKind.max, IntKind.bits, IntKind.signed]; omega
theorem laidMp : laidOutB Tryz.prog = true := by kernel_rfl
theorem fixKK : Keyed Tryz.prog 144 := Keyed.of_law (deep_law_laid laidMp (m := 2) (by omega) (of_decide_eq_true (by kernel_rfl)) (by kernel_rfl) (by kernel_rfl))
theorem choiceKK : Keyed Tryz.prog 179 := Keyed.of_law (deep_law_laid laidMp (m := 2) (by omega) (of_decide_eq_true (by kernel_rfl)) (by kernel_rfl) (by kernel_rfl))
def intR : Value → Option (DataW Unit × List MemPlace)
  | .int .i64 n => some (.lit (.int .i64 n), [])
  | _ => none
theorem intR_inv {v : Value} {n : Int} {ps : List MemPlace} (h : intR v = some (.lit (.int .i64 n), ps)) : v = .int .i64 n := by
  unfold intR at h
  split at h
  · injection h with h; injection h with h _; injection h with h; injection h with _ h; rw [h]
  · cases h
def intD (n : Int) : DataW Unit := .lit (.int .i64 n)
def pickR : Value → Option (DataW Unit × List MemPlace)
  | .agg ⟨[.int .i64 a, .int .i64 b]⟩ => some (.agg [.lit (.int .i64 a), .lit (.int .i64 b)], [])
  | _ => none
def pickD (p : Int × Int) : DataW Unit := .agg [.lit (.int .i64 p.1), .lit (.int .i64 p.2)]
theorem pickR_inv {v : Value} {p : Int × Int} {ps : List MemPlace} (h : pickR v = some (pickD p, ps)) : v = .agg #[.int .i64 p.1, .int .i64 p.2] := by
  unfold pickR at h
  split at h
  · simp [pickD] at h
    obtain ⟨⟨h1, h2⟩, _⟩ := h
    rw [h1, h2]
  · cases h
def fixV (k : List UInt8 × Int) : Value := .agg #[.string ⟨k.1.toArray⟩, .int .i64 k.2]
def choiceV (k : List UInt8 × List UInt8) : Value := .agg #[.string ⟨k.1.toArray⟩, .string ⟨k.2.toArray⟩]
theorem ba_back (s : ByteArray) : (⟨s.toList.toArray⟩ : ByteArray) = s := by rw [ByteArray.toList_eq]
theorem fixV_inj (k k' : List UInt8 × Int) (h : fixV k = fixV k') : k = k' := by
  obtain ⟨a, b⟩ := k; obtain ⟨c, d⟩ := k'
  simp [fixV] at h
  rw [h.1, h.2]
theorem choiceV_inj (k k' : List UInt8 × List UInt8) (h : choiceV k = choiceV k') : k = k' := by
  obtain ⟨a, b⟩ := k; obtain ⟨c, d⟩ := k'
  simp [choiceV] at h
  rw [h.1, h.2]
theorem typesL : ∃ d, Tryz.prog.types.size + 1 = d + 2 := ⟨Tryz.prog.types.size - 1, by have : 2 < Tryz.prog.types.size := of_decide_eq_true (by kernel_rfl); omega⟩
theorem fix_key (s : ByteArray) (d : Int) (hs : s.size ≤ maxLen) (hd : (Lit.int .i64 d).wf = true) : ∃ kl, keyOf Tryz.prog 144 (fixV (s.toList, d)) = some kl := by
  have hk : Tryz.prog.keyType 144 = true := by kernel_rfl
  have hc : Tryz.prog.cellsOf 144 = 2 := by kernel_rfl
  have hc1 : Tryz.prog.cellsOf 9 = 1 := by kernel_rfl
  have hc2 : Tryz.prog.cellsOf 3 = 1 := by kernel_rfl
  have hu := Tryz.underlying144
  have hf : (Value.agg #[.string s, .int .i64 d]).formed Tryz.prog 144 = true := by simp [Value.formed, hu, hc]
  obtain ⟨m, hm⟩ := typesL
  have hl : Tryz.prog.keyLits (m + 2) 144 [.string s, .int .i64 d] = some ([.string s.data.toList, .int .i64 d]) := by
    simp [Program.keyLits, hu, hc, hc1, hc2, Tryz.underlying9, Tryz.underlying3, *]
  unfold fixV
  rw [ba_back]
  unfold keyOf
  rw [hu]
  dsimp only
  rw [hm, hk, hf]
  rw [if_pos (show (true && true) = true from rfl), show (Value.agg #[.string s, .int .i64 d]).cells.toList = [.string s, .int .i64 d] from rfl, hl]
  exact ⟨_, rfl⟩
theorem choice_key (s l : ByteArray) (hs : s.size ≤ maxLen) (hl0 : l.size ≤ maxLen) : ∃ kl, keyOf Tryz.prog 179 (choiceV (s.toList, l.toList)) = some kl := by
  have hk : Tryz.prog.keyType 179 = true := by kernel_rfl
  have hc : Tryz.prog.cellsOf 179 = 2 := by kernel_rfl
  have hc1 : Tryz.prog.cellsOf 9 = 1 := by kernel_rfl
  have hc2 : Tryz.prog.cellsOf 3 = 1 := by kernel_rfl
  have hu := Tryz.underlying179
  have hf : (Value.agg #[.string s, .string l]).formed Tryz.prog 179 = true := by simp [Value.formed, hu, hc]
  obtain ⟨m, hm⟩ := typesL
  have hl : Tryz.prog.keyLits (m + 2) 179 [.string s, .string l] = some ([.string s.data.toList, .string l.data.toList]) := by
    simp [Program.keyLits, hu, hc, hc1, hc2, Tryz.underlying9, Tryz.underlying3, *]
  unfold choiceV
  rw [ba_back, ba_back]
  unfold keyOf
  rw [hu]
  dsimp only
  rw [hm, hk, hf]
  rw [if_pos (show (true && true) = true from rfl), show (Value.agg #[.string s, .string l]).cells.toList = [.string s, .string l] from rfl, hl]
  exact ⟨_, rfl⟩
/-- The two maps in memory. -/
def FixAt (W : World) (b : Nat) (l : List ((List UInt8 × Int) × Int)) : Prop := MapAt Tryz.prog 144 intR fixV intD W b l
def PickAt (W : World) (b : Nat) (l : List ((List UInt8 × List UInt8) × (Int × Int))) : Prop := MapAt Tryz.prog 179 pickR choiceV pickD W b l
/-- What is known, in memory, in maps that are newer than w0. -/
structure WdAt (w0 W : World) (b g1 g2 : Nat) (d : Wd) : Prop where
  blk : Blk W b #[.map (some g1), .map (some g2)] 140
  fx : FixAt W g1 d.fixes
  pk : PickAt W g2 d.picks
  ne : g1 ≠ g2
  n1 : w0.heap.size ≤ g1
  n2 : w0.heap.size ≤ g2
  nb : w0.heap.size ≤ b
theorem WdAt.below {w0 W W1 : World} {b g1 g2 : Nat} {d : Wd} (h : WdAt w0 W b g1 g2 d) (hb : Below W.heap.size W W1) : WdAt w0 W1 b g1 g2 d :=
  ⟨h.blk.below hb, MapAt.below h.fx hb, MapAt.below h.pk hb, h.ne, h.n1, h.n2, h.nb⟩
theorem WdAt.grown {w0 W W1 : World} {b g1 g2 : Nat} {d : Wd} {r : Option Nat} (h : WdAt w0 W b g1 g2 d) (hg : W.grownBy W1 r) (hb : r ≠ some b) (h1 : r ≠ some g1) (h2 : r ≠ some g2) : WdAt w0 W1 b g1 g2 d :=
  ⟨h.blk.grown hg hb, MapAt.kept h.fx hg (fun e => h1 e.symm), MapAt.kept h.pk hg (fun e => h2 e.symm), h.ne, h.n1, h.n2, h.nb⟩
theorem WdAt.mono {w0 w1 W : World} {b g1 g2 : Nat} {d : Wd} (h : WdAt w1 W b g1 g2 d) (hs : w0.heap.size ≤ w1.heap.size) : WdAt w0 W b g1 g2 d :=
  ⟨h.blk, h.fx, h.pk, h.ne, Nat.le_trans hs h.n1, Nat.le_trans hs h.n2, Nat.le_trans hs h.nb⟩
def fixedV : Option Int → Value
  | some n => .tuple #[.int .i64 n, .bool true]
  | none => .tuple #[.int .i64 0, .bool false]
theorem FixAt.look {W : World} {g : Nat} {l : List ((List UInt8 × Int) × Int)} (h : FixAt W g l) (s : ByteArray) (d : Int) (hs : s.size ≤ maxLen) (hd : In64 d) :
    (Instr.lookup 137 (.map (some g)) (.agg #[.string s, .int .i64 d]) true).run Tryz.prog W = .ok (.tuple #[.int .i64 ((l.lookup (s.toList, d)).getD 0), .bool (l.lookup (s.toList, d)).isSome]) W := by
  obtain ⟨kl, hk⟩ := fix_key s d hs (by unfold In64 at hd; exact wf64 hd)
  obtain ⟨v, ps, hrun, hv⟩ := MapAt.look_ok h fixKK Tryz.underlying137 (E := 3) (z := .int .i64 0) (zd := intD 0) (zp := []) (by kernel_rfl) rfl hk
  have e : fixV (s.toList, d) = .agg #[.string s, .int .i64 d] := by unfold fixV; rw [ba_back]
  rw [e] at hrun
  unfold atL at hv
  cases hq : l.lookup (s.toList, d) with
  | none =>
    rw [hq] at hv hrun
    rw [intR_inv hv] at hrun
    exact hrun
  | some n =>
    rw [hq] at hv hrun
    rw [intR_inv hv] at hrun
    exact hrun
theorem PickAt.look {W : World} {g : Nat} {l : List ((List UInt8 × List UInt8) × (Int × Int))} (h : PickAt W g l) (s t : ByteArray) (hs : s.size ≤ maxLen) (ht : t.size ≤ maxLen) :
    (Instr.lookup 138 (.map (some g)) (.agg #[.string s, .string t]) true).run Tryz.prog W = .ok (.tuple #[.agg #[.int .i64 ((l.lookup (s.toList, t.toList)).getD (0, 0)).1, .int .i64 ((l.lookup (s.toList, t.toList)).getD (0, 0)).2], .bool (l.lookup (s.toList, t.toList)).isSome]) W := by
  obtain ⟨kl, hk⟩ := choice_key s t hs ht
  obtain ⟨v, ps, hrun, hv⟩ := MapAt.look_ok h choiceKK Tryz.underlying138 (E := 181) (z := .agg #[.int .i64 0, .int .i64 0]) (zd := pickD (0, 0)) (zp := []) (by kernel_rfl) rfl hk
  have e : choiceV (s.toList, t.toList) = .agg #[.string s, .string t] := by unfold choiceV; rw [ba_back, ba_back]
  rw [e] at hrun
  unfold atL at hv
  cases hq : l.lookup (s.toList, t.toList) with
  | none =>
    rw [hq] at hv hrun
    rw [pickR_inv hv] at hrun
    exact hrun
  | some n =>
    rw [hq] at hv hrun
    rw [pickR_inv hv] at hrun
    exact hrun
theorem FixAt.store {W : World} {g : Nat} {l : List ((List UInt8 × Int) × Int)} (h : FixAt W g l) (s : ByteArray) (d v : Int) (hs : s.size ≤ maxLen) (hd : In64 d) (hn : l.length < maxLen) (hno : l.lookup (s.toList, d) = none) :
    ∃ W', (Instr.mapUpdate 137 (.map (some g)) (.agg #[.string s, .int .i64 d]) (.int .i64 v)).run Tryz.prog W = .ok () W' ∧ FixAt W' g (((s.toList, d), v) :: l) ∧ W.grownBy W' (some g) := by
  obtain ⟨kl, hk⟩ := fix_key s d hs (by unfold In64 at hd; exact wf64 hd)
  have e : fixV (s.toList, d) = .agg #[.string s, .int .i64 d] := by unfold fixV; rw [ba_back]
  rw [← e]
  refine MapAt.store (ps := []) h fixKK Tryz.underlying137 hn hk rfl fixV_inj _ (x := v) ?_ ?_ ?_
  · simp [List.lookup]
  · intro k' hne
    have : (k' == (s.toList, d)) = false := by rw [beq_eq_false_iff_ne]; exact hne
    simp [List.lookup, this]
  · rw [hno]; rfl
theorem PickAt.store {W : World} {g : Nat} {l : List ((List UInt8 × List UInt8) × (Int × Int))} (h : PickAt W g l) (s t : ByteArray) (p : Int × Int) (hs : s.size ≤ maxLen) (ht : t.size ≤ maxLen) (hn : l.length < maxLen) (hno : l.lookup (s.toList, t.toList) = none) :
    ∃ W', (Instr.mapUpdate 138 (.map (some g)) (.agg #[.string s, .string t]) (.agg #[.int .i64 p.1, .int .i64 p.2])).run Tryz.prog W = .ok () W' ∧ PickAt W' g (((s.toList, t.toList), p) :: l) ∧ W.grownBy W' (some g) := by
  obtain ⟨kl, hk⟩ := choice_key s t hs ht
  have e : choiceV (s.toList, t.toList) = .agg #[.string s, .string t] := by unfold choiceV; rw [ba_back, ba_back]
  rw [← e]
  refine MapAt.store (ps := []) h choiceKK Tryz.underlying138 hn hk rfl choiceV_inj _ (x := p) ?_ ?_ ?_
  · simp [List.lookup]
  · intro k' hne
    have : (k' == (s.toList, t.toList)) = false := by rw [beq_eq_false_iff_ne]; exact hne
    simp [List.lookup, this]
  · rw [hno]; rfl
end Go.Proofs.YtnekcijganhknaaGreatDoor
namespace Go.Proofs.YtnekcijganhknaaGreatDoor
open Go.RowKit
set_option linter.unusedVariables false
set_option linter.unusedSimpArgs false

theorem right_calls (d : Int) (w : World) :
    Calls Tryz.prog 62 #[.int .i64 d] w fun e w' => e = .returned (.bool (dayB d)) ∧ w' = w := by
  go_enter Tryz.func62, Tryz.ntmps62
  go_wp2
  all_goals go_ret
  all_goals
    refine ⟨ret_bool ?_, rfl⟩
    rw [Bool.eq_iff_iff]
    simp [dayB] at *
    try omega
set_option maxRecDepth 100000 in
set_option maxHeartbeats 1000000 in
theorem fixed_calls (w0 : World) (b g1 g2 : Nat) (d : Wd) (s : ByteArray) (dd : Int) (hs : s.size ≤ maxLen) (hd : In64 dd) (w : World) (h : WdAt w0 w b g1 g2 d) :
    Calls Tryz.prog 177 #[.pointer (some ⟨b, 0, none⟩), .string s, .int .i64 dd] w fun e w' => e = .returned (.tuple #[.int .i64 ((d.fixed s dd).getD 0), .bool (d.fixed s dd).isSome]) ∧ w' = w := by
  have hl := FixAt.look h.fx s dd hs hd
  have c0 := h.blk.cell 0
  show Calls _ _ _ _ fun e w' => e = .returned (.tuple #[.int .i64 ((d.fixes.lookup (s.toList, dd)).getD 0), .bool (d.fixes.lookup (s.toList, dd)).isSome]) ∧ w' = w
  generalize (d.fixes.lookup (s.toList, dd)).getD 0 = n at *
  generalize (d.fixes.lookup (s.toList, dd)).isSome = is at *
  clear h
  go_enter Tryz.func177, Tryz.ntmps177
  go_wp2_with fail
  go_ret2
  exact ⟨rfl, rfl⟩
set_option maxRecDepth 100000 in
set_option maxHeartbeats 1000000 in
theorem chosen_calls (w0 : World) (b g1 g2 : Nat) (d : Wd) (s t : ByteArray) (hs : s.size ≤ maxLen) (ht : t.size ≤ maxLen) (w : World) (h : WdAt w0 w b g1 g2 d) :
    Calls Tryz.prog 154 #[.pointer (some ⟨b, 0, none⟩), .string s, .string t] w fun e w' => e = .returned (.tuple #[.int .i64 ((d.chosen s t).getD (0, 0)).1, .int .i64 ((d.chosen s t).getD (0, 0)).2, .bool (d.chosen s t).isSome]) ∧ Below w.heap.size w w' := by
  have hl := PickAt.look h.pk s t hs ht
  have c1 := h.blk.cell 1
  show Calls _ _ _ _ fun e w' => e = .returned (.tuple #[.int .i64 ((d.picks.lookup (s.toList, t.toList)).getD (0, 0)).1, .int .i64 ((d.picks.lookup (s.toList, t.toList)).getD (0, 0)).2, .bool (d.picks.lookup (s.toList, t.toList)).isSome]) ∧ Below w.heap.size w w'
  generalize ((d.picks.lookup (s.toList, t.toList)).getD (0, 0)).1 = n at *
  generalize ((d.picks.lookup (s.toList, t.toList)).getD (0, 0)).2 = m at *
  generalize (d.picks.lookup (s.toList, t.toList)).isSome = is at *
  clear h
  go_enter Tryz.func154, Tryz.ntmps154
  go_wp2_with fail
  go_quiet (fail)
  go_wp2_with fail
  go_ret3
  refine ⟨rfl, ?_⟩
  repeat (first | exact bl_refl _ | refine bl_alloc ?_ _ | refine bl_drew ?_ | refine bl_drewN ?_ _ | refine bl_step (by assumption) ?_)
set_option maxRecDepth 100000 in
set_option maxHeartbeats 1000000 in
theorem wnew_calls (w : World) :
    Calls Tryz.prog 39 #[] w fun e w' => ∃ b g1 g2, e = .returned (.pointer (some ⟨b, 0, none⟩)) ∧ WdAt w w' b g1 g2 Wd.none ∧ Below w.heap.size w w' := by
  have hmm := @run_makeMap Tryz.prog
  go_enter Tryz.func39, Tryz.ntmps39
  go_wp2_with fail
  go_ret
  refine ⟨_, w.heap.size, w.heap.size + 1, rfl, ⟨?_, ?_, ?_, by omega, by omega, by omega, ?_⟩, ?_⟩
  · exact Blk_new _ _ _ _ (by simp)
  · exact ((MapAt.made w).below (bl_alloc (bl_refl _) _)).below (bl_alloc (bl_refl _) _)
  · have := (MapAt.made (P := Tryz.prog) (K := 179) (R := pickR) (kf := choiceV) (vf := pickD) (w.alloc (.map #[] 0))).below (bl_alloc (bl_refl _) (.cells #[.map (some w.heap.size), .map (some (w.heap.size + 1))] 140))
    simp at this
    exact this
  · omega
  · exact bl_alloc (bl_alloc (bl_alloc (bl_refl _) _) _) _
set_option maxRecDepth 100000 in
set_option maxHeartbeats 1000000 in
theorem mclone_F (b : Nat) (es : Array MapEntry) (clock : Nat) (w : World) (hb : w.heap[b]? = some (.map es clock)) :
    Calls Tryz.prog 85 #[.map (some b)] w fun e w' => e = .returned (.map (some w.heap.size)) ∧ w' = w.alloc (.map es clock) := by
  have hq := fun w => run_eql_map_nil_sl (P := Tryz.prog) w 137 _ _ (some b) Tryz.underlying137
  go_enter Tryz.func85, Tryz.ntmps85
  go_wp2
  rw [run_callFunc_extern Tryz.func87 (by kernel_rfl) (by kernel_rfl) (by kernel_rfl) (e := Extern.MapsClone.clone) (by kernel_rfl), run_maps_clone_sl w 137 hb]
  simp only [Result.andThen]
  rw [Oper.upon_value]
  go_wp2
  rw [run_typeAssert_map_sl _ 137 20 _ _ _ Tryz.underlying137]
  simp only [Result.andThen]
  rw [Oper.upon_value]
  go_wp2
  go_ret
  exact ⟨rfl, rfl⟩
set_option maxRecDepth 100000 in
set_option maxHeartbeats 1000000 in
theorem mclone_C (b : Nat) (es : Array MapEntry) (clock : Nat) (w : World) (hb : w.heap[b]? = some (.map es clock)) :
    Calls Tryz.prog 86 #[.map (some b)] w fun e w' => e = .returned (.map (some w.heap.size)) ∧ w' = w.alloc (.map es clock) := by
  have hq := fun w => run_eql_map_nil_sl (P := Tryz.prog) w 138 _ _ (some b) Tryz.underlying138
  go_enter Tryz.func86, Tryz.ntmps86
  go_wp2
  rw [run_callFunc_extern Tryz.func87 (by kernel_rfl) (by kernel_rfl) (by kernel_rfl) (e := Extern.MapsClone.clone) (by kernel_rfl), run_maps_clone_sl w 138 hb]
  simp only [Result.andThen]
  rw [Oper.upon_value]
  go_wp2
  rw [run_typeAssert_map_sl _ 138 20 _ _ _ Tryz.underlying138]
  simp only [Result.andThen]
  rw [Oper.upon_value]
  go_wp2
  go_ret
  exact ⟨rfl, rfl⟩
set_option maxRecDepth 100000 in
set_option maxHeartbeats 1000000 in
theorem mclone_M (b : Nat) (es : Array MapEntry) (clock : Nat) (w : World) (hb : w.heap[b]? = some (.map es clock)) :
    Calls Tryz.prog 55 #[.map (some b)] w fun e w' => e = .returned (.map (some w.heap.size)) ∧ w' = w.alloc (.map es clock) := by
  have hq := fun w => run_eql_map_nil_sl (P := Tryz.prog) w 104 _ _ (some b) Tryz.underlying104
  go_enter Tryz.func55, Tryz.ntmps55
  go_wp2
  rw [run_callFunc_extern Tryz.func87 (by kernel_rfl) (by kernel_rfl) (by kernel_rfl) (e := Extern.MapsClone.clone) (by kernel_rfl), run_maps_clone_sl w 104 hb]
  simp only [Result.andThen]
  rw [Oper.upon_value]
  go_wp2
  rw [run_typeAssert_map_sl _ 104 20 _ _ _ Tryz.underlying104]
  simp only [Result.andThen]
  rw [Oper.upon_value]
  go_wp2
  go_ret
  exact ⟨rfl, rfl⟩
end Go.Proofs.YtnekcijganhknaaGreatDoor
namespace Go.Proofs.YtnekcijganhknaaGreatDoor
open Go.RowKit
set_option linter.unusedVariables false
set_option linter.unusedSimpArgs false

/-- What a writing walk over what is known leaves. -/
def WdPost (w0 w : World) (b g1 g2 r : Nat) (q : Wd × Int) (e : Ending) (w' : World) : Prop :=
  e = .returned (.int .i64 q.2) ∧ WdAt w0 w' b g1 g2 q.1 ∧ w.grownBy w' (some r)
theorem wd_same {w0 w w' : World} {b g1 g2 r : Nat} {d : Wd} {k : Int} (h : WdAt w0 w b g1 g2 d) (hb : Below w.heap.size w w') : WdPost w0 w b g1 g2 r (d, k) (.returned (.int .i64 k)) w' := ⟨rfl, h.below hb, gb_below hb _⟩
theorem wd_fix {w0 w w1 w2 : World} {b g1 g2 : Nat} {d : Wd} {l : List ((List UInt8 × Int) × Int)} {k : Int} (h : WdAt w0 w b g1 g2 d) (hb : Below w.heap.size w w1) (hf : FixAt w2 g1 l) (hg : w1.grownBy w2 (some g1)) : WdPost w0 w b g1 g2 g1 (⟨l, d.picks⟩, k) (.returned (.int .i64 k)) w2 := by
  have h1 := h.below hb
  have hne : g1 ≠ b := by
    intro e
    obtain ⟨es, clock, hm, -⟩ := MapAt.obj h.fx
    have := h.blk
    unfold Blk at this
    rw [← e, hm] at this
    cases this
  refine ⟨rfl, ⟨h1.blk.grown hg (fun e => hne (by injection e)), hf, MapAt.kept h1.pk hg (fun e => h.ne (by injection e with e; exact e.symm)), h.ne, h.n1, h.n2, h.nb⟩, gb_trans (gb_below hb _) hg⟩
theorem wd_pick {w0 w w1 w2 : World} {b g1 g2 : Nat} {d : Wd} {l : List ((List UInt8 × List UInt8) × (Int × Int))} {k : Int} (h : WdAt w0 w b g1 g2 d) (hb : Below w.heap.size w w1) (hf : PickAt w2 g2 l) (hg : w1.grownBy w2 (some g2)) : WdPost w0 w b g1 g2 g2 (⟨d.fixes, l⟩, k) (.returned (.int .i64 k)) w2 := by
  have h1 := h.below hb
  have hne : g2 ≠ b := by
    intro e
    obtain ⟨es, clock, hm, -⟩ := MapAt.obj h.pk
    have := h.blk
    unfold Blk at this
    rw [← e, hm] at this
    cases this
  refine ⟨rfl, ⟨h1.blk.grown hg (fun e => hne (by injection e)), MapAt.kept h1.fx hg (fun e => h.ne (by injection e)), hf, h.ne, h.n1, h.n2, h.nb⟩, gb_trans (gb_below hb _) hg⟩
theorem fx_drewN {W : World} {g : Nat} {l : List ((List UInt8 × Int) × Int)} (h : FixAt W g l) (n : Nat) : FixAt (W.drewN n) g l := by
  obtain ⟨es, clock, hm, hk⟩ := MapAt.obj h
  exact hk _ _ hm
theorem pk_drewN {W : World} {g : Nat} {l : List ((List UInt8 × List UInt8) × (Int × Int))} (h : PickAt W g l) (n : Nat) : PickAt (W.drewN n) g l := by
  obtain ⟨es, clock, hm, hk⟩ := MapAt.obj h
  exact hk _ _ hm
set_option maxRecDepth 100000 in
set_option maxHeartbeats 4000000 in
theorem wfix_calls (w0 : World) (b g1 g2 : Nat) (d : Wd) (s : ByteArray) (dd v : Int) (hs : s.size ≤ maxLen) (hd : In64 dd) (w : World) (h : WdAt w0 w b g1 g2 d) :
    Calls Tryz.prog 37 #[.pointer (some ⟨b, 0, none⟩), .string s, .int .i64 dd, .int .i64 v] w (WdPost w0 w b g1 g2 g1 (d.fix s dd v)) := by
  obtain ⟨W1, hW1⟩ : ∃ W1, w.alloc (.cells #[.string s, .int .i64 dd] 144) = W1 := ⟨_, rfl⟩
  have hb1 : Below w.heap.size w W1 := by rw [← hW1]; exact bl_alloc (bl_refl w) _
  have hk1 : Blk W1 w.heap.size #[.string s, .int .i64 dd] 144 := by rw [← hW1]; exact Blk.new w _ _
  have h1 := h.below hb1
  have hl := fun n => FixAt.look (fx_drewN h1.fx n) s dd hs hd
  have c0 : W1.cell? ⟨b, 0, none⟩ = some (.map (some g1)) := h1.blk.cell 0
  have a0 : W1.cell? ⟨w.heap.size, 0, none⟩ = some (.string s) := hk1.cell 0
  have a1 : W1.cell? ⟨w.heap.size, 1, none⟩ = some (.int .i64 dd) := hk1.cell 1
  have hnc := fun W => name_calls s W
  have hrc := fun W => right_calls dd W
  have hvc := fun W => valid_calls v W
  have HW1 := Lib.hid hW1; have HH := Lib.hid h; have H1 := Lib.hid h1; have HB := Lib.hid hb1; have HK := Lib.hid hk1; have HNC := Lib.hid hnc; have HRC := Lib.hid hrc; have HVC := Lib.hid hvc
  clear hW1 h h1 hb1 hk1 hnc hrc hvc
  cases hn : nameB s with
  | false =>
    have hf : d.fix s dd v = (d, 1) := by unfold Wd.fix; rw [hn]; rfl
    rw [hf]
    rw [hn] at HNC
    clear hf hn
    go_enter Tryz.func37, Tryz.ntmps37
    go_wp2_with fail
    rw [HW1.out]
    go_quiet (fail)
    go_wp2_with fail
    refine (HNC.out _).mono ?_
    rintro e w2 ⟨rfl, hb2⟩
    go_wp2_with fail
    go_ret
    exact wd_same HH.out (bl_step hb2 (bl_drewN HB.out _))
  | true =>
    cases hr : dayB dd with
    | false =>
      have hf : d.fix s dd v = (d, 1) := by unfold Wd.fix; rw [hn, hr]; rfl
      rw [hf]
      rw [hn] at HNC
      rw [hr] at HRC
      clear hf hn hr
      go_enter Tryz.func37, Tryz.ntmps37
      go_wp2_with fail
      rw [HW1.out]
      go_quiet (fail)
      go_wp2_with fail
      refine (HNC.out _).mono ?_
      rintro e w2 ⟨rfl, hb2⟩
      go_wp2_with fail
      refine (HRC.out _).mono ?_
      rintro e w3 ⟨rfl, rfl⟩
      go_wp2_with fail
      go_ret
      exact wd_same HH.out (bl_step hb2 (bl_drewN HB.out _))
    | true =>
      cases hv : validB v with
      | false =>
        have hf : d.fix s dd v = (d, 1) := by unfold Wd.fix; rw [hn, hr, hv]; rfl
        rw [hf]
        rw [hn] at HNC
        rw [hr] at HRC
        rw [hv] at HVC
        clear hf hn hr hv
        go_enter Tryz.func37, Tryz.ntmps37
        go_wp2_with fail
        rw [HW1.out]
        go_quiet (fail)
        go_wp2_with fail
        refine (HNC.out _).mono ?_
        rintro e w2 ⟨rfl, hb2⟩
        go_wp2_with fail
        refine (HRC.out _).mono ?_
        rintro e w3 ⟨rfl, rfl⟩
        go_wp2_with fail
        refine (HVC.out _).mono ?_
        rintro e w4 ⟨rfl, rfl⟩
        go_wp2_with fail
        go_ret
        exact wd_same HH.out (bl_step hb2 (bl_drewN HB.out _))
      | true =>
        cases hq : d.fixed s dd with
        | some x =>
          have hf : d.fix s dd v = (d, 4) := by unfold Wd.fix; rw [hn, hr, hv, hq]; rfl
          rw [hf]
          rw [hn] at HNC
          rw [hr] at HRC
          rw [hv] at HVC
          unfold Wd.fixed at hq
          rw [hq] at hl
          clear hf hn hr hv hq
          go_enter Tryz.func37, Tryz.ntmps37
          go_wp2_with fail
          rw [HW1.out]
          go_quiet (fail)
          go_wp2_with fail
          refine (HNC.out _).mono ?_
          rintro e w2 ⟨rfl, hb2⟩
          go_wp2_with fail
          refine (HRC.out _).mono ?_
          rintro e w3 ⟨rfl, rfl⟩
          go_wp2_with fail
          refine (HVC.out _).mono ?_
          rintro e w4 ⟨rfl, rfl⟩
          go_wp2_with fail
          go_ret
          exact wd_same HH.out (bl_step hb2 (bl_drewN HB.out _))
        | none =>
          rw [hn] at HNC
          rw [hr] at HRC
          rw [hv] at HVC
          have hq2 := hq
          unfold Wd.fixed at hq2
          rw [hq2] at hl
          have hlen := fun W (hW : FixAt W g1 d.fixes) => MapAt.len hW Tryz.underlying137 3
          by_cases hc : 32 ≤ d.fixes.length
          · have hf : d.fix s dd v = (d, 5) := by unfold Wd.fix; rw [hn, hr, hv, hq]; simp [hc]
            rw [hf]
            generalize d.fixes.length = n at *
            have hci : (32 : Int) ≤ (n : Int) := by omega
            have HLEN := Lib.hid hlen
            clear hf hn hr hv hq hq2 hlen hc
            go_enter Tryz.func37, Tryz.ntmps37
            go_wp2_with fail
            rw [HW1.out]
            go_quiet (fail)
            go_wp2_with fail
            refine (HNC.out _).mono ?_
            rintro e w2 ⟨rfl, hb2⟩
            go_wp2_with fail
            refine (HRC.out _).mono ?_
            rintro e w3 ⟨rfl, rfl⟩
            have hbb := bl_step hb2 (bl_drewN HB.out _)
            have h2 := HH.out.below hbb
            have c02 : w3.cell? ⟨b, 0, none⟩ = some (.map (some g1)) := h2.blk.cell 0
            have hln := HLEN.out _ h2.fx
            go_wp2_with fail
            refine (HVC.out _).mono ?_
            rintro e w4 ⟨rfl, rfl⟩
            go_wp2_with fail
            go_ret
            exact wd_same HH.out hbb
          · have hf : d.fix s dd v = (⟨((s.toList, dd), v) :: d.fixes, d.picks⟩, 0) := by unfold Wd.fix; rw [hn, hr, hv, hq]; simp [hc]
            rw [hf]
            obtain ⟨n, hnn⟩ : ∃ n, d.fixes.length = n := ⟨_, rfl⟩
            have hlt : d.fixes.length < maxLen := by unfold maxLen; omega
            rw [hnn] at hlen hc
            have hci : ¬ (32 : Int) ≤ (n : Int) := by omega
            have hci2 : decide ((32 : Int) ≤ (n : Int)) = false := by simpa using hci
            have HLEN := Lib.hid hlen; have HLT := Lib.hid hlt; have HQ := Lib.hid hq2; have HSD := Lib.hid (And.intro hs hd)
            clear hf hn hr hv hq hq2 hlen hc hnn hlt hs hd
            go_enter Tryz.func37, Tryz.ntmps37
            go_wp2_with fail
            rw [HW1.out]
            go_quiet (fail)
            go_wp2_with fail
            refine (HNC.out _).mono ?_
            rintro e w2 ⟨rfl, hb2⟩
            go_wp2_with fail
            refine (HRC.out _).mono ?_
            rintro e w3 ⟨rfl, rfl⟩
            have hbb := bl_step hb2 (bl_drewN HB.out _)
            have h2 := HH.out.below hbb
            have hk2 := HK.out.below (bl_step hb2 (bl_drewN (bl_refl _) _))
            have c02 : w3.cell? ⟨b, 0, none⟩ = some (.map (some g1)) := h2.blk.cell 0
            have a02 : w3.cell? ⟨w.heap.size, 0, none⟩ = some (.string s) := hk2.cell 0
            have a12 : w3.cell? ⟨w.heap.size, 1, none⟩ = some (.int .i64 dd) := hk2.cell 1
            have hln := HLEN.out _ h2.fx
            obtain ⟨W5, hst, hfx5, hg5⟩ := FixAt.store (v := v) (show FixAt w3.drew g1 d.fixes from fx_drewN h2.fx 1) s dd HSD.out.1 HSD.out.2 HLT.out HQ.out
            have HFX := Lib.hid hfx5; have HG := Lib.hid hg5; have HBB := Lib.hid hbb
            clear h2 hk2 hbb hfx5 hg5
            go_wp2_with fail
            refine (HVC.out _).mono ?_
            rintro e w4 ⟨rfl, rfl⟩
            go_wp2_with fail
            go_region
            all_goals go_wp2_with fail
            all_goals go_ret
            exact wd_fix HH.out (bl_drew HBB.out) HFX.out HG.out
end Go.Proofs.YtnekcijganhknaaGreatDoor
namespace Go.Proofs.YtnekcijganhknaaGreatDoor
open Go.RowKit
open Go.Maps (Keyed)
open Go.WideMaps (KeyLaw)
open Go.ChangeMaps (setBlock)
set_option linter.unusedVariables false
set_option linter.unusedSimpArgs false

section
variable {P : Program} {K E t : TypeId} {R : Value → Option (DataW Unit × List MemPlace)} {κ ν : Type} [BEq κ] {kf : κ → Value} {vf : ν → DataW Unit} {W W' : World} {b : Nat} {l : List (κ × ν)}
theorem lookup_found {w : World} {es : Array MapEntry} {clock : Nat} {key x : Value} {kl : Lit} {j : Nat} (KL : KeyLaw P K) (ht : P.underlying t = some (.map K E)) (hb : w.heap[b]? = some (.map es clock)) (hkey : keyOf P K key = some kl) (hf : (Instr.findKey K key es.toList).run P w = .ok (some (j, x)) w) : (Instr.lookup t (.map (some b)) key false).run P w = .ok x w := by
  simp [Instr.lookup, run_underlying ht, MapKept.run_getObj_map hb, KL.check w _ hkey, hf, Result.andThen]
theorem lookup_absent {w : World} {es : Array MapEntry} {clock : Nat} {key z : Value} {kl : Lit} (KL : KeyLaw P K) (ht : P.underlying t = some (.map K E)) (hb : w.heap[b]? = some (.map es clock)) (hkey : keyOf P K key = some kl) (hz : ∀ u : World, (zeroValue E).run P u = .ok z u) (hf : (Instr.findKey K key es.toList).run P w = .ok none w) : (Instr.lookup t (.map (some b)) key false).run P w = .ok z w := by
  simp [Instr.lookup, run_underlying ht, MapKept.run_getObj_map hb, KL.check w _ hkey, hf, hz, Result.andThen]
theorem heap_setB {w : World} {b : Nat} {o o' : Obj} (h : w.heap[b]? = some o) : (setBlock w b o').heap[b]? = some o' := by
  have hlt : b < w.heap.size := (Array.getElem?_eq_some_iff.1 h).1
  simp [setBlock, hlt]
theorem gb_setB (w : World) (b : Nat) (o : Obj) : w.grownBy (setBlock w b o) (some b) :=
  ⟨rfl, rfl, rfl, by simp [setBlock], fun i _ hi => by
    have hne : b ≠ i := fun e => hi (by rw [e])
    simp [setBlock, hne]⟩
theorem ok_inj2 {α : Type} {v v' : α} {w w' : World} (h : Result.ok v w = Result.ok v' w') : w = w' := by injection h
theorem ok_inj1 {α : Type} {v v' : α} {w w' : World} (h : Result.ok v w = Result.ok v' w') : v = v' := by injection h
theorem key_one : ∀ (l : List MapEntry), l.Pairwise (fun x y => x.key ≠ y.key) → ∀ {x y : MapEntry}, x ∈ l → y ∈ l → x.key = y.key → x = y
  | [], _, x, y, hx, _, _ => by cases hx
  | a :: l, h, x, y, hx, hy, e => by
    obtain ⟨h1, h2⟩ := List.pairwise_cons.1 h
    rcases List.mem_cons.1 hx with h3 | h3
    · rcases List.mem_cons.1 hy with h4 | h4
      · rw [h3, h4]
      · exact absurd e (by rw [h3]; exact h1 y h4)
    · rcases List.mem_cons.1 hy with h4 | h4
      · exact absurd e.symm (by rw [h4]; exact h1 x h3)
      · exact key_one l h2 h3 h4 e
theorem MapAt.entry (h : MapAt P K R kf vf W b l) (KL : KeyLaw P K) (ht : P.underlying t = some (.map K E)) {z : Value} (hz : ∀ u : World, (zeroValue E).run P u = .ok z u) {k : κ} {kl : Lit} (hkey : keyOf P K (kf k) = some kl) :
    ∃ (v0 : Value) (st : Nat) (W1 : World), (Instr.mapEntry t (.map (some b)) (kf k)).run P W = .ok (.tuple #[v0, goInt st]) W1 ∧ W.grownBy W1 (some b) ∧
      (∀ v, (Instr.lookup t (.map (some b)) (kf k) false).run P W = .ok v W → ∀ W2 : World, W2.heap[b]? = W1.heap[b]? → (Instr.lookup t (.map (some b)) (kf k) false).run P W2 = .ok v W2) ∧
      ∀ (W2 : World) (val : Value), W2.heap[b]? = W1.heap[b]? → ∃ es' clock', (Instr.entryStore t (.map (some b)) (goInt st) val).run P W2 = .ok () (setBlock W2 b (.map es' clock')) ∧ (Instr.mapUpdate t (.map (some b)) (kf k) val).run P W = .ok () (setBlock W b (.map es' clock')) := by
  obtain ⟨D, ⟨es, clock, hb, F, -, -⟩, -, -⟩ := h
  obtain ⟨v0', st', es1, clock1, hrun, hor, hst⟩ := WideElems.entry_then_store KL ht hz hb F hkey
  have hheap : (setBlock W b (.map es1 clock1)).heap[b]? = some (.map es1 clock1) := heap_setB hb
  refine ⟨v0', st', setBlock W b (.map es1 clock1), hrun, gb_setB W b _, fun v hv W2 hW2 => ?_, fun W2 val hW2 => hst W2 val (hW2.trans hheap)⟩
  have hb2 : W2.heap[b]? = some (.map es1 clock1) := hW2.trans hheap
  rcases KL.find W hkey es.toList F.keys with ⟨h1, h2⟩ | ⟨j, e0, h1, h2, h3⟩
  · have hme : (Instr.mapEntry t (.map (some b)) (kf k)).run P W = .ok (.tuple #[z, goInt clock]) (setBlock W b (.map (es.push ⟨kf k, z, clock⟩) (clock + 1))) := by
      simp [Instr.mapEntry, run_underlying ht, MapKept.run_getObj_map hb, KL.check W false hkey, h1, hz, MapKept.run_setObj_map _ hb, Result.andThen, setBlock]
    replace hme := ok_inj2 (hrun.symm.trans hme)
    have e1 : (setBlock W b (.map es1 clock1)).heap[b]? = some (.map (es.push ⟨kf k, z, clock⟩) (clock + 1)) := by rw [hme]; exact heap_setB hb
    rw [hheap] at e1
    simp only [Option.some.injEq, Obj.map.injEq] at e1
    replace e1 := e1.1
    subst e1
    have e2 := lookup_absent KL ht hb hkey hz h1
    replace e2 := ok_inj1 (hv.symm.trans e2)
    subst e2
    have hk : ∀ e ∈ (es.push ⟨kf k, v, clock⟩).toList, ∃ l, keyOf P K e.key = some l := by
      intro e he
      rw [Array.toList_push] at he
      rcases List.mem_append.1 he with he | he
      · exact F.keys e he
      · obtain rfl := List.mem_singleton.1 he
        exact ⟨kl, hkey⟩
    rcases KL.find W2 hkey (es.push ⟨kf k, v, clock⟩).toList hk with ⟨h3, h4⟩ | ⟨i, e1, h3, h4, h5⟩
    · exact absurd rfl (h4 ⟨kf k, v, clock⟩ (by simp))
    · have hm := List.mem_of_getElem? h4
      rw [Array.toList_push] at hm
      rcases List.mem_append.1 hm with hm | hm
      · exact absurd h5 (h2 e1 hm)
      · obtain rfl := List.mem_singleton.1 hm
        exact lookup_found KL ht hb2 hkey h3
  · have hj : es[j]? = some e0 := by simpa using h2
    have hsame : es.modify j (fun e => { e with key := kf k }) = es := by
      apply Array.ext'
      rw [Array.toList_modify, ChangeMaps.modify_eq_set _ _ _ _ h2]
      have : ({ e0 with key := kf k } : MapEntry) = e0 := by rw [← h3]
      rw [this]
      exact WideElems.set_self _ _ _ h2
    have hme : (Instr.mapEntry t (.map (some b)) (kf k)).run P W = .ok (.tuple #[e0.val, goInt e0.born]) (setBlock W b (.map es clock)) := by
      simp [Instr.mapEntry, run_underlying ht, MapKept.run_getObj_map hb, KL.check W false hkey, h1, hj, h3, KL.stays W hkey, hsame, MapKept.run_setObj_map _ hb, Result.andThen, setBlock]
    replace hme := ok_inj2 (hrun.symm.trans hme)
    have e1 : (setBlock W b (.map es1 clock1)).heap[b]? = some (.map es clock) := by rw [hme]; exact heap_setB hb
    rw [hheap] at e1
    simp only [Option.some.injEq, Obj.map.injEq] at e1
    replace e1 := e1.1
    subst e1
    have e2 := lookup_found KL ht hb hkey h1
    replace e2 := ok_inj1 (hv.symm.trans e2)
    rw [e2]
    rcases KL.find W2 hkey es1.toList F.keys with ⟨h4, h5⟩ | ⟨i, e3, h4, h5, h6⟩
    · exact absurd h3 (h5 e0 (List.mem_of_getElem? h2))
    · have e4 := lookup_found KL ht hb2 hkey h4
      rw [e4]
      have hn : es1.toList.Pairwise (fun x y => x.key ≠ y.key) := ((MapKept.stamped_iff es1 clock).1 F.stamped).2.2
      rw [key_one es1.toList hn (List.mem_of_getElem? h5) (List.mem_of_getElem? h2) (h6.trans h3.symm)]
end
end Go.Proofs.YtnekcijganhknaaGreatDoor
namespace Go.Proofs.YtnekcijganhknaaGreatDoor
open Go.RowKit
set_option linter.unusedVariables false
set_option linter.unusedSimpArgs false

theorem pk_alloc {W : World} {g : Nat} {l : List ((List UInt8 × List UInt8) × (Int × Int))} (h : PickAt W g l) (o : Obj) : PickAt (W.alloc o) g l := MapAt.below h (bl_alloc (bl_refl _) o)
set_option maxRecDepth 100000 in
set_option maxHeartbeats 4000000 in
theorem wchoose_calls (w0 : World) (b g1 g2 : Nat) (d : Wd) (s t : ByteArray) (sd dd : Int) (hs : s.size ≤ maxLen) (ht : t.size ≤ maxLen) (hlt : d.picks.length < maxLen) (w : World) (h : WdAt w0 w b g1 g2 d) :
    Calls Tryz.prog 108 #[.pointer (some ⟨b, 0, none⟩), .string s, .string t, .int .i64 sd, .int .i64 dd] w (WdPost w0 w b g1 g2 g2 (d.choose s t sd dd)) := by
  obtain ⟨W1, hW1⟩ : ∃ W1, w.alloc (.cells #[.string s, .string t] 179) = W1 := ⟨_, rfl⟩
  have hz1 : W1.heap.size = w.heap.size + 1 := by rw [← hW1]; simp
  have hb1 : Below w.heap.size w W1 := by rw [← hW1]; exact bl_alloc (bl_refl w) _
  have hk1 : Blk W1 w.heap.size #[.string s, .string t] 179 := by rw [← hW1]; exact Blk.new w _ _
  have h1 := h.below hb1
  have hl := PickAt.look (show PickAt W1.drew g2 d.picks from pk_drewN h1.pk 1) s t hs ht
  have hl2 := fun o => PickAt.look (show PickAt (W1.alloc o).drew g2 d.picks from pk_drewN (pk_alloc h1.pk o) 1) s t hs ht
  have hlt1 : w.heap.size < W1.heap.size := hk1.lt
  have hlt2 : b < W1.heap.size := h1.blk.lt
  have c0 : W1.cell? ⟨b, 1, none⟩ = some (.map (some g2)) := h1.blk.cell 1
  have a0 : W1.cell? ⟨w.heap.size, 0, none⟩ = some (.string s) := hk1.cell 0
  have a1 : W1.cell? ⟨w.heap.size, 1, none⟩ = some (.string t) := hk1.cell 1
  have hnc := fun W => name_calls s W
  have hmc := fun W => name_calls t W
  have hrc := fun W => right_calls dd W
  have HW1 := Lib.hid hW1; have HH := Lib.hid h; have H1 := Lib.hid h1; have HB := Lib.hid hb1; have HK := Lib.hid hk1; have HNC := Lib.hid hnc; have HMC := Lib.hid hmc; have HRC := Lib.hid hrc; have HZ1 := Lib.hid hz1
  clear hW1 h h1 hb1 hk1 hnc hmc hrc hz1
  generalize ((d.picks.lookup (s.toList, t.toList)).getD (0, 0)).1 = pn at hl hl2
  generalize ((d.picks.lookup (s.toList, t.toList)).getD (0, 0)).2 = pm at hl hl2
  generalize his : (d.picks.lookup (s.toList, t.toList)).isSome = is at hl hl2
  cases hn : nameB s with
  | false =>
    have hf : d.choose s t sd dd = (d, 1) := by unfold Wd.choose; rw [hn]; rfl
    rw [hf]
    rw [hn] at HNC
    clear hf hn his hlt
    go_enter Tryz.func108, Tryz.ntmps108
    go_wp2_with fail
    rw [HW1.out]
    go_region
    obtain ⟨W2, hW2⟩ : ∃ W2, (W1.alloc (.cells #[.int .i64 pn, .int .i64 pm] 181)).drew = W2 := ⟨_, rfl⟩
    have hB2 : Below w.heap.size w W2 := by rw [← hW2]; exact bl_drew (bl_alloc HB.out _)
    have hB2k : Below W1.heap.size W1 W2 := by rw [← hW2]; exact bl_drew (bl_alloc (bl_refl _) _)
    rw [hW2]
    have HB2 := Lib.hid hB2; have HB2K := Lib.hid hB2k
    clear hW2 hB2 hB2k c0 a0 a1 hl hl2 hlt1 hlt2
    go_wp2_with fail
    refine (HNC.out _).mono ?_
    rintro e w3 ⟨rfl, hb3⟩
    go_wp2_with fail
    go_ret
    exact wd_same HH.out (bl_step hb3 HB2.out)
  | true =>
    cases hm : nameB t with
    | false =>
      have hf : d.choose s t sd dd = (d, 1) := by unfold Wd.choose; rw [hn, hm]; rfl
      rw [hf]
      rw [hn] at HNC
      rw [hm] at HMC
      clear hf hn hm his hlt
      go_enter Tryz.func108, Tryz.ntmps108
      go_wp2_with fail
      rw [HW1.out]
      go_region
      obtain ⟨W2, hW2⟩ : ∃ W2, (W1.alloc (.cells #[.int .i64 pn, .int .i64 pm] 181)).drew = W2 := ⟨_, rfl⟩
      have hB2 : Below w.heap.size w W2 := by rw [← hW2]; exact bl_drew (bl_alloc HB.out _)
      have hB2k : Below W1.heap.size W1 W2 := by rw [← hW2]; exact bl_drew (bl_alloc (bl_refl _) _)
      rw [hW2]
      have HB2 := Lib.hid hB2; have HB2K := Lib.hid hB2k
      clear hW2 hB2 hB2k c0 a0 a1 hl hl2 hlt1 hlt2
      go_wp2_with fail
      refine (HNC.out _).mono ?_
      rintro e w3 ⟨rfl, hb3⟩
      go_wp2_with fail
      refine (HMC.out _).mono ?_
      rintro e w4 ⟨rfl, hb4⟩
      go_wp2_with fail
      go_ret
      exact wd_same HH.out (bl_step hb4 (bl_step hb3 HB2.out))
    | true =>
      by_cases hs0 : sd = 0
      · subst hs0
        cases hr : dayB dd with
        | false =>
          have hf : d.choose s t 0 dd = (d, 1) := by unfold Wd.choose; rw [hn, hm, hr]; rfl
          rw [hf]
          rw [hn] at HNC
          rw [hm] at HMC
          rw [hr] at HRC
          clear hf hn hr hm hlt
          go_enter Tryz.func108, Tryz.ntmps108
          go_wp2_with fail
          rw [HW1.out]
          go_region
          obtain ⟨W2, hW2⟩ : ∃ W2, (W1.alloc (.cells #[.int .i64 pn, .int .i64 pm] 181)).drew = W2 := ⟨_, rfl⟩
          have hB2 : Below w.heap.size w W2 := by rw [← hW2]; exact bl_drew (bl_alloc HB.out _)
          have hB2k : Below W1.heap.size W1 W2 := by rw [← hW2]; exact bl_drew (bl_alloc (bl_refl _) _)
          rw [hW2]
          have HB2 := Lib.hid hB2; have HB2K := Lib.hid hB2k
          clear hW2 hB2 hB2k c0 a0 a1 hl hl2 hlt1 hlt2
          go_wp2_with fail
          refine (HNC.out _).mono ?_
          rintro e w3 ⟨rfl, hb3⟩
          go_wp2_with fail
          refine (HMC.out _).mono ?_
          rintro e w4 ⟨rfl, hb4⟩
          go_wp2_with fail
          refine (HRC.out _).mono ?_
          rintro e w5 ⟨rfl, rfl⟩
          go_wp2_with fail
          go_ret
          exact wd_same HH.out (bl_step hb4 (bl_step hb3 HB2.out))
        | true =>
          rw [hn] at HNC
          rw [hm] at HMC
          rw [hr] at HRC
          cases hq : d.chosen s t with
          | some x =>
            have hf : d.choose s t 0 dd = (d, 4) := by unfold Wd.choose; rw [hn, hr, hm, hq]; rfl
            rw [hf]
            have hq2 : is = true := by rw [← his]; show (d.chosen s t).isSome = true; rw [hq]; rfl
            clear his
            subst hq2
            clear hf hn hr hm hq hlt
            go_enter Tryz.func108, Tryz.ntmps108
            go_wp2_with fail
            rw [HW1.out]
            go_region
            obtain ⟨W2, hW2⟩ : ∃ W2, (W1.alloc (.cells #[.int .i64 pn, .int .i64 pm] 181)).drew = W2 := ⟨_, rfl⟩
            have hB2 : Below w.heap.size w W2 := by rw [← hW2]; exact bl_drew (bl_alloc HB.out _)
            have hB2k : Below W1.heap.size W1 W2 := by rw [← hW2]; exact bl_drew (bl_alloc (bl_refl _) _)
            rw [hW2]
            have HB2 := Lib.hid hB2; have HB2K := Lib.hid hB2k
            clear hW2 hB2 hB2k c0 a0 a1 hl hl2 hlt1 hlt2
            go_wp2_with fail
            refine (HNC.out _).mono ?_
            rintro e w3 ⟨rfl, hb3⟩
            go_wp2_with fail
            refine (HMC.out _).mono ?_
            rintro e w4 ⟨rfl, hb4⟩
            go_wp2_with fail
            refine (HRC.out _).mono ?_
            rintro e w5 ⟨rfl, rfl⟩
            go_wp2_with fail
            go_ret
            exact wd_same HH.out (bl_step hb4 (bl_step hb3 HB2.out))
          | none =>
            have hf : d.choose s t 0 dd = (⟨d.fixes, ((s.toList, t.toList), (0, dd)) :: d.picks⟩, 0) := by unfold Wd.choose; rw [hn, hr, hm, hq]; rfl
            rw [hf]
            have hq2 : is = false := by rw [← his]; show (d.chosen s t).isSome = false; rw [hq]; rfl
            clear his
            subst hq2
            have HLT := Lib.hid hlt; have HQ := Lib.hid hq; have HST := Lib.hid (And.intro hs ht)
            clear hf hn hr hm hq hlt hs ht
            go_enter Tryz.func108, Tryz.ntmps108
            go_wp2_with fail
            rw [HW1.out]
            go_region
            obtain ⟨W2, hW2⟩ : ∃ W2, (W1.alloc (.cells #[.int .i64 pn, .int .i64 pm] 181)).drew = W2 := ⟨_, rfl⟩
            have hB2 : Below w.heap.size w W2 := by rw [← hW2]; exact bl_drew (bl_alloc HB.out _)
            have hB2k : Below W1.heap.size W1 W2 := by rw [← hW2]; exact bl_drew (bl_alloc (bl_refl _) _)
            rw [hW2]
            have HB2 := Lib.hid hB2; have HB2K := Lib.hid hB2k
            clear hW2 hB2 hB2k c0 a0 a1 hl hl2 hlt1 hlt2
            go_wp2_with fail
            refine (HNC.out _).mono ?_
            rintro e w3 ⟨rfl, hb3⟩
            go_wp2_with fail
            refine (HMC.out _).mono ?_
            rintro e w4 ⟨rfl, hb4⟩
            have hbb := bl_step hb4 (bl_step hb3 HB2.out)
            have h2 := HH.out.below hbb
            have hk2 := HK.out.below (bl_step hb4 (bl_step hb3 HB2K.out))
            have c02 : w4.cell? ⟨b, 1, none⟩ = some (.map (some g2)) := h2.blk.cell 1
            have a02 : w4.cell? ⟨w.heap.size, 0, none⟩ = some (.string s) := hk2.cell 0
            have a12 : w4.cell? ⟨w.heap.size, 1, none⟩ = some (.string t) := hk2.cell 1
            obtain ⟨W5, hst, hfx5, hg5⟩ := PickAt.store (show PickAt w4.drew g2 d.picks from pk_drewN h2.pk 1) s t (0, dd) HST.out.1 HST.out.2 HLT.out HQ.out
            have HFX := Lib.hid hfx5; have HG := Lib.hid hg5; have HBB := Lib.hid hbb
            clear h2 hk2 hbb hfx5 hg5
            go_wp2_with fail
            refine (HRC.out _).mono ?_
            rintro e w5 ⟨rfl, rfl⟩
            go_wp2_with fail
            go_region
            all_goals go_wp2_with fail
            all_goals go_ret
            exact wd_pick HH.out (bl_drew HBB.out) HFX.out HG.out
      · by_cases hs1 : sd = 1
        · subst hs1
          clear hs0
          cases hr : dayB dd with
          | false =>
            have hf : d.choose s t 1 dd = (d, 1) := by unfold Wd.choose; rw [hn, hm, hr]; rfl
            rw [hf]
            rw [hn] at HNC
            rw [hm] at HMC
            rw [hr] at HRC
            clear hf hn hr hm hlt
            go_enter Tryz.func108, Tryz.ntmps108
            go_wp2_with fail
            rw [HW1.out]
            go_region
            obtain ⟨W2, hW2⟩ : ∃ W2, (W1.alloc (.cells #[.int .i64 pn, .int .i64 pm] 181)).drew = W2 := ⟨_, rfl⟩
            have hB2 : Below w.heap.size w W2 := by rw [← hW2]; exact bl_drew (bl_alloc HB.out _)
            have hB2k : Below W1.heap.size W1 W2 := by rw [← hW2]; exact bl_drew (bl_alloc (bl_refl _) _)
            rw [hW2]
            have HB2 := Lib.hid hB2; have HB2K := Lib.hid hB2k
            clear hW2 hB2 hB2k c0 a0 a1 hl hl2 hlt1 hlt2
            go_wp2_with fail
            refine (HNC.out _).mono ?_
            rintro e w3 ⟨rfl, hb3⟩
            go_wp2_with fail
            refine (HMC.out _).mono ?_
            rintro e w4 ⟨rfl, hb4⟩
            go_wp2_with fail
            refine (HRC.out _).mono ?_
            rintro e w5 ⟨rfl, rfl⟩
            go_wp2_with fail
            go_ret
            exact wd_same HH.out (bl_step hb4 (bl_step hb3 HB2.out))
          | true =>
            rw [hn] at HNC
            rw [hm] at HMC
            rw [hr] at HRC
            cases hq : d.chosen s t with
            | some x =>
              have hf : d.choose s t 1 dd = (d, 4) := by unfold Wd.choose; rw [hn, hr, hm, hq]; rfl
              rw [hf]
              have hq2 : is = true := by rw [← his]; show (d.chosen s t).isSome = true; rw [hq]; rfl
              clear his
              subst hq2
              clear hf hn hr hm hq hlt
              go_enter Tryz.func108, Tryz.ntmps108
              go_wp2_with fail
              rw [HW1.out]
              go_region
              obtain ⟨W2, hW2⟩ : ∃ W2, (W1.alloc (.cells #[.int .i64 pn, .int .i64 pm] 181)).drew = W2 := ⟨_, rfl⟩
              have hB2 : Below w.heap.size w W2 := by rw [← hW2]; exact bl_drew (bl_alloc HB.out _)
              have hB2k : Below W1.heap.size W1 W2 := by rw [← hW2]; exact bl_drew (bl_alloc (bl_refl _) _)
              rw [hW2]
              have HB2 := Lib.hid hB2; have HB2K := Lib.hid hB2k
              clear hW2 hB2 hB2k c0 a0 a1 hl hl2 hlt1 hlt2
              go_wp2_with fail
              refine (HNC.out _).mono ?_
              rintro e w3 ⟨rfl, hb3⟩
              go_wp2_with fail
              refine (HMC.out _).mono ?_
              rintro e w4 ⟨rfl, hb4⟩
              go_wp2_with fail
              refine (HRC.out _).mono ?_
              rintro e w5 ⟨rfl, rfl⟩
              go_wp2_with fail
              go_ret
              exact wd_same HH.out (bl_step hb4 (bl_step hb3 HB2.out))
            | none =>
              have hf : d.choose s t 1 dd = (⟨d.fixes, ((s.toList, t.toList), (1, dd)) :: d.picks⟩, 0) := by unfold Wd.choose; rw [hn, hr, hm, hq]; rfl
              rw [hf]
              have hq2 : is = false := by rw [← his]; show (d.chosen s t).isSome = false; rw [hq]; rfl
              clear his
              subst hq2
              have HLT := Lib.hid hlt; have HQ := Lib.hid hq; have HST := Lib.hid (And.intro hs ht)
              clear hf hn hr hm hq hlt hs ht
              go_enter Tryz.func108, Tryz.ntmps108
              go_wp2_with fail
              rw [HW1.out]
              go_region
              obtain ⟨W2, hW2⟩ : ∃ W2, (W1.alloc (.cells #[.int .i64 pn, .int .i64 pm] 181)).drew = W2 := ⟨_, rfl⟩
              have hB2 : Below w.heap.size w W2 := by rw [← hW2]; exact bl_drew (bl_alloc HB.out _)
              have hB2k : Below W1.heap.size W1 W2 := by rw [← hW2]; exact bl_drew (bl_alloc (bl_refl _) _)
              rw [hW2]
              have HB2 := Lib.hid hB2; have HB2K := Lib.hid hB2k
              clear hW2 hB2 hB2k c0 a0 a1 hl hl2 hlt1 hlt2
              go_wp2_with fail
              refine (HNC.out _).mono ?_
              rintro e w3 ⟨rfl, hb3⟩
              go_wp2_with fail
              refine (HMC.out _).mono ?_
              rintro e w4 ⟨rfl, hb4⟩
              have hbb := bl_step hb4 (bl_step hb3 HB2.out)
              have h2 := HH.out.below hbb
              have hk2 := HK.out.below (bl_step hb4 (bl_step hb3 HB2K.out))
              have c02 : w4.cell? ⟨b, 1, none⟩ = some (.map (some g2)) := h2.blk.cell 1
              have a02 : w4.cell? ⟨w.heap.size, 0, none⟩ = some (.string s) := hk2.cell 0
              have a12 : w4.cell? ⟨w.heap.size, 1, none⟩ = some (.string t) := hk2.cell 1
              obtain ⟨W5, hst, hfx5, hg5⟩ := PickAt.store (show PickAt w4.drew g2 d.picks from pk_drewN h2.pk 1) s t (1, dd) HST.out.1 HST.out.2 HLT.out HQ.out
              have HFX := Lib.hid hfx5; have HG := Lib.hid hg5; have HBB := Lib.hid hbb
              clear h2 hk2 hbb hfx5 hg5
              go_wp2_with fail
              refine (HRC.out _).mono ?_
              rintro e w5 ⟨rfl, rfl⟩
              go_wp2_with fail
              go_region
              all_goals go_wp2_with fail
              all_goals go_ret
              exact wd_pick HH.out (bl_drew HBB.out) HFX.out HG.out
        · have hs0' : (sd != 0) = true := by simp [hs0]
          have hs1' : (sd != 1) = true := by simp [hs1]
          have hf : d.choose s t sd dd = (d, 1) := by unfold Wd.choose; rw [hn, hm, hs0', hs1']; rfl
          rw [hf]
          rw [hn] at HNC
          rw [hm] at HMC
          clear hf hn hm his hlt hs0 hs1
          go_enter Tryz.func108, Tryz.ntmps108
          go_wp2_with fail
          rw [HW1.out]
          go_region
          obtain ⟨W2, hW2⟩ : ∃ W2, (W1.alloc (.cells #[.int .i64 pn, .int .i64 pm] 181)).drew = W2 := ⟨_, rfl⟩
          have hB2 : Below w.heap.size w W2 := by rw [← hW2]; exact bl_drew (bl_alloc HB.out _)
          have hB2k : Below W1.heap.size W1 W2 := by rw [← hW2]; exact bl_drew (bl_alloc (bl_refl _) _)
          rw [hW2]
          have HB2 := Lib.hid hB2; have HB2K := Lib.hid hB2k
          clear hW2 hB2 hB2k c0 a0 a1 hl hl2 hlt1 hlt2
          go_wp2_with fail
          refine (HNC.out _).mono ?_
          rintro e w3 ⟨rfl, hb3⟩
          go_wp2_with fail
          refine (HMC.out _).mono ?_
          rintro e w4 ⟨rfl, hb4⟩
          go_wp2_with fail
          go_ret
          exact wd_same HH.out (bl_step hb4 (bl_step hb3 HB2.out))
theorem heap_keep {W : World} {g : Nat} {o : Obj} (h : W.heap[g]? = some o) (x : Obj) : (W.alloc x).heap[g]? = some o := by
  have hlt : g < W.heap.size := (Array.getElem?_eq_some_iff.1 h).1
  rw [(MapKept.heap_alloc W _).2 g hlt]
  exact h
section
variable {w W : World} {es1 es2 : Array MapEntry} {k1 k2 : Nat} {d : Wd} (h1 : ∀ (W1 : World) (b1 : Nat), W1.heap[b1]? = some (.map es1 k1) → FixAt W1 b1 d.fixes) (h2 : ∀ (W1 : World) (b1 : Nat), W1.heap[b1]? = some (.map es2 k2) → PickAt W1 b1 d.picks)
include h1 h2
theorem wcl1 (hw : W.heap = (((w.alloc (.map es1 k1)).alloc (.map es2 k2)).alloc (.cells #[.map (some w.heap.size), .map (some (w.heap.size + 1))] 140)).heap) :
    WdAt w W (w.heap.size + 1 + 1) w.heap.size (w.heap.size + 1) d := by
  refine ⟨?_, h1 _ _ ?_, h2 _ _ ?_, by omega, by omega, by omega, by omega⟩
  · unfold Blk; rw [hw]; exact Blk_new _ _ _ _ (by simp)
  · rw [hw]; exact heap_keep (heap_keep (MapKept.heap_alloc w _).1 _) _
  · rw [hw]; exact heap_keep (by have := (MapKept.heap_alloc (w.alloc (.map es1 k1)) (.map es2 k2)).1; simpa using this) _
theorem wcl2 (hw : W.heap = (((w.alloc (.map es2 k2)).alloc (.map es1 k1)).alloc (.cells #[.map (some (w.heap.size + 1)), .map (some w.heap.size)] 140)).heap) :
    WdAt w W (w.heap.size + 1 + 1) (w.heap.size + 1) w.heap.size d := by
  refine ⟨?_, h1 _ _ ?_, h2 _ _ ?_, by omega, by omega, by omega, by omega⟩
  · unfold Blk; rw [hw]; exact Blk_new _ _ _ _ (by simp)
  · rw [hw]; exact heap_keep (by have := (MapKept.heap_alloc (w.alloc (.map es2 k2)) (.map es1 k1)).1; simpa using this) _
  · rw [hw]; exact heap_keep (heap_keep (MapKept.heap_alloc w _).1 _) _
end
/-- A clone of what is known. -/
def WdNew (w : World) (d : Wd) (e : Ending) (w' : World) : Prop := ∃ b g1 g2, e = .returned (.pointer (some ⟨b, 0, none⟩)) ∧ WdAt w w' b g1 g2 d ∧ Below w.heap.size w w'
set_option maxRecDepth 100000 in
set_option maxHeartbeats 4000000 in
theorem wclone_calls (w0 : World) (b g1 g2 : Nat) (d : Wd) (w : World) (h : WdAt w0 w b g1 g2 d) :
    Calls Tryz.prog 54 #[.pointer (some ⟨b, 0, none⟩)] w (WdNew w d) := by
  obtain ⟨es1, k1, hm1, hx1⟩ := MapAt.obj h.fx
  obtain ⟨es2, k2, hm2, hx2⟩ := MapAt.obj h.pk
  have hl1 : g1 < w.heap.size := MapAt.lt h.fx
  have hl2 : g2 < w.heap.size := MapAt.lt h.pk
  have c0 : w.cell? ⟨b, 0, none⟩ = some (.map (some g1)) := h.blk.cell 0
  have c1 : w.cell? ⟨b, 1, none⟩ = some (.map (some g2)) := h.blk.cell 1
  have hlb : b < w.heap.size := h.blk.lt
  have HX1 := Lib.hid hx1; have HX2 := Lib.hid hx2; have HM1 := Lib.hid hm1; have HM2 := Lib.hid hm2
  unfold WdNew
  clear h hx1 hx2 hm1 hm2
  go_enter Tryz.func54, Tryz.ntmps54
  go_wp2_with fail
  go_region_with (first | (go_at_call 85; refine (mclone_F g1 es1 k1 _ (by first | exact HM1.out | exact heap_keep HM1.out _)).mono ?_; rintro e w' ⟨rfl, rfl⟩) | (go_at_call 86; refine (mclone_C g2 es2 k2 _ (by first | exact HM2.out | exact heap_keep HM2.out _)).mono ?_; rintro e w' ⟨rfl, rfl⟩))
  all_goals go_wp2_with fail
  all_goals go_ret
  all_goals first
    | exact ⟨_, _, _, rfl, wcl1 HX1.out HX2.out rfl, by repeat (first | exact bl_refl _ | refine bl_alloc ?_ _ | refine bl_drew ?_)⟩
    | exact ⟨_, _, _, rfl, wcl2 HX1.out HX2.out rfl, by repeat (first | exact bl_refl _ | refine bl_alloc ?_ _ | refine bl_drew ?_)⟩
end Go.Proofs.YtnekcijganhknaaGreatDoor
