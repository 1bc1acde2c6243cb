/- The walk of EventSame. -/
import Derived.Test.YtapbkomicihkkaaGreatDoorPlan1
import Derived.Test.YtapbkomicihkkaaGreatDoorDo0
import Derived.Test.YtapbkomicihkkaaGreatDoorEventG
import Derived.Test.YtapbkomicihkkaaGreatDoorDo2
import Derived.Test.YtapbkomicihkkaaGreatDoorDo3G
import Derived.Test.YtapbkomicihkkaaGreatDoorDo4G
import Derived.Test.YtapbkomicihkkaaGreatDoorDo5
import Derived.Test.YtapbkomicihkkaaGreatDoorDo6
import Derived.Test.YtapbkomicihkkaaGreatDoorPlainG
namespace Go.Proofs.YtapbkomicihkkaaGreatDoor
open Go.RowKit
set_option linter.unusedVariables false
set_option linter.unusedSimpArgs false

theorem Ob.fine_meas : ∀ (o : Ob), o.fine → o.meas = o.parts
  | .const _, _ => rfl
  | .fix _, _ => rfl
  | .add l r, h => by have := l.fine_meas h.1; have := r.fine_meas h.2; simp only [Ob.meas, Ob.parts]; omega
  | .mul l r, h => by have := l.fine_meas h.1; have := r.fine_meas h.2; simp only [Ob.meas, Ob.parts]; omega
  | .max l r, h => by have := l.fine_meas h.1; have := r.fine_meas h.2; simp only [Ob.meas, Ob.parts]; omega
  | .neg o, h => by have := o.fine_meas h; simp only [Ob.meas, Ob.parts]; omega
  | .odd _, h => h.elim
theorem Tm.fine_meas : ∀ (o : Tm), o.fine → o.meas = o.parts
  | .zero, _ => rfl
  | .one _, _ => rfl
  | .give t, h => by have := t.fine_meas h; simp only [Tm.meas, Tm.parts]; omega
  | .and l r, h => by have := l.fine_meas h.1; have := r.fine_meas h.2; simp only [Tm.meas, Tm.parts]; omega
  | .or _ l r, h => by have := l.fine_meas h.2.1; have := r.fine_meas h.2.2; simp only [Tm.meas, Tm.parts]; omega
  | .scale o t, h => by have := o.fine_meas h.1; have := t.fine_meas h.2; simp only [Tm.meas, Tm.parts]; omega
  | .when_ _ t, h => by have := t.fine_meas h.2; simp only [Tm.meas, Tm.parts]; omega
  | .if_ o l r, h => by have := o.fine_meas h.1; have := l.fine_meas h.2.1; have := r.fine_meas h.2.2; simp only [Tm.meas, Tm.parts]; omega
  | .odd _, h => h.elim
theorem Ob.same_self : ∀ (o : Ob), o.fine → o.same o = true
  | .const _, _ => by simp [Ob.same]
  | .fix _, _ => by simp [Ob.same]
  | .add l r, h => by simp [Ob.same, l.same_self h.1, r.same_self h.2]
  | .mul l r, h => by simp [Ob.same, l.same_self h.1, r.same_self h.2]
  | .max l r, h => by simp [Ob.same, l.same_self h.1, r.same_self h.2]
  | .neg o, h => by simp [Ob.same, o.same_self h]
  | .odd _, h => h.elim
theorem Tm.same_self : ∀ (o : Tm), o.fine → o.same o = true
  | .zero, _ => by simp [Tm.same]
  | .one _, _ => by simp [Tm.same]
  | .give t, h => by simp [Tm.same, t.same_self h]
  | .and l r, h => by simp [Tm.same, l.same_self h.1, r.same_self h.2]
  | .or _ l r, h => by simp [Tm.same, l.same_self h.2.1, r.same_self h.2.2]
  | .scale o t, h => by simp [Tm.same, o.same_self h.1, t.same_self h.2]
  | .when_ _ t, h => by simp [Tm.same, t.same_self h.2]
  | .if_ o l r, h => by simp [Tm.same, o.same_self h.1, l.same_self h.2.1, r.same_self h.2.2]
  | .odd _, h => h.elim
theorem Ob.same_meas : ∀ (o p : Ob), o.same p = true → o.meas = p.meas := by
  intro o
  induction o with
  | const _ => intro p h; cases p <;> simp_all [Ob.same, Ob.meas]
  | fix _ => intro p h; cases p <;> simp_all [Ob.same, Ob.meas]
  | odd _ => intro p h; cases p <;> simp_all [Ob.same, Ob.meas]
  | neg o ih => intro p h; cases p <;> simp [Ob.same] at h; simp only [Ob.meas]; rw [ih _ h]
  | add l r h1 h2 => intro p h; cases p <;> simp [Ob.same] at h; simp only [Ob.meas]; rw [h1 _ h.1, h2 _ h.2]
  | mul l r h1 h2 => intro p h; cases p <;> simp [Ob.same] at h; simp only [Ob.meas]; rw [h1 _ h.1, h2 _ h.2]
  | max l r h1 h2 => intro p h; cases p <;> simp [Ob.same] at h; simp only [Ob.meas]; rw [h1 _ h.1, h2 _ h.2]
theorem Tm.same_meas : ∀ (o p : Tm), o.same p = true → o.meas = p.meas := by
  intro o
  induction o with
  | zero => intro p h; cases p <;> simp_all [Tm.same, Tm.meas]
  | one _ => intro p h; cases p <;> simp_all [Tm.same, Tm.meas]
  | odd _ => intro p h; cases p <;> simp_all [Tm.same, Tm.meas]
  | give o ih => intro p h; cases p <;> simp [Tm.same] at h; simp only [Tm.meas]; rw [ih _ h]
  | and l r h1 h2 => intro p h; cases p <;> simp [Tm.same] at h; simp only [Tm.meas]; rw [h1 _ h.1, h2 _ h.2]
  | or s l r h1 h2 => intro p h; cases p <;> simp [Tm.same] at h; simp only [Tm.meas]; rw [h1 _ h.2.1, h2 _ h.2.2]
  | scale o t h2 => intro p h; cases p <;> simp [Tm.same] at h; simp only [Tm.meas]; rw [Ob.same_meas _ _ h.1, h2 _ h.2]
  | when_ n t h2 => intro p h; cases p <;> simp [Tm.same] at h; simp only [Tm.meas]; rw [h2 _ h.2]
  | if_ o l r h1 h2 => intro p h; cases p <;> simp [Tm.same] at h; simp only [Tm.meas]; rw [Ob.same_meas _ _ h.1, h1 _ h.2.1, h2 _ h.2.2]
theorem Tm.same_give (t : Tm) : t.same (.give t) = false := by
  cases h : t.same (.give t) with
  | false => rfl
  | true => have := t.same_meas _ h; simp only [Tm.meas] at this; omega
end Go.Proofs.YtapbkomicihkkaaGreatDoor
namespace Go.Proofs.YtapbkomicihkkaaGreatDoor
open Go.RowKit
set_option linter.unusedVariables false
set_option linter.unusedSimpArgs false

theorem Ev.same_of_rest {a b : Ev} (h : a.rest b = false) : a.same b = false := by unfold Ev.same; rw [h]; simp
theorem ba_longer (s t : ByteArray) (h : 0 < t.size) : (s.toList == (s ++ t).toList) = false ∧ ((s ++ t).toList == s.toList) = false := by
  have hne : s.toList ≠ (s ++ t).toList := by
    intro e
    have e2 := congrArg List.length e
    rw [ByteArray.toList_eq, ByteArray.toList_eq, ba_append, List.length_append, ba_len, ba_len] at e2
    omega
  exact ⟨by simpa using hne, by simpa using fun e => hne e.symm⟩
theorem xor_one (n : Int) (h : IsInt64 n) : bits .xor .i64 n 1 ≠ n ∧ IsInt64 (bits .xor .i64 n 1) := by
  have hb : bits .xor .i64 n 1 = IntKind.i64.wrap ((BitVec.ofInt 64 n ^^^ BitVec.ofInt 64 1).toNat : Int) := rfl
  have hw : ∀ r : BitVec 64, IntKind.i64.wrap (r.toNat : Int) = r.toInt := by
    intro r
    have h1 := r.isLt
    rw [BitVec.toInt_eq_toNat_cond]
    rw [IntKind.wrap_i64]
    split <;> omega
  rw [hb, hw]
  unfold IsInt64 at *
  refine ⟨fun e => ?_, ?_⟩
  · have hn : (BitVec.ofInt 64 n).toInt = n := by
      rw [BitVec.toInt_ofInt]
      exact Int.bmod_eq_of_le (by omega) (by omega)
    have h2 : BitVec.ofInt 64 n ^^^ BitVec.ofInt 64 1 = BitVec.ofInt 64 n := BitVec.eq_of_toInt_eq (by rw [e, hn])
    have h3 := congrArg (fun z => BitVec.ofInt 64 n ^^^ z) h2
    simp [← BitVec.xor_assoc] at h3
  · generalize BitVec.ofInt 64 n ^^^ BitVec.ofInt 64 1 = r
    have h1 := BitVec.toInt_lt (x := r)
    have h2 := BitVec.le_toInt (x := r)
    simp at h1 h2
    omega
/-- One thing of an event turned. -/
def turnX (x : Ev) : Nat → Ev
  | 0 => { x with kind := x.kind + 1 }
  | 1 => { x with id := x.id ++ ⟨#[120]⟩ }
  | 2 => { x with name := x.name ++ ⟨#[120]⟩ }
  | 3 => { x with label := x.label ++ ⟨#[120]⟩ }
  | 4 => { x with cur := x.cur ++ ⟨#[120]⟩ }
  | 5 => { x with day := bits .xor .i64 x.day 1 }
  | 6 => { x with value := bits .xor .i64 x.value 1 }
  | _ => { x with term := if x.term.isNil then .zero else .odd .nilIface }
theorem turnX_ok (x : Ev) (h : x.fit) (k : Nat) : (turnX x k).ok := by
  have hk : IsInt64 x.kind := by have := h.kind; unfold IsInt64; omega
  have hk1 : IsInt64 (x.kind + 1) := by have := h.kind; unfold IsInt64; omega
  unfold turnX
  split
  · exact ⟨hk1, h.day, h.value, h.term.ok⟩
  · exact ⟨hk, h.day, h.value, h.term.ok⟩
  · exact ⟨hk, h.day, h.value, h.term.ok⟩
  · exact ⟨hk, h.day, h.value, h.term.ok⟩
  · exact ⟨hk, h.day, h.value, h.term.ok⟩
  · exact ⟨hk, (xor_one _ h.day).2, h.value, h.term.ok⟩
  · exact ⟨hk, h.day, (xor_one _ h.value).2, h.term.ok⟩
  · refine ⟨hk, h.day, h.value, ?_⟩
    show Tm.ok (if _ then _ else _)
    split
    · trivial
    · exact .inl rfl
theorem fit_ok {x : Ev} (h : x.fit) : x.ok := ⟨by have := h.kind; unfold IsInt64; omega, h.day, h.value, h.term.ok⟩
theorem beq_succ (n : Int) : (n == n + 1) = false ∧ (n + 1 == n) = false := by constructor <;> simp <;> omega
theorem turnX_same (x : Ev) (h : x.fit) (k : Nat) : x.same (turnX x k) = false ∧ (turnX x k).same x = false := by
  unfold turnX
  split
  · obtain ⟨h1, h2⟩ := beq_succ x.kind; exact ⟨Ev.same_of_rest (by simp only [Ev.rest, h1]; simp), Ev.same_of_rest (by simp only [Ev.rest, h2]; simp)⟩
  · obtain ⟨h1, h2⟩ := ba_longer x.id ⟨#[120]⟩ (by decide); exact ⟨Ev.same_of_rest (by simp only [Ev.rest, h1, h2]; simp), Ev.same_of_rest (by simp only [Ev.rest, h1, h2]; simp)⟩
  · obtain ⟨h1, h2⟩ := ba_longer x.name ⟨#[120]⟩ (by decide); exact ⟨Ev.same_of_rest (by simp only [Ev.rest, h1, h2]; simp), Ev.same_of_rest (by simp only [Ev.rest, h1, h2]; simp)⟩
  · obtain ⟨h1, h2⟩ := ba_longer x.label ⟨#[120]⟩ (by decide); exact ⟨Ev.same_of_rest (by simp only [Ev.rest, h1, h2]; simp), Ev.same_of_rest (by simp only [Ev.rest, h1, h2]; simp)⟩
  · obtain ⟨h1, h2⟩ := ba_longer x.cur ⟨#[120]⟩ (by decide); exact ⟨Ev.same_of_rest (by simp only [Ev.rest, h1, h2]; simp), Ev.same_of_rest (by simp only [Ev.rest, h1, h2]; simp)⟩
  · have h1 := (xor_one _ h.day).1
    have e1 : (bits .xor .i64 x.day 1 == x.day) = false := by simpa using h1
    have e2 : (x.day == bits .xor .i64 x.day 1) = false := by simpa using fun e => h1 e.symm
    exact ⟨Ev.same_of_rest (by simp only [Ev.rest, e1, e2]; simp), Ev.same_of_rest (by simp only [Ev.rest, e1, e2]; simp)⟩
  · have h1 := (xor_one _ h.value).1
    have e1 : (bits .xor .i64 x.value 1 == x.value) = false := by simpa using h1
    have e2 : (x.value == bits .xor .i64 x.value 1) = false := by simpa using fun e => h1 e.symm
    exact ⟨Ev.same_of_rest (by simp only [Ev.rest, e1, e2]; simp), Ev.same_of_rest (by simp only [Ev.rest, e1, e2]; simp)⟩
  · have hf := h.term
    rcases hf with e | hf
    · have en : x.term.isNil = true := by rw [e]; rfl
      have h1 : x.terms { x with term := .zero } = false := by unfold Ev.terms; rw [e]; rfl
      have h2 : Ev.terms { x with term := .zero } x = false := by unfold Ev.terms; rw [e]; rfl
      rw [en]
      exact ⟨by simp only [if_true, Ev.same, h1]; rfl, by simp only [if_true, Ev.same, h2]; rfl⟩
    · have en : x.term.isNil = false := by
        cases hx : x.term with
        | odd v => rw [hx] at hf; exact hf.1.elim
        | _ => rfl
      have hs1 : x.term.same (.odd .nilIface) = false := by cases hx : x.term <;> simp [Tm.same]
      have hs2 : (Tm.odd .nilIface).same x.term = false := by cases hx : x.term <;> simp [Tm.same]
      rw [en]
      refine ⟨?_, ?_⟩
      · show (((x.term.isNil && _) || x.term.same (.odd .nilIface)) && _) = false
        rw [en, hs1]; rfl
      · show (((_ && x.term.isNil) || (Tm.odd .nilIface).same x.term) && _) = false
        rw [en, hs2]; rfl
theorem fit_same {x : Ev} (h : x.fit) : x.same x = true := by
  have ht : x.terms x = true := by
    unfold Ev.terms
    rcases h.term with e | hf
    · rw [e]; rfl
    · rw [x.term.same_self hf.1]; simp
  unfold Ev.same
  rw [ht]
  simp [Ev.rest]
end Go.Proofs.YtapbkomicihkkaaGreatDoor
namespace Go.Proofs.YtapbkomicihkkaaGreatDoor
open Go.RowKit
set_option linter.unusedVariables false
set_option linter.unusedSimpArgs false

theorem do_calls (w : World) (c : Cm) (vN vW : Value) (hc : c.ok) (hp : PlanAt w vN vW) (day : Int) (hday : 0 ≤ day ∧ day ≤ 1000000) :
    Calls Tryz.prog 34 #[.pointer none, c.val vN vW, .int .i64 day] w (GivesEv w) := by
  have h0 := Int.emod_nonneg c.kind (show (20 : Int) ≠ 0 by omega)
  have h1 := Int.emod_lt_of_pos c.kind (show (0 : Int) < 20 by omega)
  by_cases ha : c.kind % 20 = 0
  · exact do_a w c vN vW hc hp day hday ha
  by_cases hb : c.kind % 20 < 7
  · exact do_b w c vN vW hc hp day hday ⟨by omega, hb⟩
  by_cases hcc : c.kind % 20 < 11
  · exact do_c w c vN vW hc hp day hday ⟨by omega, hcc⟩
  by_cases hd : c.kind % 20 < 14
  · exact do_d w c vN vW hc hp day hday ⟨by omega, hd⟩
  by_cases he : c.kind % 20 < 17
  · exact do_e w c vN vW hc hp day hday ⟨by omega, he⟩
  by_cases hf : c.kind % 20 < 19
  · exact do_f w c vN vW hc hp day hday ⟨by omega, hf⟩
  exact do_g w c vN vW hc hp day hday (by omega)
end Go.Proofs.YtapbkomicihkkaaGreatDoor
namespace Go.Proofs.YtapbkomicihkkaaGreatDoor
open Go.RowKit
set_option linter.unusedVariables false
set_option linter.unusedSimpArgs false

theorem results_S {fn : Func} {t u b : Tmp} (h : fn.results = #[.cell t 30, .cell u 35, .tmp b]) (tmps : Array Value) (W : World) (r q : Nat) (a0 a1 a2 a3 a4 a5 a6 a7 b0 b1 b2 b3 b4 b5 b6 b7 b8 b9 b10 z : Value) (ty tz : TypeId) (ht : tmps.getD t undef = .pointer (some ⟨r, 0, none⟩)) (hu : tmps.getD u undef = .pointer (some ⟨q, 0, none⟩)) (hz : tmps.getD b undef = z) (hk : Blk W r #[a0, a1, a2, a3, a4, a5, a6, a7] ty) (hm : Blk W q #[b0, b1, b2, b3, b4, b5, b6, b7, b8, b9, b10] tz) :
    (results fn tmps).run Tryz.prog W = .ok (.tuple #[.agg #[a0, a1, a2, a3, a4, a5, a6, a7], .agg #[b0, b1, b2, b3, b4, b5, b6, b7, b8, b9, b10], z]) W := by
  obtain ⟨k0, k1, k2, k3, k4, k5, k6, k7⟩ := hk.eight
  obtain ⟨m0, m1, m2, m3, m4, m5, m6, m7, m8, m9, m10⟩ := hm.eleven
  have ht' : tmps[t]?.getD undef = .pointer (some ⟨r, 0, none⟩) := by simpa using ht
  have hu' : tmps[u]?.getD undef = .pointer (some ⟨q, 0, none⟩) := by simpa using hu
  have hz' : tmps[b]?.getD undef = z := by simpa using hz
  simp [results, h, ht', hu', hz', go_sem, k0, k1, k2, k3, k4, k5, k6, k7, m0, m1, m2, m3, m4, m5, m6, m7, m8, m9, m10]
set_option maxRecDepth 100000 in
set_option maxHeartbeats 8000000 in
theorem some_calls (w : World) (c : Cm) (vN vW : Value) (hc : c.ok) (hp : PlanAt w vN vW) (f v odd : Int) (s : ByteArray) (hf : IsInt64 f) (hv : IsInt64 v) (hs : s.size ≤ 9223372036854775807) (hod : odd.tmod 11 ≠ 10) :
    Calls Tryz.prog 9 #[c.val vN vW, .int .i64 f, .int .i64 v, .string s, .int .i64 odd] w (RetSome w) := by
  obtain ⟨⟨A, n, cc, xs, rfl, hn⟩, ⟨A', n', cc', xs', rfl, hn'⟩⟩ := (show PlanAt w vN vW from hp)
  clear hn hn'
  unfold RetSome
  have hf2 := hf
  unfold IsInt64 at hf2
  have hv2 := hv
  unfold IsInt64 at hv2
  have hw20 := fun W => within_calls f 20 W (by omega) (by omega)
  have hw9 := fun W => within_calls v 9 W (by omega) (by omega)
  have hk0 := Int.emod_nonneg v (show (9 : Int) ≠ 0 by omega)
  have hk1 := Int.emod_lt_of_pos v (show (0 : Int) < 9 by omega)
  have htx := fun W => text_calls s 16 hs (by omega) W
  have htz : (s.extract 0 (min s.size 16)).size ≤ 100 := by simp; omega
  generalize s.extract 0 (min s.size 16) = tx at *
  generalize f % 20 = fk at *
  generalize v % 9 = km at *
  have HKM : Hid (0 ≤ km ∧ km ≤ 8) := ⟨hk0, by omega⟩
  have hsz1 : w.heap.size + 1 + 1 < (((w.alloc (.cells #[.int .i64 c.kind, .int .i64 c.a, .int .i64 c.b, .int .i64 c.day, .int .i64 c.value, .string c.word, .slice A n cc, .slice A' n' cc'] 27)).alloc (.cells #[.int .i64 0, .string ⟨#[]⟩, .string ⟨#[]⟩, .string ⟨#[]⟩, .string ⟨#[]⟩, .int .i64 0, .int .i64 0, .nilIface] 30)).alloc (.cells #[.int .i64 0, .string ⟨#[]⟩, .string ⟨#[]⟩, .string ⟨#[]⟩, .string ⟨#[]⟩, .int .i64 0, .int .i64 0, .int .i64 0, .string ⟨#[]⟩, .int .i64 0, .slice none 0 0] 35)).heap.size := by rw [alloc_size, alloc_size, alloc_size]; omega
  have hbC := (Blk.new w #[.int .i64 c.kind, .int .i64 c.a, .int .i64 c.b, .int .i64 c.day, .int .i64 c.value, .string c.word, .slice A n cc, .slice A' n' cc'] 27).below (bl_alloc (bl_refl _) (.cells #[.int .i64 0, .string ⟨#[]⟩, .string ⟨#[]⟩, .string ⟨#[]⟩, .string ⟨#[]⟩, .int .i64 0, .int .i64 0, .nilIface] 30))
  have hkC := hbC.below (bl_alloc (bl_refl _) (.cells #[.int .i64 0, .string ⟨#[]⟩, .string ⟨#[]⟩, .string ⟨#[]⟩, .string ⟨#[]⟩, .int .i64 0, .int .i64 0, .int .i64 0, .string ⟨#[]⟩, .int .i64 0, .slice none 0 0] 35))
  have hkA := (Blk_new (w.alloc (.cells #[.int .i64 c.kind, .int .i64 c.a, .int .i64 c.b, .int .i64 c.day, .int .i64 c.value, .string c.word, .slice A n cc, .slice A' n' cc'] 27)) #[.int .i64 0, .string ⟨#[]⟩, .string ⟨#[]⟩, .string ⟨#[]⟩, .string ⟨#[]⟩, .int .i64 0, .int .i64 0, .nilIface] 30 (w.heap.size + 1) (alloc_size _ _).symm).below (bl_alloc (bl_refl _) (.cells #[.int .i64 0, .string ⟨#[]⟩, .string ⟨#[]⟩, .string ⟨#[]⟩, .string ⟨#[]⟩, .int .i64 0, .int .i64 0, .int .i64 0, .string ⟨#[]⟩, .int .i64 0, .slice none 0 0] 35))
  have hkB := Blk_new ((w.alloc (.cells #[.int .i64 c.kind, .int .i64 c.a, .int .i64 c.b, .int .i64 c.day, .int .i64 c.value, .string c.word, .slice A n cc, .slice A' n' cc'] 27)).alloc (.cells #[.int .i64 0, .string ⟨#[]⟩, .string ⟨#[]⟩, .string ⟨#[]⟩, .string ⟨#[]⟩, .int .i64 0, .int .i64 0, .nilIface] 30)) #[.int .i64 0, .string ⟨#[]⟩, .string ⟨#[]⟩, .string ⟨#[]⟩, .string ⟨#[]⟩, .int .i64 0, .int .i64 0, .int .i64 0, .string ⟨#[]⟩, .int .i64 0, .slice none 0 0] 35 (w.heap.size + 1 + 1) (by rw [alloc_size, alloc_size])
  have hb1 := bl_alloc (bl_alloc (bl_alloc (bl_refl w) (.cells #[.int .i64 c.kind, .int .i64 c.a, .int .i64 c.b, .int .i64 c.day, .int .i64 c.value, .string c.word, .slice A n cc, .slice A' n' cc'] 27)) (.cells #[.int .i64 0, .string ⟨#[]⟩, .string ⟨#[]⟩, .string ⟨#[]⟩, .string ⟨#[]⟩, .int .i64 0, .int .i64 0, .nilIface] 30)) (.cells #[.int .i64 0, .string ⟨#[]⟩, .string ⟨#[]⟩, .string ⟨#[]⟩, .string ⟨#[]⟩, .int .i64 0, .int .i64 0, .int .i64 0, .string ⟨#[]⟩, .int .i64 0, .slice none 0 0] 35)
  obtain ⟨W1, hW1⟩ : ∃ W1, ((w.alloc (.cells #[.int .i64 c.kind, .int .i64 c.a, .int .i64 c.b, .int .i64 c.day, .int .i64 c.value, .string c.word, .slice A n cc, .slice A' n' cc'] 27)).alloc (.cells #[.int .i64 0, .string ⟨#[]⟩, .string ⟨#[]⟩, .string ⟨#[]⟩, .string ⟨#[]⟩, .int .i64 0, .int .i64 0, .nilIface] 30)).alloc (.cells #[.int .i64 0, .string ⟨#[]⟩, .string ⟨#[]⟩, .string ⟨#[]⟩, .string ⟨#[]⟩, .int .i64 0, .int .i64 0, .int .i64 0, .string ⟨#[]⟩, .int .i64 0, .slice none 0 0] 35) = W1 := ⟨_, rfl⟩
  rw [hW1] at hsz1 hkC hkA hkB hb1
  have hdo := do_calls W1 c _ _ hc (hp.below hb1) 3 (by omega)
  unfold GivesEv at hdo
  unfold Cm.val at hdo ⊢
  obtain ⟨p0, p1, p2, p3, p4, p5, p6, p7⟩ := hkC.eight
  have HW1 := Lib.hid hW1; have HDO := Lib.hid hdo; have HKA := Lib.hid hkA; have HKB := Lib.hid hkB; have HB1 := Lib.hid hb1; have HS1 := Lib.hid hsz1; have HW20 := Lib.hid hw20; have HW9 := Lib.hid hw9; have HTX := Lib.hid htx; have HTZ := Lib.hid htz; have HV := Lib.hid hv
  clear hW1 hdo hkA hkB hb1 hsz1 hw20 hw9 htx htz hv hf hbC hkC hc hp hk0 hk1 hs
  go_enter Tryz.func9, Tryz.ntmps9
  go_upto_region 1 with fail
  rw [HW1.out]
  clear HW1
  go_wp2_with fail
  refine (HDO.out).mono ?_
  rintro en w2 ⟨e0, x0, rfl, hE0, hF0, hb2⟩
  obtain ⟨c0, c1, c2, c3, rfl, hT0⟩ := hE0
  obtain ⟨A9, c9, cs9, hag, -, -⟩ := hT0.open_
  have hcc : c0 = .int .i64 e0.term.tr.kind ∧ c1 = .string e0.term.tr.s ∧ c2 = .int .i64 e0.term.tr.n ∧ c3 = .slice A9 e0.term.tr.ks.length c9 := by injection hag with hag; simp at hag; exact hag
  obtain ⟨h0, h1, h2, h3⟩ := hcc
  subst h0 h1 h2 h3
  clear hag p0 p1 p2 p3 p4 p5 p6 p7 HDO
  have HT0 := Lib.hid hT0; have HF := Lib.hid hF0; have HB2 := Lib.hid hb2
  clear hT0 hF0 hb2
  go_upto_region 2 with fail
  have hkE := Blk.new w2 #[.int .i64 e0.kind, .string e0.id, .string e0.name, .string e0.label, .string e0.cur, .int .i64 e0.day, .int .i64 e0.value, .int .i64 e0.term.tr.kind, .string e0.term.tr.s, .int .i64 e0.term.tr.n, .slice A9 e0.term.tr.ks.length c9] 35
  have hbE := bl_alloc (bl_refl w2) (.cells #[.int .i64 e0.kind, .string e0.id, .string e0.name, .string e0.label, .string e0.cur, .int .i64 e0.day, .int .i64 e0.value, .int .i64 e0.term.tr.kind, .string e0.term.tr.s, .int .i64 e0.term.tr.n, .slice A9 e0.term.tr.ks.length c9] 35)
  obtain ⟨W3, hW3⟩ : ∃ W3, w2.alloc (.cells #[.int .i64 e0.kind, .string e0.id, .string e0.name, .string e0.label, .string e0.cur, .int .i64 e0.day, .int .i64 e0.value, .int .i64 e0.term.tr.kind, .string e0.term.tr.s, .int .i64 e0.term.tr.n, .slice A9 e0.term.tr.ks.length c9] 35) = W3 := ⟨_, rfl⟩
  rw [hW3] at hkE hbE ⊢
  have HKE := Lib.hid hkE; have HBE := Lib.hid hbE
  clear hW3 hkE hbE
  go_wp2_with fail
  refine (HW20.out _).mono ?_
  rintro en w4 ⟨rfl, rfl⟩
  obtain ⟨y0, y1, y2, y3, y4, y5, y6, y7, y8, y9, y10⟩ := HKE.out.eleven
  have yz := fun j => HKE.out.frozen j
  go_upto_block 0 with fail
  go_cut [] (fun wx => ∃ e : Ev, e.term = e0.term ∧ e.fit ∧ Blk wx w2.heap.size #[.int .i64 e.kind, .string e.id, .string e.name, .string e.label, .string e.cur, .int .i64 e.day, .int .i64 e.value, .int .i64 e0.term.tr.kind, .string e0.term.tr.s, .int .i64 e0.term.tr.n, .slice A9 e0.term.tr.ks.length c9] 35 ∧ Below w2.heap.size w2 wx)
  case first =>
    by_cases g0 : fk = 0
    · subst g0
      go_wp2_with fail
      refine (HW9.out _).mono ?_
      rintro en wq ⟨rfl, rfl⟩
      go_wp2_with fail
      go_meet
      have hE := HKE.out.set 0 (.int .i64 km)
      simp only [List.setIfInBounds_toArray, List.set_cons_zero, List.set_cons_succ] at hE
      have F := HF.out
      exact ⟨⟨km, e0.id, e0.name, e0.label, e0.cur, e0.day, e0.value, e0.term⟩, rfl, ⟨HKM.out, F.id, F.name, F.label, F.cur, F.day, F.value, F.term⟩, hE, bl_grown HBE.out (gb_set 0 (.int .i64 km)) (Nat.le_refl _)⟩
    have g0b : (fk == 0) = false := by simpa using g0
    by_cases g1 : fk = 1
    · subst g1
      go_wp2_with fail
      refine (HTX.out _).mono ?_
      rintro en wq ⟨rfl, rfl⟩
      go_wp2_with fail
      go_meet
      have hE := HKE.out.set 1 (.string tx)
      simp only [List.setIfInBounds_toArray, List.set_cons_zero, List.set_cons_succ] at hE
      have F := HF.out
      exact ⟨⟨e0.kind, tx, e0.name, e0.label, e0.cur, e0.day, e0.value, e0.term⟩, rfl, ⟨F.kind, HTZ.out, F.name, F.label, F.cur, F.day, F.value, F.term⟩, hE, bl_grown HBE.out (gb_set 1 (.string tx)) (Nat.le_refl _)⟩
    have g1b : (fk == 1) = false := by simpa using g1
    by_cases g2 : fk = 2
    · subst g2
      go_wp2_with fail
      refine (HTX.out _).mono ?_
      rintro en wq ⟨rfl, rfl⟩
      go_wp2_with fail
      go_meet
      have hE := HKE.out.set 2 (.string tx)
      simp only [List.setIfInBounds_toArray, List.set_cons_zero, List.set_cons_succ] at hE
      have F := HF.out
      exact ⟨⟨e0.kind, e0.id, tx, e0.label, e0.cur, e0.day, e0.value, e0.term⟩, rfl, ⟨F.kind, F.id, HTZ.out, F.label, F.cur, F.day, F.value, F.term⟩, hE, bl_grown HBE.out (gb_set 2 (.string tx)) (Nat.le_refl _)⟩
    have g2b : (fk == 2) = false := by simpa using g2
    by_cases g3 : fk = 3
    · subst g3
      go_wp2_with fail
      refine (HTX.out _).mono ?_
      rintro en wq ⟨rfl, rfl⟩
      go_wp2_with fail
      go_meet
      have hE := HKE.out.set 3 (.string tx)
      simp only [List.setIfInBounds_toArray, List.set_cons_zero, List.set_cons_succ] at hE
      have F := HF.out
      exact ⟨⟨e0.kind, e0.id, e0.name, tx, e0.cur, e0.day, e0.value, e0.term⟩, rfl, ⟨F.kind, F.id, F.name, HTZ.out, F.cur, F.day, F.value, F.term⟩, hE, bl_grown HBE.out (gb_set 3 (.string tx)) (Nat.le_refl _)⟩
    have g3b : (fk == 3) = false := by simpa using g3
    by_cases g4 : fk = 4
    · subst g4
      go_wp2_with fail
      refine (HTX.out _).mono ?_
      rintro en wq ⟨rfl, rfl⟩
      go_wp2_with fail
      go_meet
      have hE := HKE.out.set 4 (.string tx)
      simp only [List.setIfInBounds_toArray, List.set_cons_zero, List.set_cons_succ] at hE
      have F := HF.out
      exact ⟨⟨e0.kind, e0.id, e0.name, e0.label, tx, e0.day, e0.value, e0.term⟩, rfl, ⟨F.kind, F.id, F.name, F.label, HTZ.out, F.day, F.value, F.term⟩, hE, bl_grown HBE.out (gb_set 4 (.string tx)) (Nat.le_refl _)⟩
    have g4b : (fk == 4) = false := by simpa using g4
    by_cases g5 : fk = 5
    · subst g5
      go_wp2_with fail
      go_meet
      have hE := HKE.out.set 5 (.int .i64 v)
      simp only [List.setIfInBounds_toArray, List.set_cons_zero, List.set_cons_succ] at hE
      have F := HF.out
      exact ⟨⟨e0.kind, e0.id, e0.name, e0.label, e0.cur, v, e0.value, e0.term⟩, rfl, ⟨F.kind, F.id, F.name, F.label, F.cur, HV.out, F.value, F.term⟩, hE, bl_grown HBE.out (gb_set 5 (.int .i64 v)) (Nat.le_refl _)⟩
    have g5b : (fk == 5) = false := by simpa using g5
    by_cases g6 : fk = 6
    · subst g6
      go_wp2_with fail
      go_meet
      have hE := HKE.out.set 6 (.int .i64 v)
      simp only [List.setIfInBounds_toArray, List.set_cons_zero, List.set_cons_succ] at hE
      have F := HF.out
      exact ⟨⟨e0.kind, e0.id, e0.name, e0.label, e0.cur, e0.day, v, e0.term⟩, rfl, ⟨F.kind, F.id, F.name, F.label, F.cur, F.day, HV.out, F.term⟩, hE, bl_grown HBE.out (gb_set 6 (.int .i64 v)) (Nat.le_refl _)⟩
    have g6b : (fk == 6) = false := by simpa using g6
    go_wp2_with fail
    go_meet
    exact ⟨e0, rfl, HF.out, HKE.out, HBE.out⟩
  clear y0 y1 y2 y3 y4 y5 y6 y7 y8 y9 y10 yz HKE HBE
  clear w4
  rename World => w5
  obtain ⟨e, het, hfe, hkE2, hbE2⟩ := hcut
  have hok := hfe.term.ok
  have hti := e.term.isI hok
  have hodb : (odd.tmod 11 == 10) = false := by simpa using hod
  have hbk := back_calls e hfe.term W1.heap.size w5 (.agg #[.int .i64 e.kind, .string e.id, .string e.name, .string e.label, .string e.cur, .int .i64 e.day, .int .i64 e.value, .int .i64 e0.term.tr.kind, .string e0.term.tr.s, .int .i64 e0.term.tr.n, .slice A9 e0.term.tr.ks.length c9]) ⟨_, _, _, _, rfl, by rw [het]; exact HT0.out.below hbE2⟩
  unfold RetEv at hbk
  unfold Ev.val at hbk
  have hev := fun W => event_calls e hok W
  unfold RetREv at hev
  unfold Ev.val at hev
  have HEV := Lib.hid hev; have HBK := Lib.hid hbk; have HFE := Lib.hid hfe
  have HA5 := Lib.hid ((HKA.out.below HB2.out).below hbE2); have HB5 := Lib.hid ((HKB.out.below HB2.out).below hbE2); have HL5 := Lib.hid (bl_step (bl_step hbE2 HB2.out) HB1.out)
  have HZ5 := Lib.hid (show w.heap.size + 1 + 1 < w5.heap.size from Nat.lt_of_lt_of_le HS1.out (Nat.le_trans HB2.out.size hbE2.size))
  obtain ⟨y0, y1, y2, y3, y4, y5, y6, y7, y8, y9, y10⟩ := hkE2.eleven
  clear hev hbk hfe hkE2 hbE2 het HT0 HKA HKB HB2 HB1 HS1 HF hf2 hv2
  go_wp2_with fail
  refine (HBK.out).mono ?_
  rintro en w6 ⟨rfl, hb6⟩
  clear y0 y1 y2 y3 y4 y5 y6 y7 y8 y9 y10
  go_upto_region 22 with fail
  obtain ⟨g5, hg5⟩ : ∃ g5, w6.heap.size = g5 := ⟨_, rfl⟩
  have hk7 := Blk_new w6 #[.int .i64 e.kind, .string e.id, .string e.name, .string e.label, .string e.cur, .int .i64 e.day, .int .i64 e.value, e.term.val] 30 g5 hg5.symm
  have hb7 := bl_alloc (bl_refl w6) (.cells #[.int .i64 e.kind, .string e.id, .string e.name, .string e.label, .string e.cur, .int .i64 e.day, .int .i64 e.value, e.term.val] 30)
  obtain ⟨W7, hW7⟩ : ∃ W7, w6.alloc (.cells #[.int .i64 e.kind, .string e.id, .string e.name, .string e.label, .string e.cur, .int .i64 e.day, .int .i64 e.value, e.term.val] 30) = W7 := ⟨_, rfl⟩
  rw [hg5, hW7]
  rw [hW7] at hk7 hb7
  have hg5s : w.heap.size + 1 + 1 < g5 := by rw [← hg5]; exact Nat.lt_of_lt_of_le HZ5.out hb6.size
  have hA7 := (HA5.out.below hb6).below hb7
  have hB7 := (HB5.out.below hb6).below hb7
  have hL7 := bl_step (bl_step hb7 hb6) HL5.out
  clear hW7 hg5 hb6 hb7 HA5 HB5 HL5 HZ5
  have HK7 := Lib.hid hk7; have HA7 := Lib.hid hA7; have HB7 := Lib.hid hB7; have HL7 := Lib.hid hL7
  clear hk7 hA7 hB7 hL7
  refine wp_region_noPanic ?_
  refine wp_region_held_drew (S := fun w' => w'.cell? ⟨g5, 0, none⟩ = some (.int .i64 e.kind) ∧ w'.cell? ⟨g5, 1, none⟩ = some (.string e.id) ∧ w'.cell? ⟨g5, 2, none⟩ = some (.string e.name) ∧ w'.cell? ⟨g5, 3, none⟩ = some (.string e.label) ∧ w'.cell? ⟨g5, 4, none⟩ = some (.string e.cur) ∧ w'.cell? ⟨g5, 5, none⟩ = some (.int .i64 e.day) ∧ w'.cell? ⟨g5, 6, none⟩ = some (.int .i64 e.value) ∧ w'.cell? ⟨g5, 7, none⟩ = some e.term.val) (by kernel_rfl) (by obtain ⟨k0, k1, k2, k3, k4, k5, k6, k7⟩ := HK7.out.eight; exact ⟨k0, k1, k2, k3, k4, k5, k6, k7⟩) (fun hH => ?_)
  refine wpAnyH_world (fun W => Below W7.heap.size W7 W) (bl_drew (bl_refl _)) (fun W8 hb8 => ?_)
  clear hH
  have hH : W8.cell? ⟨g5, 0, none⟩ = some (.int .i64 e.kind) ∧ W8.cell? ⟨g5, 1, none⟩ = some (.string e.id) ∧ W8.cell? ⟨g5, 2, none⟩ = some (.string e.name) ∧ W8.cell? ⟨g5, 3, none⟩ = some (.string e.label) ∧ W8.cell? ⟨g5, 4, none⟩ = some (.string e.cur) ∧ W8.cell? ⟨g5, 5, none⟩ = some (.int .i64 e.day) ∧ W8.cell? ⟨g5, 6, none⟩ = some (.int .i64 e.value) ∧ W8.cell? ⟨g5, 7, none⟩ = some e.term.val := by obtain ⟨k0, k1, k2, k3, k4, k5, k6, k7⟩ := (HK7.out.below hb8).eight; exact ⟨k0, k1, k2, k3, k4, k5, k6, k7⟩
  refine wpAnyH_take (i := 0) (oi := ⟨_, _, _, _, _, _⟩) (v := ?_) rfl (by kernel_rfl) (by kernel_rfl) (by kernel_rfl) (fun _ _ _ h => h) (Or.inl ⟨by rfl, ?_⟩) (by assumption) ?_
  rotate_left
  · intro w hSw; (try dsimp only at hSw); go_split_ands; go_simp; try with_reducible rfl
  (try dsimp only [Act.put, List.setIfInBounds_toArray, List.set_cons_zero, List.set_cons_succ])
  refine wpAnyH_take (i := 1) (oi := ⟨_, _, _, _, _, _⟩) (v := ?_) rfl (by kernel_rfl) (by kernel_rfl) (by kernel_rfl) (fun _ _ _ h => h) (Or.inl ⟨by rfl, ?_⟩) (by assumption) ?_
  rotate_left
  · intro w hSw; (try dsimp only at hSw); go_split_ands; go_simp; try with_reducible rfl
  (try dsimp only [Act.put, List.setIfInBounds_toArray, List.set_cons_zero, List.set_cons_succ])
  refine wpAnyH_take (i := 3) (oi := ⟨_, _, _, _, _, _⟩) (v := ?_) rfl (by kernel_rfl) (by kernel_rfl) (by kernel_rfl) (fun _ _ _ h => h) (Or.inl ⟨by rfl, ?_⟩) (by assumption) ?_
  rotate_left
  · intro w hSw; (try dsimp only at hSw); go_split_ands; go_simp; try with_reducible rfl
  (try dsimp only [Act.put, List.setIfInBounds_toArray, List.set_cons_zero, List.set_cons_succ])
  refine wpAnyH_ready (rs := [2]) (by kernel_rfl) (by simp) ?_
  refine AllReadyH.cons rfl (fun K hK => ?_) AllReadyH.nil
  (try go_simp)
  refine (HEV.out _).mono ?_
  rintro en W9 ⟨x9, rfl, hE9, hb9⟩
  obtain ⟨d0, d1, d2, d3, rfl, hT9⟩ := hE9
  obtain ⟨A8, c8, cs8, hag, -, -⟩ := hT9.open_
  have hdd : d0 = .int .i64 e.term.tr.kind ∧ d1 = .string e.term.tr.s ∧ d2 = .int .i64 e.term.tr.n ∧ d3 = .slice A8 e.term.tr.ks.length c8 := by injection hag with hag; simp at hag; exact hag
  obtain ⟨h0, h1, h2, h3⟩ := hdd
  subst h0 h1 h2 h3
  clear hag
  (try go_simp)
  have hb10 := bl_step hb9 hb8
  have hx9 : W7.heap.size ≤ W8.heap.size := hb8.size
  have hlt7 := HK7.out.lt
  have hT10 := hT9.mono (y := W7.heap.size) hx9
  obtain ⟨k0, k1, k2, k3, k4, k5, k6, k7⟩ := (HK7.out.below hb10).eight
  refine hK.out _ _ ⟨k0, k1, k2, k3, k4, k5, k6, k7⟩ (fun hH9 => ?_)
  clear hK K hH hb8 hb9 hT9 k0 k1 k2 k3 k4 k5 k6 k7 hx9
  (try simp only [Act.put, List.setIfInBounds_toArray, List.set_cons_zero, List.set_cons_succ])
  have hA10 := HA7.out.below hb10
  obtain ⟨k0, k1, k2, k3, k4, k5, k6, k7⟩ := hA10.eight
  have kz := fun j => hA10.frozen j
  refine wpAnyH_ready (rs := [4]) (by kernel_rfl) (by simp) ?_
  refine AllReadyH.cons rfl (fun K hK => ?_) AllReadyH.nil
  (try go_simp)
  have hA11 := hA10.set8 (.int .i64 e.kind) (.string e.id) (.string e.name) (.string e.label) (.string e.cur) (.int .i64 e.day) (.int .i64 e.value) e.term.val
  have hK11 := (HK7.out.below hb10).grown (gb_set8 W9 (w.heap.size + 1) (.int .i64 e.kind) (.string e.id) (.string e.name) (.string e.label) (.string e.cur) (.int .i64 e.day) (.int .i64 e.value) e.term.val) (fun e => by injection e with e; omega)
  have hB11 := (HB7.out.below hb10).grown (gb_set8 W9 (w.heap.size + 1) (.int .i64 e.kind) (.string e.id) (.string e.name) (.string e.label) (.string e.cur) (.int .i64 e.day) (.int .i64 e.value) e.term.val) (fun e => by injection e with e; omega)
  have hL11 := bl_grown (bl_step hb10 HL7.out) (gb_set8 W9 (w.heap.size + 1) (.int .i64 e.kind) (.string e.id) (.string e.name) (.string e.label) (.string e.cur) (.int .i64 e.day) (.int .i64 e.value) e.term.val) (by omega)
  have hT11 := hT10.grown (gb_set8 W9 (w.heap.size + 1) (.int .i64 e.kind) (.string e.id) (.string e.name) (.string e.label) (.string e.cur) (.int .i64 e.day) (.int .i64 e.value) e.term.val) (by omega)
  clear k0 k1 k2 k3 k4 k5 k6 k7
  refine hK.out _ _ (by obtain ⟨k0, k1, k2, k3, k4, k5, k6, k7⟩ := hK11.eight; exact ⟨k0, k1, k2, k3, k4, k5, k6, k7⟩) (fun hH8 => ?_)
  (try simp only [Act.put, List.setIfInBounds_toArray, List.set_cons_zero, List.set_cons_succ])
  refine wpAnyH_world (fun W => Blk W (w.heap.size + 1) #[.int .i64 e.kind, .string e.id, .string e.name, .string e.label, .string e.cur, .int .i64 e.day, .int .i64 e.value, e.term.val] 30 ∧ Blk W g5 #[.int .i64 e.kind, .string e.id, .string e.name, .string e.label, .string e.cur, .int .i64 e.day, .int .i64 e.value, e.term.val] 30 ∧ Blk W (w.heap.size + 1 + 1) #[.int .i64 0, .string ⟨#[]⟩, .string ⟨#[]⟩, .string ⟨#[]⟩, .string ⟨#[]⟩, .int .i64 0, .int .i64 0, .int .i64 0, .string ⟨#[]⟩, .int .i64 0, .slice none 0 0] 35 ∧ Below w.heap.size w W ∧ TrAt W7.heap.size W e.term.tr (.agg #[.int .i64 e.term.tr.kind, .string e.term.tr.s, .int .i64 e.term.tr.n, .slice A8 e.term.tr.ks.length c8])) ⟨hA11, hK11, hB11, hL11, hT11⟩ (fun W12 h12 => ?_)
  clear hK K hH9 hH8 hA11 hK11 hB11 hL11 hT11 hA10 kz hb10 hT10
  obtain ⟨hA12, hK12, hB12, hL12, hT12⟩ := h12
  have hH : W12.cell? ⟨g5, 0, none⟩ = some (.int .i64 e.kind) ∧ W12.cell? ⟨g5, 1, none⟩ = some (.string e.id) ∧ W12.cell? ⟨g5, 2, none⟩ = some (.string e.name) ∧ W12.cell? ⟨g5, 3, none⟩ = some (.string e.label) ∧ W12.cell? ⟨g5, 4, none⟩ = some (.string e.cur) ∧ W12.cell? ⟨g5, 5, none⟩ = some (.int .i64 e.day) ∧ W12.cell? ⟨g5, 6, none⟩ = some (.int .i64 e.value) ∧ W12.cell? ⟨g5, 7, none⟩ = some e.term.val := by obtain ⟨k0, k1, k2, k3, k4, k5, k6, k7⟩ := hK12.eight; exact ⟨k0, k1, k2, k3, k4, k5, k6, k7⟩
  obtain ⟨r0, r1, r2, r3, r4, r5, r6, r7, r8, r9, r10⟩ := hB12.eleven
  have rz := fun j => hB12.frozen j
  refine wpAnyH_ready (rs := [5]) (by kernel_rfl) (by simp) ?_
  refine AllReadyH.cons rfl (fun K hK => ?_) AllReadyH.nil
  (try go_simp)
  have hK13 := hK12.grown (gb_set11 W12 (w.heap.size + 1 + 1) (.int .i64 e.kind) (.string e.id) (.string e.name) (.string e.label) (.string e.cur) (.int .i64 e.day) (.int .i64 e.value) (.int .i64 e.term.tr.kind) (.string e.term.tr.s) (.int .i64 e.term.tr.n) (.slice A8 e.term.tr.ks.length c8)) (fun e => by injection e with e; omega)
  have hA13 := hA12.grown (gb_set11 W12 (w.heap.size + 1 + 1) (.int .i64 e.kind) (.string e.id) (.string e.name) (.string e.label) (.string e.cur) (.int .i64 e.day) (.int .i64 e.value) (.int .i64 e.term.tr.kind) (.string e.term.tr.s) (.int .i64 e.term.tr.n) (.slice A8 e.term.tr.ks.length c8)) (fun e => by injection e with e; omega)
  have hB13 := hB12.set11 (.int .i64 e.kind) (.string e.id) (.string e.name) (.string e.label) (.string e.cur) (.int .i64 e.day) (.int .i64 e.value) (.int .i64 e.term.tr.kind) (.string e.term.tr.s) (.int .i64 e.term.tr.n) (.slice A8 e.term.tr.ks.length c8)
  have hL13 := bl_grown hL12 (gb_set11 W12 (w.heap.size + 1 + 1) (.int .i64 e.kind) (.string e.id) (.string e.name) (.string e.label) (.string e.cur) (.int .i64 e.day) (.int .i64 e.value) (.int .i64 e.term.tr.kind) (.string e.term.tr.s) (.int .i64 e.term.tr.n) (.slice A8 e.term.tr.ks.length c8)) (by omega)
  have hT13 := hT12.grown (gb_set11 W12 (w.heap.size + 1 + 1) (.int .i64 e.kind) (.string e.id) (.string e.name) (.string e.label) (.string e.cur) (.int .i64 e.day) (.int .i64 e.value) (.int .i64 e.term.tr.kind) (.string e.term.tr.s) (.int .i64 e.term.tr.n) (.slice A8 e.term.tr.ks.length c8)) (by omega)
  clear r0 r1 r2 r3 r4 r5 r6 r7 r8 r9 r10 rz
  refine hK.out _ _ (by obtain ⟨k0, k1, k2, k3, k4, k5, k6, k7⟩ := hK13.eight; exact ⟨k0, k1, k2, k3, k4, k5, k6, k7⟩) (fun hH8 => ?_)
  (try simp only [Act.put, List.setIfInBounds_toArray, List.set_cons_zero, List.set_cons_succ])
  clear hK K hH hK12 hA12 hB12 hL12 hT12 hK13
  refine wpAnyH_take (i := 6) (oi := ⟨_, _, _, _, _, _⟩) (v := ?_) rfl (by kernel_rfl) (by kernel_rfl) (by kernel_rfl) (fun _ _ _ h => h) (Or.inl ⟨by rfl, ?_⟩) (by assumption) ?_
  rotate_left
  · intro w hSw; (try dsimp only at hSw); go_split_ands; go_simp; try with_reducible rfl
  (try dsimp only [Act.put, List.setIfInBounds_toArray, List.set_cons_zero, List.set_cons_succ])
  clear hH8
  refine wpAnyH_done (by kernel_rfl) ?_ _
  refine NoPanic.normal ?_
  have HA13 := Lib.hid hA13; have HB13 := Lib.hid hB13; have HL13 := Lib.hid hL13; have HT13 := Lib.hid hT13
  clear hA13 hB13 hL13 hT13
  go_wp2_with fail
  (try simp only [Exit.inBlock, Exit.then])
  refine bodyPost_ret (results_S rfl _ _ (w.heap.size + 1) (w.heap.size + 1 + 1) _ _ _ _ _ _ _ _ _ _ _ _ _ _ _ _ _ _ _ _ _ _ rfl rfl rfl HA13.out HB13.out) rfl ?_
  exact ⟨e, _, rfl, ⟨_, _, _, _, rfl, HT13.out.mono (by omega)⟩, HFE.out, HL13.out⟩
end Go.Proofs.YtapbkomicihkkaaGreatDoor
namespace Go.Proofs.YtapbkomicihkkaaGreatDoor
open Go.RowKit
set_option linter.unusedVariables false
set_option linter.unusedSimpArgs false

theorem Ev.cells_eq (e : Ev) : e.cells = #[.int .i64 e.kind, .string e.id, .string e.name, .string e.label, .string e.cur, .int .i64 e.day, .int .i64 e.value, e.term.val] := rfl
set_option maxRecDepth 100000 in
set_option maxHeartbeats 8000000 in
theorem eventSame_calls (w : World) (c : Cm) (vN vW : Value) (hc : c.ok) (hp : PlanAt w vN vW) (which : Int) (hw : IsInt64 which) (ht : TabOk w) :
    Calls Tryz.prog 3 #[c.val vN vW, .int .i64 which] w fun e w' => e = .returned (.bool true) ∧ Below w.heap.size w w' := by
  obtain ⟨⟨A, n, cc, xs, rfl, hn⟩, ⟨A', n', cc', xs', rfl, hn'⟩⟩ := (show PlanAt w vN vW from hp)
  clear hn hn'
  unfold IsInt64 at hw
  have hw9 := fun W => within_calls which 9 W (by omega) (by omega)
  have hk0 := Int.emod_nonneg which (show (9 : Int) ≠ 0 by omega)
  have hk1 := Int.emod_lt_of_pos which (show (0 : Int) < 9 by omega)
  generalize which % 9 = fk at *
  have hb1 := bl_alloc (bl_refl w) (.cells #[.int .i64 c.kind, .int .i64 c.a, .int .i64 c.b, .int .i64 c.day, .int .i64 c.value, .string c.word, .slice A n cc, .slice A' n' cc'] 27)
  have hkC := Blk.new w #[.int .i64 c.kind, .int .i64 c.a, .int .i64 c.b, .int .i64 c.day, .int .i64 c.value, .string c.word, .slice A n cc, .slice A' n' cc'] 27
  obtain ⟨W1, hW1⟩ : ∃ W1, w.alloc (.cells #[.int .i64 c.kind, .int .i64 c.a, .int .i64 c.b, .int .i64 c.day, .int .i64 c.value, .string c.word, .slice A n cc, .slice A' n' cc'] 27) = W1 := ⟨_, rfl⟩
  rw [hW1] at hb1 hkC
  have hsm := some_calls W1 c _ _ hc (hp.below hb1) 99 0 0 ⟨#[]⟩ (by unfold IsInt64; omega) (by unfold IsInt64; omega) (by decide) (by decide)
  unfold RetSome at hsm
  unfold Ev.val at hsm
  unfold Cm.val at hsm ⊢
  obtain ⟨p0, p1, p2, p3, p4, p5, p6, p7⟩ := hkC.eight
  have HW1 := Lib.hid hW1; have HSM := Lib.hid hsm; have HB1 := Lib.hid hb1; have HW9 := Lib.hid hw9; have HT := Lib.hid ht
  clear hW1 hsm hb1 hw9 hkC hc hp ht
  go_enter Tryz.func3, Tryz.ntmps3
  go_upto_region 1 with fail
  rw [HW1.out]
  clear HW1
  go_wp2_with fail
  refine (HSM.out).mono ?_
  rintro en w2 ⟨x, vx, rfl, hE, hF, hb2⟩
  obtain ⟨c0, c1, c2, c3, rfl, hT⟩ := hE
  obtain ⟨A9, c9, cs9, hag, -, -⟩ := hT.open_
  have hcc : c0 = .int .i64 x.term.tr.kind ∧ c1 = .string x.term.tr.s ∧ c2 = .int .i64 x.term.tr.n ∧ c3 = .slice A9 x.term.tr.ks.length c9 := by injection hag with hag; simp at hag; exact hag
  obtain ⟨h0, h1, h2, h3⟩ := hcc
  subst h0 h1 h2 h3
  clear hag hT p0 p1 p2 p3 p4 p5 p6 p7 HSM
  have hok := hF.term.ok
  have hti := x.term.isI hok
  have hte := x.term.one_ hok
  have hcs := x.term.cells_ hok
  have HB2 := Lib.hid (bl_step hb2 HB1.out); have HF := Lib.hid hF
  have hwz := hb2.size
  have hwz1 := HB1.out.size
  have hwz2 : w.heap.size ≤ w2.heap.size := HB2.out.size
  clear hb2 hF
  go_upto_region 3 with fail
  have hkx := ((Blk.new w2 #[.int .i64 x.kind, .string x.id, .string x.name, .string x.label, .string x.cur, .int .i64 x.day, .int .i64 x.value, x.term.val] 30).below (bl_alloc (bl_refl _) (.cells #[.int .i64 x.kind, .string x.id, .string x.name, .string x.label, .string x.cur, .int .i64 x.day, .int .i64 x.value, .int .i64 x.term.tr.kind, .string x.term.tr.s, .int .i64 x.term.tr.n, .slice A9 x.term.tr.ks.length c9] 35))).below (bl_alloc (bl_refl _) (.cells #[.int .i64 x.kind, .string x.id, .string x.name, .string x.label, .string x.cur, .int .i64 x.day, .int .i64 x.value, x.term.val] 30))
  have hky := Blk_new ((w2.alloc (.cells #[.int .i64 x.kind, .string x.id, .string x.name, .string x.label, .string x.cur, .int .i64 x.day, .int .i64 x.value, x.term.val] 30)).alloc (.cells #[.int .i64 x.kind, .string x.id, .string x.name, .string x.label, .string x.cur, .int .i64 x.day, .int .i64 x.value, .int .i64 x.term.tr.kind, .string x.term.tr.s, .int .i64 x.term.tr.n, .slice A9 x.term.tr.ks.length c9] 35)) #[.int .i64 x.kind, .string x.id, .string x.name, .string x.label, .string x.cur, .int .i64 x.day, .int .i64 x.value, x.term.val] 30 (w2.heap.size + 1 + 1) (by rw [alloc_size, alloc_size])
  have hb3 := bl_alloc (bl_alloc (bl_alloc HB2.out (.cells #[.int .i64 x.kind, .string x.id, .string x.name, .string x.label, .string x.cur, .int .i64 x.day, .int .i64 x.value, x.term.val] 30)) (.cells #[.int .i64 x.kind, .string x.id, .string x.name, .string x.label, .string x.cur, .int .i64 x.day, .int .i64 x.value, .int .i64 x.term.tr.kind, .string x.term.tr.s, .int .i64 x.term.tr.n, .slice A9 x.term.tr.ks.length c9] 35)) (.cells #[.int .i64 x.kind, .string x.id, .string x.name, .string x.label, .string x.cur, .int .i64 x.day, .int .i64 x.value, x.term.val] 30)
  obtain ⟨W3, hW3⟩ : ∃ W3, ((w2.alloc (.cells #[.int .i64 x.kind, .string x.id, .string x.name, .string x.label, .string x.cur, .int .i64 x.day, .int .i64 x.value, x.term.val] 30)).alloc (.cells #[.int .i64 x.kind, .string x.id, .string x.name, .string x.label, .string x.cur, .int .i64 x.day, .int .i64 x.value, .int .i64 x.term.tr.kind, .string x.term.tr.s, .int .i64 x.term.tr.n, .slice A9 x.term.tr.ks.length c9] 35)).alloc (.cells #[.int .i64 x.kind, .string x.id, .string x.name, .string x.label, .string x.cur, .int .i64 x.day, .int .i64 x.value, x.term.val] 30) = W3 := ⟨_, rfl⟩
  rw [hW3] at hkx hky hb3 ⊢
  have HKX := Lib.hid hkx; have HKY := Lib.hid hky; have HB3 := Lib.hid hb3
  clear hW3 hkx hky hb3 HB2 HB1
  go_wp2_with fail
  refine (HW9.out _).mono ?_
  rintro en w4 ⟨rfl, rfl⟩
  obtain ⟨x0, x1, x2, x3, x4, x5, x6, x7⟩ := HKX.out.eight
  obtain ⟨y0, y1, y2, y3, y4, y5, y6, y7⟩ := HKY.out.eight
  have yz := fun j => HKY.out.frozen j
  have hsame := fun W => esame_calls x x (fit_ok HF.out) (fit_ok HF.out) W
  rw [fit_same HF.out] at hsame
  unfold Ev.val at hsame
  have HSA := Lib.hid hsame
  clear hsame
  by_cases hg8 : fk = 8
  · subst hg8
    go_wp2_with fail
    refine (HSA.out _).mono ?_
    rintro en w5 ⟨rfl, hb5⟩
    clear x0 x1 x2 x3 x4 x5 x6 x7 y0 y1 y2 y3 y4 y5 y6 y7
    obtain ⟨x0, x1, x2, x3, x4, x5, x6, x7⟩ := (HKX.out.below hb5).eight
    obtain ⟨y0, y1, y2, y3, y4, y5, y6, y7⟩ := (HKY.out.below hb5).eight
    go_wp2_with fail
    refine (HSA.out _).mono ?_
    rintro en w6 ⟨rfl, hb6⟩
    have hb7 := bl_step (bl_step hb6 hb5) HB3.out
    go_wp2_with fail
    refine (wakes11_calls _ (HT.out.below hb7)).mono ?_
    rintro en w7 ⟨rfl, hb8⟩
    go_wp2_with fail
    go_ret
    exact ⟨rfl, bl_step hb8 hb7⟩
  have hkk := HF.out.kind
  have hs1 := HF.out.id
  have hs2 := HF.out.name
  have hs3 := HF.out.label
  have hs4 := HF.out.cur
  have hfk : fk < 8 := by omega
  have hp1 : (⟨#[120]⟩ : ByteArray).size = 1 := rfl
  go_upto_block 0 with fail
  go_cut [] (fun wx => ∃ k : Nat, Blk wx (w2.heap.size + 1 + 1) #[.int .i64 (turnX x k).kind, .string (turnX x k).id, .string (turnX x k).name, .string (turnX x k).label, .string (turnX x k).cur, .int .i64 (turnX x k).day, .int .i64 (turnX x k).value, (turnX x k).term.val] 30 ∧ Blk wx w2.heap.size #[.int .i64 x.kind, .string x.id, .string x.name, .string x.label, .string x.cur, .int .i64 x.day, .int .i64 x.value, x.term.val] 30 ∧ Below w.heap.size w wx)
  case first =>
    by_cases g0 : fk = 0
    · subst g0
      go_wp2_with fail
      go_meet
      have hE := HKY.out.set 0 (.int .i64 (x.kind + 1))
      simp only [List.setIfInBounds_toArray, List.set_cons_zero, List.set_cons_succ] at hE
      exact ⟨0, hE, HKX.out.grown (gb_set (g := w2.heap.size + 1 + 1) 0 (.int .i64 (x.kind + 1))) (fun e => by injection e with e; omega), bl_grown HB3.out (gb_set (g := w2.heap.size + 1 + 1) 0 (.int .i64 (x.kind + 1))) (by omega)⟩
    have g0b : (fk == 0) = false := by simpa using g0
    by_cases g1 : fk = 1
    · subst g1
      go_wp2_with fail
      go_meet
      have hE := HKY.out.set 1 (.string (x.id ++ ⟨#[120]⟩))
      simp only [List.setIfInBounds_toArray, List.set_cons_zero, List.set_cons_succ] at hE
      exact ⟨1, hE, HKX.out.grown (gb_set (g := w2.heap.size + 1 + 1) 1 (.string (x.id ++ ⟨#[120]⟩))) (fun e => by injection e with e; omega), bl_grown HB3.out (gb_set (g := w2.heap.size + 1 + 1) 1 (.string (x.id ++ ⟨#[120]⟩))) (by omega)⟩
    have g1b : (fk == 1) = false := by simpa using g1
    by_cases g2 : fk = 2
    · subst g2
      go_wp2_with fail
      go_meet
      have hE := HKY.out.set 2 (.string (x.name ++ ⟨#[120]⟩))
      simp only [List.setIfInBounds_toArray, List.set_cons_zero, List.set_cons_succ] at hE
      exact ⟨2, hE, HKX.out.grown (gb_set (g := w2.heap.size + 1 + 1) 2 (.string (x.name ++ ⟨#[120]⟩))) (fun e => by injection e with e; omega), bl_grown HB3.out (gb_set (g := w2.heap.size + 1 + 1) 2 (.string (x.name ++ ⟨#[120]⟩))) (by omega)⟩
    have g2b : (fk == 2) = false := by simpa using g2
    by_cases g3 : fk = 3
    · subst g3
      go_wp2_with fail
      go_meet
      have hE := HKY.out.set 3 (.string (x.label ++ ⟨#[120]⟩))
      simp only [List.setIfInBounds_toArray, List.set_cons_zero, List.set_cons_succ] at hE
      exact ⟨3, hE, HKX.out.grown (gb_set (g := w2.heap.size + 1 + 1) 3 (.string (x.label ++ ⟨#[120]⟩))) (fun e => by injection e with e; omega), bl_grown HB3.out (gb_set (g := w2.heap.size + 1 + 1) 3 (.string (x.label ++ ⟨#[120]⟩))) (by omega)⟩
    have g3b : (fk == 3) = false := by simpa using g3
    by_cases g4 : fk = 4
    · subst g4
      go_wp2_with fail
      go_meet
      have hE := HKY.out.set 4 (.string (x.cur ++ ⟨#[120]⟩))
      simp only [List.setIfInBounds_toArray, List.set_cons_zero, List.set_cons_succ] at hE
      exact ⟨4, hE, HKX.out.grown (gb_set (g := w2.heap.size + 1 + 1) 4 (.string (x.cur ++ ⟨#[120]⟩))) (fun e => by injection e with e; omega), bl_grown HB3.out (gb_set (g := w2.heap.size + 1 + 1) 4 (.string (x.cur ++ ⟨#[120]⟩))) (by omega)⟩
    have g4b : (fk == 4) = false := by simpa using g4
    by_cases g5 : fk = 5
    · subst g5
      go_wp2_with fail
      go_meet
      have hE := HKY.out.set 5 (.int .i64 (bits .xor .i64 x.day 1))
      simp only [List.setIfInBounds_toArray, List.set_cons_zero, List.set_cons_succ] at hE
      exact ⟨5, hE, HKX.out.grown (gb_set (g := w2.heap.size + 1 + 1) 5 (.int .i64 (bits .xor .i64 x.day 1))) (fun e => by injection e with e; omega), bl_grown HB3.out (gb_set (g := w2.heap.size + 1 + 1) 5 (.int .i64 (bits .xor .i64 x.day 1))) (by omega)⟩
    have g5b : (fk == 5) = false := by simpa using g5
    by_cases g6 : fk = 6
    · subst g6
      go_wp2_with fail
      go_meet
      have hE := HKY.out.set 6 (.int .i64 (bits .xor .i64 x.value 1))
      simp only [List.setIfInBounds_toArray, List.set_cons_zero, List.set_cons_succ] at hE
      exact ⟨6, hE, HKX.out.grown (gb_set (g := w2.heap.size + 1 + 1) 6 (.int .i64 (bits .xor .i64 x.value 1))) (fun e => by injection e with e; omega), bl_grown HB3.out (gb_set (g := w2.heap.size + 1 + 1) 6 (.int .i64 (bits .xor .i64 x.value 1))) (by omega)⟩
    have g6b : (fk == 6) = false := by simpa using g6
    have g7 : fk = 7 := by omega
    subst g7
    have hng := fun op w => nil_guard x.term hok op w
    have hne := fun w => nil_eql x.term hok w
    cases hnil : x.term.isNil with
    | true =>
      rw [hnil] at hne
      go_wp2_with fail
      go_meet
      have hE := HKY.out.set 7 (.iface 40 (.agg #[]))
      simp only [List.setIfInBounds_toArray, List.set_cons_zero, List.set_cons_succ] at hE
      refine ⟨7, ?_, HKX.out.grown (gb_set (g := w2.heap.size + 1 + 1) 7 _) (fun e => by injection e with e; omega), bl_grown HB3.out (gb_set (g := w2.heap.size + 1 + 1) 7 _) (by omega)⟩
      have ht : (turnX x 7).term = .zero := by show (if _ then _ else _) = _; rw [hnil]; rfl
      rw [ht]
      exact hE
    | false =>
      rw [hnil] at hne
      go_wp2_with fail
      go_meet
      have hE := HKY.out.set 7 .nilIface
      simp only [List.setIfInBounds_toArray, List.set_cons_zero, List.set_cons_succ] at hE
      refine ⟨7, ?_, HKX.out.grown (gb_set (g := w2.heap.size + 1 + 1) 7 _) (fun e => by injection e with e; omega), bl_grown HB3.out (gb_set (g := w2.heap.size + 1 + 1) 7 _) (by omega)⟩
      have ht : (turnX x 7).term = .odd .nilIface := by show (if _ then _ else _) = _; rw [hnil]; rfl
      rw [ht]
      exact hE
  clear x0 x1 x2 x3 x4 x5 x6 x7 y0 y1 y2 y3 y4 y5 y6 y7 yz HKX HKY HB3 HSA
  rename World => w8
  obtain ⟨k, hky, hkx, hbl⟩ := hcut
  obtain ⟨q1, q2⟩ := turnX_same x HF.out k
  have hoY := turnX_ok x HF.out k
  have hsy := fun W => esame_calls x (turnX x k) (fit_ok HF.out) hoY W
  have hsz := fun W => esame_calls (turnX x k) x hoY (fit_ok HF.out) W
  rw [q1] at hsy
  rw [q2] at hsz
  have hty := hoY.term
  generalize turnX x k = y at *
  unfold Ev.val at hsy hsz
  have htyI := y.term.isI hty
  have HSY := Lib.hid hsy; have HSZ := Lib.hid hsz; have HKX := Lib.hid hkx; have HKY := Lib.hid hky; have HBL := Lib.hid hbl
  clear hsy hsz hkx hky hbl q1 q2 hoY
  obtain ⟨x0, x1, x2, x3, x4, x5, x6, x7⟩ := HKX.out.eight
  obtain ⟨y0, y1, y2, y3, y4, y5, y6, y7⟩ := HKY.out.eight
  go_wp2_with fail
  refine (HSY.out _).mono ?_
  rintro en w9 ⟨rfl, hb9⟩
  clear x0 x1 x2 x3 x4 x5 x6 x7 y0 y1 y2 y3 y4 y5 y6 y7
  obtain ⟨x0, x1, x2, x3, x4, x5, x6, x7⟩ := (HKX.out.below hb9).eight
  obtain ⟨y0, y1, y2, y3, y4, y5, y6, y7⟩ := (HKY.out.below hb9).eight
  go_wp2_with fail
  refine (HSZ.out _).mono ?_
  rintro en w10 ⟨rfl, hb10⟩
  have hb11 := bl_step (bl_step hb10 hb9) HBL.out
  go_wp2_with fail
  refine (wakes11_calls _ (HT.out.below hb11)).mono ?_
  rintro en w12 ⟨rfl, hb12⟩
  go_wp2_with fail
  go_ret
  exact ⟨rfl, bl_step hb12 hb11⟩
end Go.Proofs.YtapbkomicihkkaaGreatDoor
