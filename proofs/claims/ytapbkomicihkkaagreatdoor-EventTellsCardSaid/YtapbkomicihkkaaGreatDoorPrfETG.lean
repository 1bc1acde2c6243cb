/- 'EventTells' answers true for every input, and leaves its arguments as they were. -/
import Derived.Test.YtapbkomicihkkaaGreatDoorREvC
import Derived.Test.YtapbkomicihkkaaGreatDoorREvS
import Derived.Test.YtapbkomicihkkaaGreatDoorSomeOG
import Derived.Test.YtapbkomicihkkaaGreatDoorLawEG
import Derived.Test.YtapbkomicihkkaaGreatDoorSpG
import Derived.Test.YtapbkomicihkkaaGreatDoorCardG
import Derived.Test.YtapbkomicihkkaaGreatDoorTie
import Derived.SevenTiedAt
import Derived.ProofKit
import Derived.OpenShut
import Derived.ShutString
import Derived.ChangeOld
import Derived.Below
import Derived.SizedLaws
namespace Go.Proofs.YtapbkomicihkkaaGreatDoor
open Go.RowKit
set_option linter.unusedVariables false
set_option linter.unusedSimpArgs false

theorem hasB_73 (k : Int) : hasB k 73 = hasL k 73 := by unfold hasB hasL fieldsL; (repeat' split) <;> decide
theorem hasB_78 (k : Int) : hasB k 78 = hasL k 78 := by unfold hasB hasL fieldsL; (repeat' split) <;> decide
theorem hasB_76 (k : Int) : hasB k 76 = hasL k 76 := by unfold hasB hasL fieldsL; (repeat' split) <;> decide
theorem hasB_67 (k : Int) : hasB k 67 = hasL k 67 := by unfold hasB hasL fieldsL; (repeat' split) <;> decide
theorem hasB_68 (k : Int) : hasB k 68 = hasL k 68 := by unfold hasB hasL fieldsL; (repeat' split) <;> decide
theorem hasB_86 (k : Int) : hasB k 86 = hasL k 86 := by unfold hasB hasL fieldsL; (repeat' split) <;> decide
theorem hasB_84 (k : Int) : hasB k 84 = hasL k 84 := by unfold hasB hasL fieldsL; (repeat' split) <;> decide
theorem textB_eq (s : ByteArray) (h : Bool) : textB s h = ((s.toList.isEmpty || h) && (!h || nameB s)) := by unfold textB; cases h <;> simp
theorem r4B_eq (hD hV : Bool) (day value : Int) : r4B hD hV (validB value) day value = !(((day == 0 || hD) && !(decide (day < 0) || decide (10000 < day))) && ((value == 0 || hV) && validB value)) := by
  have h0 : validB 0 = true := by decide
  unfold r4B
  by_cases a : day = 0
  · subst a
    by_cases b : value = 0
    · subst b; rw [h0]; cases hD <;> cases hV <;> rfl
    · have b' : (value == 0) = false := by simpa using b
      have b2 : (value != 0) = true := by simpa using b
      rw [b', b2]
      cases hD <;> cases hV <;> cases validB value <;> rfl
  · have a' : (day == 0) = false := by simpa using a
    have a2 : (day != 0) = true := by simpa using a
    rw [a', a2]
    generalize (decide (day < 0) || decide (10000 < day)) = x
    by_cases b : value = 0
    · subst b; rw [h0]; cases hD <;> cases hV <;> cases x <;> rfl
    · have b' : (value == 0) = false := by simpa using b
      have b2 : (value != 0) = true := by simpa using b
      rw [b', b2]
      cases hD <;> cases hV <;> cases validB value <;> cases x <;> rfl
theorem Ev.rcheck_eq (e : Ev) (odd : Bool) (hn : e.term.isNil = !(e.term.tr.kind != 0 || odd)) (hw : e.kind = 2 → (e.term.tr.write false).2 = e.term.write.2) : e.rcheck odd = e.check := by
  unfold Ev.rcheck Ev.check
  rw [r4B_eq]
  have h4 : (r6B (hasL e.kind 84) odd e.kind e.term.tr.kind e.value = true) ↔ ((e.term.isNil || hasL e.kind 84) = false ∨ (e.kind = 4 ∧ e.value ≠ 0 ∧ e.value ≠ 1)) := by
    unfold r6B
    rw [hn]
    generalize (e.term.tr.kind != 0 || odd) = z
    cases hasL e.kind 84 <;> cases z <;> simp <;> omega
  have ho : e.only = ((((e.id.toList.isEmpty || hasL e.kind 73) && ((e.name.toList.isEmpty || hasL e.kind 78) && ((e.label.toList.isEmpty || hasL e.kind 76) && (e.cur.toList.isEmpty || hasL e.kind 67))))) && ((e.day == 0 || hasL e.kind 68) && ((e.value == 0 || hasL e.kind 86) && (e.term.isNil || hasL e.kind 84)))) := by
    unfold Ev.only Ev.onlyT Ev.onlyR Ev.texts
    simp [hasB_73, hasB_78, hasB_76, hasB_67, hasB_68, hasB_86, hasB_84]
  have hm : e.named = ((!hasL e.kind 73 || nameB e.id) && ((!hasL e.kind 78 || nameB e.name) && ((!hasL e.kind 76 || nameB e.label) && (!hasL e.kind 67 || nameB e.cur)))) := by
    unfold Ev.named Ev.texts
    simp [hasB_73, hasB_78, hasB_76, hasB_67]
  rw [ho, hm, textB_eq, textB_eq, textB_eq, textB_eq]
  clear ho hm
  have h2 : (if e.kind = 2 then (e.term.tr.write false).2 else (0 : Int)) = if e.kind = 2 then e.term.write.2 else 0 := by
    split
    · exact hw ‹_›
    · rfl
  rw [h2]
  have hd : (e.day < 0 ∨ 10000 < e.day ∨ validB e.value = false) ↔ ((decide (e.day < 0) || decide (10000 < e.day)) = true ∨ validB e.value = false) := by simp [or_assoc]
  simp only [h4, hd]
  generalize (e.id.toList.isEmpty || hasL e.kind 73) = x1
  generalize (e.name.toList.isEmpty || hasL e.kind 78) = x2
  generalize (e.label.toList.isEmpty || hasL e.kind 76) = x3
  generalize (e.cur.toList.isEmpty || hasL e.kind 67) = x4
  generalize (!hasL e.kind 73 || nameB e.id) = y1
  generalize (!hasL e.kind 78 || nameB e.name) = y2
  generalize (!hasL e.kind 76 || nameB e.label) = y3
  generalize (!hasL e.kind 67 || nameB e.cur) = y4
  generalize (e.day == 0 || hasL e.kind 68) = z1
  generalize (e.value == 0 || hasL e.kind 86) = z2
  generalize (e.term.isNil || hasL e.kind 84) = z3
  generalize (decide (e.day < 0) || decide (10000 < e.day)) = z4
  generalize validB e.value = z5
  generalize qB e.kind = q
  by_cases h5 : e.kind = 4 ∧ e.value ≠ 0 ∧ e.value ≠ 1
  · simp only [h5, or_true, if_true, and_self, ne_eq, not_false_eq_true]
    simp
  · simp only [h5, or_false, if_false]
    cases q
    · cases x1 <;> cases x2 <;> cases x3 <;> cases x4 <;> first | (simp; done) | skip
      cases y1 <;> cases y2 <;> cases y3 <;> cases y4 <;> first | (simp; done) | skip
      cases z1 <;> cases z2 <;> cases z3 <;> cases z4 <;> cases z5 <;> simp
    · simp
end Go.Proofs.YtapbkomicihkkaaGreatDoor
namespace Go.Proofs.YtapbkomicihkkaaGreatDoor
open Go.RowKit
set_option linter.unusedVariables false
set_option linter.unusedSimpArgs false

theorem beqc {α : Type} [BEq α] [LawfulBEq α] (a b : α) : (a == b) = (b == a) := by
  cases h : a == b with
  | true => rw [eq_of_beq h]; simp
  | false => cases h2 : b == a with
    | false => rfl
    | true => rw [eq_of_beq h2] at h; simp at h
theorem Ob.same_comm : ∀ (a b : Ob), a.same b = b.same a := by
  intro a
  induction a with
  | const n => intro b; cases b <;> simp [Ob.same]; exact beqc _ _
  | fix s => intro b; cases b <;> simp [Ob.same]; exact beqc _ _
  | add l r i1 i2 => intro b; cases b <;> simp [Ob.same, i1, i2]
  | mul l r i1 i2 => intro b; cases b <;> simp [Ob.same, i1, i2]
  | max l r i1 i2 => intro b; cases b <;> simp [Ob.same, i1, i2]
  | neg o ih => intro b; cases b <;> simp [Ob.same, ih]
  | odd v => intro b; cases b <;> simp [Ob.same]
theorem Tm.same_comm : ∀ (a b : Tm), a.same b = b.same a := by
  intro a
  induction a with
  | zero => intro b; cases b <;> simp [Tm.same]
  | one s => intro b; cases b <;> simp [Tm.same]; exact beqc _ _
  | give t ih => intro b; cases b <;> simp [Tm.same, ih]
  | and l r i1 i2 => intro b; cases b <;> simp [Tm.same, i1, i2]
  | or s l r i1 i2 => intro b; cases b <;> simp [Tm.same, i1, i2]; rename_i s' l' r'; rw [beqc s.toList s'.toList]
  | scale o t ih => intro b; cases b <;> simp [Tm.same, ih]; rename_i o' t'; rw [Ob.same_comm o o']
  | when_ n t ih => intro b; cases b <;> simp [Tm.same, ih]; rename_i n' t'; rw [beqc n n']
  | if_ o l r i1 i2 => intro b; cases b <;> simp [Tm.same, i1, i2]; rename_i o' l' r'; rw [Ob.same_comm o o']
  | odd v => intro b; cases b <;> simp [Tm.same]
theorem Ev.same_comm (a b : Ev) : a.same b = b.same a := by
  unfold Ev.same Ev.terms Ev.rest
  rw [Tm.same_comm a.term b.term, beqc a.kind, beqc a.id.toList, beqc a.name.toList, beqc a.label.toList, beqc a.cur.toList, beqc a.day, beqc a.value, Bool.and_comm a.term.isNil]
theorem Ev.odd_same (a b : Ev) (h : ∃ u, a.term = .odd u ∧ u ≠ .nilIface) : a.same b = false := by
  obtain ⟨u, e, hu⟩ := h
  have hn : a.term.isNil = false := by
    rw [e]
    unfold Tm.isNil
    split
    · rename_i h; injection h with h; exact absurd h hu
    · rfl
  unfold Ev.same Ev.terms
  rw [hn, e]
  cases b.term <;> simp [Tm.same]
theorem Tm.fine_kind : ∀ (t : Tm), t.fine → t.tr.kind ≠ 0 ∧ t.isNil = false
  | .zero, _ => ⟨by decide, rfl⟩
  | .one _, _ => ⟨by simp [Tm.tr, Tr.kind], rfl⟩
  | .give _, _ => ⟨by simp [Tm.tr, Tr.kind], rfl⟩
  | .and _ _, _ => ⟨by simp [Tm.tr, Tr.kind], rfl⟩
  | .or _ _ _, _ => ⟨by simp [Tm.tr, Tr.kind], rfl⟩
  | .scale _ _, _ => ⟨by simp [Tm.tr, Tr.kind], rfl⟩
  | .when_ _ _, _ => ⟨by simp [Tm.tr, Tr.kind], rfl⟩
  | .if_ _ _ _, _ => ⟨by simp [Tm.tr, Tr.kind], rfl⟩
  | .odd _, h => h.elim
theorem Tr.same_zero (t u : Tr) (h : t.kind = 0 ∨ u.kind = 0) : t.same u = false := by
  cases t with
  | mk k s n ks => cases u with
    | mk k' s' n' ks' =>
      unfold Tr.same
      simp only [Tr.kind] at h
      by_cases h1 : k = 0
      · simp [h1]
      · rcases h with h | h
        · exact absurd h h1
        · subst h
          simp [h1]
theorem Ev.rsame_eq (a b : Ev) (ha : a.term.fit) (hb : b.term.fit) : a.rsame b = a.same b := by
  unfold Ev.rsame Ev.same Ev.terms
  rw [Bool.and_comm]
  congr 1
  rcases ha with ha | ⟨ha, -⟩
  · rcases hb with hb | ⟨hb, -⟩
    · rw [ha, hb]; rfl
    · obtain ⟨h1, h2⟩ := b.term.fine_kind hb
      rw [ha, h2, Tr.same_zero _ _ (.inl rfl)]
      simp [h1, Tm.same]
  · obtain ⟨h1, h2⟩ := a.term.fine_kind ha
    rcases hb with hb | ⟨hb, -⟩
    · rw [hb, h2, Tr.same_zero _ _ (.inr rfl)]
      have h3 : (a.term.tr.kind == 0) = false := by simpa using h1
      have h4 : a.term.same (.odd .nilIface) = false := by cases a.term <;> simp [Tm.same]
      rw [h3, h4]
      rfl
    · rw [h2, Tm.tr_same _ _ ha hb]
      simp [h1]
theorem Ev.fitO_check {e : Ev} {b : Bool} (h : e.fitO b) : e.rcheck b = e.check := by
  refine Ev.rcheck_eq e b ?_ ?_
  · cases b with
    | false =>
      rcases h.no rfl with e1 | ⟨hf, -⟩
      · rw [e1]; rfl
      · obtain ⟨h1, h2⟩ := e.term.fine_kind hf
        rw [h2]
        simp [h1]
    | true =>
      obtain ⟨u, e1, hu⟩ := h.yes rfl
      have hn : e.term.isNil = false := by
        rw [e1]
        unfold Tm.isNil
        split
        · rename_i h; injection h with h; exact absurd h hu
        · rfl
      rw [hn]
      simp
  · intro _
    cases b with
    | false =>
      rcases h.no rfl with e1 | ⟨hf, -⟩
      · rw [e1]; rfl
      · rw [e.term.tr_write hf]
    | true =>
      obtain ⟨u, e1, hu⟩ := h.yes rfl
      rw [e1]; rfl
end Go.Proofs.YtapbkomicihkkaaGreatDoor
namespace Go.Proofs.YtapbkomicihkkaaGreatDoor
open Go.RowKit
set_option linter.unusedVariables false
set_option linter.unusedSimpArgs false

theorem Blk.range {w : World} {g : Nat} {xs : List Value} {t : TypeId} (h : Blk w g xs.toArray t) : w.rangeAt g 0 xs := fun j v hv => by
  rw [Nat.zero_add, h.cell]; simpa using hv
theorem size_ev8e : (Tryz.prog.info? 30).map (·.size) = some 8 := by kernel_rfl
theorem size_rf11 : (Tryz.prog.info? 35).map (·.size) = some 11 := by kernel_rfl
theorem Ev.fitO_tr {e : Ev} {b : Bool} (h : e.fitO b) : e.term.tr.size ≤ 1000000 ∧ e.term.tr.ok ∧ e.term.meas ≤ 1099511627776 := by
  have hz : ∀ u, e.term = .odd u → e.term.tr.size ≤ 1000000 ∧ e.term.tr.ok ∧ e.term.meas ≤ 1099511627776 := fun u e1 => by
    rw [e1]
    refine ⟨?_, ?_, ?_⟩
    · simp [Tm.tr, Tr.size, Tr.sizeAll]
    · simp only [Tm.tr]
      unfold Tr.ok
      exact ⟨⟨by omega, by decide, by omega⟩, by unfold Tr.okAll; trivial⟩
    · simp [Tm.meas]
  cases b with
  | false =>
    rcases h.no rfl with e1 | ⟨hf, hp⟩
    · exact hz _ e1
    · exact ⟨by rw [e.term.tr_size hf]; omega, e.term.tr_ok hf, by rw [Tm.fine_meas _ hf]; omega⟩
  | true =>
    obtain ⟨u, e1, -⟩ := h.yes rfl
    exact hz _ e1
theorem Ev.fitO_ok {e : Ev} {b : Bool} (h : e.fitO b) : e.ok := ⟨by have := h.kind; unfold IsInt64; omega, h.day, h.value, h.term⟩
theorem Ev.fitO_fit {e : Ev} (h : e.fitO false) : e.fit := ⟨h.kind, h.id, h.name, h.label, h.cur, h.day, h.value, h.no rfl⟩
set_option maxRecDepth 100000 in
set_option maxHeartbeats 8000000 in
theorem eventTells_calls (w : World) (c d : Cm) (vN1 vW1 vN2 vW2 : Value) (hc : c.ok) (hd : d.ok) (hp1 : PlanAt w vN1 vW1) (hp2 : PlanAt w vN2 vW2) (f v : Int) (s : ByteArray) (odd : Int) (same : Bool) (hf : IsInt64 f) (hv : IsInt64 v) (hs : s.size ≤ 9223372036854775807) (ho : IsInt64 odd) (ht : TabOk w) :
    Calls Tryz.prog 4 #[c.val vN1 vW1, d.val vN2 vW2, .int .i64 f, .int .i64 v, .string s, .int .i64 odd, .bool same] w fun e w' => e = .returned (.bool true) ∧ Below w.heap.size w w' := by
  have hso1 := fun W (hb : Below w.heap.size w W) => someO_calls W c vN1 vW1 hc (hp1.below hb) f v odd s hf hv hs ho
  have hso2 := fun W (hb : Below w.heap.size w W) => someO_calls W d vN2 vW2 hd (hp2.below hb) 99 0 0 ⟨#[]⟩ (by unfold IsInt64; omega) (by unfold IsInt64; omega) (by decide) (by unfold IsInt64; omega)
  unfold Cm.val at hso1 hso2 ⊢
  obtain ⟨⟨A, n, cc, xs, rfl, hn⟩, ⟨A', n', cc', xs', rfl, hn'⟩⟩ := (show PlanAt w vN1 vW1 from hp1)
  obtain ⟨⟨B, m, dd, ys, rfl, hm⟩, ⟨B', m', dd', ys', rfl, hm'⟩⟩ := (show PlanAt w vN2 vW2 from hp2)
  clear hn hn' hm hm' hp1 hp2 hc hd
  have hb1 := bl_alloc (bl_alloc (bl_refl w) (.cells #[.int .i64 c.kind, .int .i64 c.a, .int .i64 c.b, .int .i64 c.day, .int .i64 c.value, .string c.word, .slice A n cc, .slice A' n' cc'] 27)) (.cells #[.int .i64 d.kind, .int .i64 d.a, .int .i64 d.b, .int .i64 d.day, .int .i64 d.value, .string d.word, .slice B m dd, .slice B' m' dd'] 27)
  have hkC := (Blk.new w #[.int .i64 c.kind, .int .i64 c.a, .int .i64 c.b, .int .i64 c.day, .int .i64 c.value, .string c.word, .slice A n cc, .slice A' n' cc'] 27).below (bl_alloc (bl_refl _) (.cells #[.int .i64 d.kind, .int .i64 d.a, .int .i64 d.b, .int .i64 d.day, .int .i64 d.value, .string d.word, .slice B m dd, .slice B' m' dd'] 27))
  have hkD := Blk_new (w.alloc (.cells #[.int .i64 c.kind, .int .i64 c.a, .int .i64 c.b, .int .i64 c.day, .int .i64 c.value, .string c.word, .slice A n cc, .slice A' n' cc'] 27)) #[.int .i64 d.kind, .int .i64 d.a, .int .i64 d.b, .int .i64 d.day, .int .i64 d.value, .string d.word, .slice B m dd, .slice B' m' dd'] 27 (w.heap.size + 1) (by simp)
  obtain ⟨W1, hW1⟩ : ∃ W1, (w.alloc (.cells #[.int .i64 c.kind, .int .i64 c.a, .int .i64 c.b, .int .i64 c.day, .int .i64 c.value, .string c.word, .slice A n cc, .slice A' n' cc'] 27)).alloc (.cells #[.int .i64 d.kind, .int .i64 d.a, .int .i64 d.b, .int .i64 d.day, .int .i64 d.value, .string d.word, .slice B m dd, .slice B' m' dd'] 27) = W1 := ⟨_, rfl⟩
  rw [hW1] at hb1 hkC hkD
  obtain ⟨p0, p1, p2, p3, p4, p5, p6, p7⟩ := hkC.eight
  have HW1 := Lib.hid hW1; have HSO1 := Lib.hid (hso1 W1 hb1); have HSO2 := Lib.hid hso2; have HB1 := Lib.hid hb1; have HKD := Lib.hid hkD; have HT := Lib.hid ht
  clear hW1 hso1 hso2 hb1 hkC hkD ht hf hv hs ho
  go_enter Tryz.func4, Tryz.ntmps4
  go_upto_region 1 with fail
  rw [HW1.out]
  clear HW1
  go_wp2_with fail
  refine (HSO1.out).mono ?_
  intro en w2 hq; unfold RetSomeO Ev.val at hq; obtain ⟨x, vx, b, rfl, hE, hF, -, hb2⟩ := hq
  obtain ⟨p0, p1, p2, p3, rfl, hT1⟩ := hE
  obtain ⟨A1, c1, cs1, hag, -, -⟩ := hT1.open_
  have hcc : p0 = .int .i64 x.term.tr.kind ∧ p1 = .string x.term.tr.s ∧ p2 = .int .i64 x.term.tr.n ∧ p3 = .slice A1 x.term.tr.ks.length c1 := by injection hag with hag; simp at hag; exact hag
  obtain ⟨rfl, rfl, rfl, rfl⟩ := hcc
  clear hag
  clear p0 p1 p2 p3 p4 p5 p6 p7 HSO1
  have hok := hF.term
  have hti := x.term.isI hF.term
  have hte := x.term.one_ hF.term
  have hcs := x.term.cells_ hF.term
  have HW1Z : Hid (w.heap.size ≤ W1.heap.size) := HB1.out.size
  have HW12 : Hid (W1.heap.size ≤ w2.heap.size) := hb2.size
  have HF := Lib.hid hF; have HTX := Lib.hid hT1; have HB2 := Lib.hid (bl_step hb2 HB1.out); have HKD2 := Lib.hid (HKD.out.below hb2)
  clear hF hT1 hb2 HB1 HKD
  go_upto_region 2 with fail
  obtain ⟨q1, hq1⟩ : ∃ q, w2.heap.size = q := ⟨_, rfl⟩
  have hkx := (Blk_new w2 #[.int .i64 x.kind, .string x.id, .string x.name, .string x.label, .string x.cur, .int .i64 x.day, .int .i64 x.value, x.term.val] 30 q1 hq1.symm).below (bl_alloc (bl_refl _) (.cells #[.int .i64 x.kind, .string x.id, .string x.name, .string x.label, .string x.cur, .int .i64 x.day, .int .i64 x.value, .int .i64 x.term.tr.kind, .string x.term.tr.s, .int .i64 x.term.tr.n, .slice A1 x.term.tr.ks.length c1] 35))
  have hky := Blk_new (w2.alloc (.cells #[.int .i64 x.kind, .string x.id, .string x.name, .string x.label, .string x.cur, .int .i64 x.day, .int .i64 x.value, x.term.val] 30)) #[.int .i64 x.kind, .string x.id, .string x.name, .string x.label, .string x.cur, .int .i64 x.day, .int .i64 x.value, .int .i64 x.term.tr.kind, .string x.term.tr.s, .int .i64 x.term.tr.n, .slice A1 x.term.tr.ks.length c1] 35 (q1 + 1) (by rw [← hq1]; simp)
  have hb3 := bl_alloc (bl_alloc (bl_refl w2) (.cells #[.int .i64 x.kind, .string x.id, .string x.name, .string x.label, .string x.cur, .int .i64 x.day, .int .i64 x.value, x.term.val] 30)) (.cells #[.int .i64 x.kind, .string x.id, .string x.name, .string x.label, .string x.cur, .int .i64 x.day, .int .i64 x.value, .int .i64 x.term.tr.kind, .string x.term.tr.s, .int .i64 x.term.tr.n, .slice A1 x.term.tr.ks.length c1] 35)
  obtain ⟨W3, hW3⟩ : ∃ W3, (w2.alloc (.cells #[.int .i64 x.kind, .string x.id, .string x.name, .string x.label, .string x.cur, .int .i64 x.day, .int .i64 x.value, x.term.val] 30)).alloc (.cells #[.int .i64 x.kind, .string x.id, .string x.name, .string x.label, .string x.cur, .int .i64 x.day, .int .i64 x.value, .int .i64 x.term.tr.kind, .string x.term.tr.s, .int .i64 x.term.tr.n, .slice A1 x.term.tr.ks.length c1] 35) = W3 := ⟨_, rfl⟩
  rw [hW3] at hkx hky hb3 ⊢
  rw [hq1]
  have hq0 : w.heap.size ≤ q1 := by rw [← hq1]; exact HB2.out.size
  have HW13 : Hid (W1.heap.size ≤ W3.heap.size) := Nat.le_trans HW12.out hb3.size
  have HB3 := Lib.hid (bl_step hb3 HB2.out); have HKX := Lib.hid hkx; have HKY := Lib.hid hky; have HTX3 := Lib.hid (HTX.out.below hb3); have HKD3 := Lib.hid (HKD2.out.below hb3)
  clear hW3 hkx hky hb3 HTX HB2 HKD2 hq1 hti hte hcs hok
  obtain ⟨p0, p1, p2, p3, p4, p5, p6, p7⟩ := HKD3.out.eight
  go_wp2_with fail
  refine (HSO2.out W3 HB3.out).mono ?_
  intro en w4 hq; unfold RetSomeO Ev.val at hq; obtain ⟨z, vz, bz, rfl, hE, hG, hgb, hb4⟩ := hq
  obtain rfl := hgb (by decide)
  obtain ⟨p0, p1, p2, p3, rfl, hT2⟩ := hE
  obtain ⟨A2, c2, cs2, hag, -, -⟩ := hT2.open_
  have hcc : p0 = .int .i64 z.term.tr.kind ∧ p1 = .string z.term.tr.s ∧ p2 = .int .i64 z.term.tr.n ∧ p3 = .slice A2 z.term.tr.ks.length c2 := by injection hag with hag; simp at hag; exact hag
  obtain ⟨rfl, rfl, rfl, rfl⟩ := hcc
  clear hag
  clear p0 p1 p2 p3 p4 p5 p6 p7 HSO2
  have hok := hG.term
  have hti := z.term.isI hG.term
  have hte := z.term.one_ hG.term
  have hcs := z.term.cells_ hG.term
  have hqa := HKY.out.lt
  have hqb := hb4.size
  have HW3Z : Hid (W1.heap.size ≤ W3.heap.size) := HW13.out
  have HG := Lib.hid hG; have HTZ := Lib.hid hT2; have HB4 := Lib.hid (bl_step hb4 HB3.out); have HKX4 := Lib.hid (HKX.out.below hb4); have HKY4 := Lib.hid (HKY.out.below hb4); have HTX4 := Lib.hid (HTX3.out.below hb4)
  clear hG hT2 hb4 HB3 HKX HKY HTX3 HKD3
  go_upto_region 3 with fail
  obtain ⟨q2, hq2⟩ : ∃ q, w4.heap.size = q := ⟨_, rfl⟩
  have hkz := (Blk_new w4 #[.int .i64 z.kind, .string z.id, .string z.name, .string z.label, .string z.cur, .int .i64 z.day, .int .i64 z.value, z.term.val] 30 q2 hq2.symm).below (bl_alloc (bl_refl _) (.cells #[.int .i64 z.kind, .string z.id, .string z.name, .string z.label, .string z.cur, .int .i64 z.day, .int .i64 z.value, .int .i64 z.term.tr.kind, .string z.term.tr.s, .int .i64 z.term.tr.n, .slice A2 z.term.tr.ks.length c2] 35))
  have hku := Blk_new (w4.alloc (.cells #[.int .i64 z.kind, .string z.id, .string z.name, .string z.label, .string z.cur, .int .i64 z.day, .int .i64 z.value, z.term.val] 30)) #[.int .i64 z.kind, .string z.id, .string z.name, .string z.label, .string z.cur, .int .i64 z.day, .int .i64 z.value, .int .i64 z.term.tr.kind, .string z.term.tr.s, .int .i64 z.term.tr.n, .slice A2 z.term.tr.ks.length c2] 35 (q2 + 1) (by rw [← hq2]; simp)
  have hb5 := bl_alloc (bl_alloc (bl_refl w4) (.cells #[.int .i64 z.kind, .string z.id, .string z.name, .string z.label, .string z.cur, .int .i64 z.day, .int .i64 z.value, z.term.val] 30)) (.cells #[.int .i64 z.kind, .string z.id, .string z.name, .string z.label, .string z.cur, .int .i64 z.day, .int .i64 z.value, .int .i64 z.term.tr.kind, .string z.term.tr.s, .int .i64 z.term.tr.n, .slice A2 z.term.tr.ks.length c2] 35)
  obtain ⟨W5, hW5⟩ : ∃ W5, (w4.alloc (.cells #[.int .i64 z.kind, .string z.id, .string z.name, .string z.label, .string z.cur, .int .i64 z.day, .int .i64 z.value, z.term.val] 30)).alloc (.cells #[.int .i64 z.kind, .string z.id, .string z.name, .string z.label, .string z.cur, .int .i64 z.day, .int .i64 z.value, .int .i64 z.term.tr.kind, .string z.term.tr.s, .int .i64 z.term.tr.n, .slice A2 z.term.tr.ks.length c2] 35) = W5 := ⟨_, rfl⟩
  rw [hW5] at hkz hku hb5 ⊢
  rw [hq2]
  have hqc : q1 + 1 < q2 := by rw [← hq2]; omega
  have hB45 := hb5
  have HB4W := HB4
  have HB45 := Lib.hid hb5; have HKZ := Lib.hid hkz; have HKU := Lib.hid hku; have HQ2 := Lib.hid hq2
  clear hW5 hkz hku hb5 hq2 hqa hqb hti hte hcs hok hB45
  go_upto_if 37 with fail
  go_cut [] (fun wx => Below w4.heap.size w4 wx ∧ ∃ (z : Ev) (A3 : Option Addr) (c3 : Nat), z.fitO false ∧ TrAt w.heap.size wx z.term.tr (.agg #[.int .i64 z.term.tr.kind, .string z.term.tr.s, .int .i64 z.term.tr.n, .slice A3 z.term.tr.ks.length c3]) ∧ Blk wx q2 #[.int .i64 z.kind, .string z.id, .string z.name, .string z.label, .string z.cur, .int .i64 z.day, .int .i64 z.value, z.term.val] 30 ∧ Blk wx (q2 + 1) #[.int .i64 z.kind, .string z.id, .string z.name, .string z.label, .string z.cur, .int .i64 z.day, .int .i64 z.value, .int .i64 z.term.tr.kind, .string z.term.tr.s, .int .i64 z.term.tr.n, .slice A3 z.term.tr.ks.length c3] 35)
  case first =>
    have hszw : w.heap.size ≤ W1.heap.size := HW1Z.out
    cases same with
    | false =>
      go_wp2_with fail
      go_meet
      exact ⟨HB45.out, z, A2, c2, HG.out, (HTZ.out.below HB45.out).mono (Nat.le_trans hszw (by have := HW3Z.out; omega)), HKZ.out, HKU.out⟩
    | true =>
      obtain ⟨y, hyk, hyf, hyt⟩ : ∃ y : Ev, (#[.int .i64 y.kind, .string y.id, .string y.name, .string y.label, .string y.cur, .int .i64 y.day, .int .i64 y.value, y.term.val] : Array Value) = #[.int .i64 y.kind, .string y.id, .string y.name, .string y.label, .string y.cur, .int .i64 y.day, .int .i64 y.value, y.term.val] ∧ y.fitO false ∧ (y.kind = x.kind ∧ y.id = x.id ∧ y.name = x.name ∧ y.label = x.label ∧ y.cur = x.cur ∧ y.day = x.day ∧ y.value = x.value ∧ y.term.tr = x.term.tr) := by
        cases b with
        | false => exact ⟨x, rfl, HF.out, rfl, rfl, rfl, rfl, rfl, rfl, rfl, rfl⟩
        | true =>
          obtain ⟨u, e1, -⟩ := HF.out.yes rfl
          exact ⟨⟨x.kind, x.id, x.name, x.label, x.cur, x.day, x.value, .odd .nilIface⟩, rfl, ⟨HF.out.kind, HF.out.id, HF.out.name, HF.out.label, HF.out.cur, HF.out.day, HF.out.value, .inl rfl, fun _ => .inl rfl, fun h => by cases h⟩, rfl, rfl, rfl, rfl, rfl, rfl, rfl, by rw [e1]; rfl⟩
      have HYT := Lib.hid hyt
      clear hyk hyt
      have hyo := hyf.term
      have hti := y.term.isI hyo
      have hbk := fun W (hW : Below w4.heap.size w4 W) => back_calls y (hyf.no rfl) W1.heap.size W (.agg #[.int .i64 x.kind, .string x.id, .string x.name, .string x.label, .string x.cur, .int .i64 x.day, .int .i64 x.value, .int .i64 x.term.tr.kind, .string x.term.tr.s, .int .i64 x.term.tr.n, .slice A1 x.term.tr.ks.length c1]) ⟨_, _, _, _, by obtain ⟨y1, y2, y3, y4, y5, y6, y7, y8⟩ := HYT.out; rw [y1, y2, y3, y4, y5, y6, y7], by obtain ⟨y1, y2, y3, y4, y5, y6, y7, y8⟩ := HYT.out; rw [y8]; exact HTX4.out.below hW⟩
      unfold RetEv Ev.val at hbk
      have hq2 := HQ2.out
      have HBK := Lib.hid hbk
      clear hbk
      go_upto_region 4 with fail
      refine wp_region_noPanic ?_
      refine wp_region_held_drew (S := fun w' => w'.rangeAt (q1 + 1) 0 [.int .i64 x.kind, .string x.id, .string x.name, .string x.label, .string x.cur, .int .i64 x.day, .int .i64 x.value, .int .i64 x.term.tr.kind, .string x.term.tr.s, .int .i64 x.term.tr.n, .slice A1 x.term.tr.ks.length c1]) (by kernel_rfl) (HKY4.out.below HB45.out).range (fun hHeld => ?_)
      refine wpAnyH_world (fun W => Below W5.heap.size W5 W) (bl_drew (bl_refl _)) (fun W2 hb2 => ?_)
      refine wpAnyH_lst #[false, false, false, false, false] (by rfl) ?_
      clear hHeld
      refine wpAnyH_named (fun A0 hA0 => ?_)
      have HA0 := Lib.hid hA0
      refine sp_in A0 [38, 39, 40] 89 [(16, .pointer (some ⟨q1 + 1, 0, none⟩)), (18, .pointer (some ⟨q2, 0, none⟩)), (19, .pointer (some ⟨q2 + 1, 0, none⟩))] (by rw [hA0]; rfl) (HKY4.out.below (bl_step hb2 HB45.out)).range (by rw [hA0]; exact ⟨rfl, rfl, rfl, trivial⟩) ?_
      clear hA0
      refine sl 0 16 rfl (q1 + 1) 0 [.int .i64 x.kind, .string x.id, .string x.name, .string x.label, .string x.cur, .int .i64 x.day, .int .i64 x.value, .int .i64 x.term.tr.kind, .string x.term.tr.s, .int .i64 x.term.tr.n, .slice A1 x.term.tr.ks.length c1] _ (fun w h => h) Tryz.underlying35 size_rf11 ?_
      refine sl 2 16 rfl (q1 + 1) 0 [.int .i64 x.kind, .string x.id, .string x.name, .string x.label, .string x.cur, .int .i64 x.day, .int .i64 x.value, .int .i64 x.term.tr.kind, .string x.term.tr.s, .int .i64 x.term.tr.n, .slice A1 x.term.tr.ks.length c1] _ (fun w h => h) Tryz.underlying35 size_rf11 ?_
      refine sr 1 (sc 1 [38] rfl (HBK.out _ (bl_step hb2 HB45.out)) ?_)
      rintro en W8 ⟨rfl, hb⟩
      replace hb2 := bl_step hb hb2
      refine ⟨_, rfl, (HKY4.out.below (bl_step hb2 HB45.out)).range, ?_⟩
      clear hb
      have hk8 := HKZ.out.below hb2
      have hku8 := (HKU.out.below hb2).grown (gb_set8 W8 q2 (.int .i64 y.kind) (.string y.id) (.string y.name) (.string y.label) (.string y.cur) (.int .i64 y.day) (.int .i64 y.value) y.term.val) (fun e => by injection e with e; omega)
      have hkz8 := hk8.set8 (.int .i64 y.kind) (.string y.id) (.string y.name) (.string y.label) (.string y.cur) (.int .i64 y.day) (.int .i64 y.value) y.term.val
      have hb48 := bl_grown (bl_step hb2 HB45.out) (gb_set8 W8 q2 (.int .i64 y.kind) (.string y.id) (.string y.name) (.string y.label) (.string y.cur) (.int .i64 y.day) (.int .i64 y.value) y.term.val) (by omega)
      obtain ⟨k0, k1, k2, k3, k4, k5, k6, k7⟩ := hk8.eight
      have kz := fun j => hk8.frozen j
      have hlt8 := hk8.lt
      refine sr 3 (sw 3 [18, 39] rfl ?_ ?_)
      · exact (HKY4.out.below hb48).range
      clear k0 k1 k2 k3 k4 k5 k6 k7 kz hk8 hlt8 hb2
      refine sp_world (fun W => Below w4.heap.size w4 W ∧ Blk W q2 #[.int .i64 y.kind, .string y.id, .string y.name, .string y.label, .string y.cur, .int .i64 y.day, .int .i64 y.value, y.term.val] 30 ∧ Blk W (q2 + 1) #[.int .i64 z.kind, .string z.id, .string z.name, .string z.label, .string z.cur, .int .i64 z.day, .int .i64 z.value, .int .i64 z.term.tr.kind, .string z.term.tr.s, .int .i64 z.term.tr.n, .slice A2 z.term.tr.ks.length c2] 35) ⟨hb48, hkz8, hku8⟩ (fun W9 h9 => ?_)
      clear hb48 hkz8 hku8
      obtain ⟨hb9, hkz9, hku9⟩ := h9
      have hku10 := hku9.set11 (.int .i64 x.kind) (.string x.id) (.string x.name) (.string x.label) (.string x.cur) (.int .i64 x.day) (.int .i64 x.value) (.int .i64 x.term.tr.kind) (.string x.term.tr.s) (.int .i64 x.term.tr.n) (.slice A1 x.term.tr.ks.length c1)
      have hkz10 := hkz9.grown (gb_set11 W9 (q2 + 1) (.int .i64 x.kind) (.string x.id) (.string x.name) (.string x.label) (.string x.cur) (.int .i64 x.day) (.int .i64 x.value) (.int .i64 x.term.tr.kind) (.string x.term.tr.s) (.int .i64 x.term.tr.n) (.slice A1 x.term.tr.ks.length c1)) (fun e => by injection e with e; omega)
      have hb10 := bl_grown hb9 (gb_set11 W9 (q2 + 1) (.int .i64 x.kind) (.string x.id) (.string x.name) (.string x.label) (.string x.cur) (.int .i64 x.day) (.int .i64 x.value) (.int .i64 x.term.tr.kind) (.string x.term.tr.s) (.int .i64 x.term.tr.n) (.slice A1 x.term.tr.ks.length c1)) (by omega)
      obtain ⟨k0, k1, k2, k3, k4, k5, k6, k7, k8, k9, k10⟩ := hku9.eleven
      have kz := fun j => hku9.frozen j
      have hlt9 := hku9.lt
      refine sr 4 (sw 4 [19, 40] rfl ?_ ?_)
      · exact (HKY4.out.below hb10).range
      clear k0 k1 k2 k3 k4 k5 k6 k7 k8 k9 k10 kz hku9 hkz9 hb9 hlt9
      have HR := Lib.hid (And.intro hb10 (And.intro hku10 hkz10))
      clear hb10 hku10 hkz10
      refine sp_done (fun A hO hN hS => NoPanic.normal ?_)
      obtain ⟨fo, hfo⟩ := hO.lit HA0.out
      clear hO hN
      dsimp only [putL, List.set_cons_zero, List.set_cons_succ] at hfo
      subst hfo
      go_wp2_with fail
      go_meet
      refine ⟨HR.out.1, y, A1, c1, hyf, ?_, HR.out.2.2, ?_⟩
      · obtain ⟨y1, y2, y3, y4, y5, y6, y7, y8⟩ := HYT.out
        rw [y8]; exact (HTX4.out.below HR.out.1).mono hszw
      · obtain ⟨y1, y2, y3, y4, y5, y6, y7, y8⟩ := HYT.out
        rw [y1, y2, y3, y4, y5, y6, y7, y8]; exact HR.out.2.1
  obtain ⟨hbx, zz, A3, c3, hG2, hTz, hkz, hku⟩ := hcut
  rename World => wx
  have hkx := HKX4.out.below hbx
  have hky := HKY4.out.below hbx
  have hTx := (HTX4.out.below hbx).mono HW1Z.out
  obtain ⟨hxs, hxo, hxm⟩ := Ev.fitO_tr HF.out
  obtain ⟨hzs, hzo, hzm⟩ := Ev.fitO_tr hG2
  have hck := fun W hT => echeck_calls x (Ev.fitO_ok HF.out) hxm W hT
  have hrc := fun W (hW : Below wx.heap.size wx W) => revcheck_calls x (by have := HF.out.kind; unfold IsInt64; omega) HF.out.day HF.out.value (by have := HF.out.id; omega) (by have := HF.out.name; omega) (by have := HF.out.label; omega) (by have := HF.out.cur; omega) hxs hxo b w.heap.size W _ ⟨_, _, _, _, rfl, hTx.below hW⟩
  rw [Ev.fitO_check HF.out] at hrc
  have hfl := fun W => fields_calls x.kind W
  have hrf := fun W => rfields_calls x.kind W
  have hsxx := fun W => esame_calls x x (Ev.fitO_ok HF.out) (Ev.fitO_ok HF.out) W
  have hsxz := fun W => esame_calls x zz (Ev.fitO_ok HF.out) (Ev.fitO_ok hG2) W
  have hszx := fun W => esame_calls zz x (Ev.fitO_ok hG2) (Ev.fitO_ok HF.out) W
  have hrs := fun W (hW : Below wx.heap.size wx W) => revsame_calls x zz hxs hzs w.heap.size W _ _ ⟨_, _, _, _, rfl, hTx.below hW⟩ ⟨_, _, _, _, rfl, hTz.below hW⟩
  unfold Ev.val at hck hsxx hsxz hszx
  rw [Ev.same_comm zz x] at hszx
  generalize hcv : x.check = cv at *
  generalize fieldsS x.kind = fs at *
  have HBW := Lib.hid (bl_step hbx (show Below w.heap.size w w4 from HB4W.out)); have HCK := Lib.hid hck; have HRC := Lib.hid hrc; have HFL := Lib.hid hfl; have HRF := Lib.hid hrf; have HSXX := Lib.hid hsxx; have HSXZ := Lib.hid hsxz; have HSZX := Lib.hid hszx; have HRS := Lib.hid hrs
  have HKX := Lib.hid hkx; have HKY := Lib.hid hky; have HKZ2 := Lib.hid hkz; have HKU2 := Lib.hid hku; have HG2 := Lib.hid hG2
  clear hbx hck hrc hfl hrf hsxx hsxz hszx hrs hkx hky hkz hku hG2 hTx hTz hxs hxo hxm hzs hzo hzm hcv HKX4 HKY4 HTX4 HTZ HB45 HKZ HKU HQ2
  go_upto_region 5 with fail
  go_cut [55] (fun v wy => v = .bool false ∧ Below wx.heap.size wx wy)
  case first =>
    have hkq : wx.cell? ⟨q1, 0, none⟩ = some (.int .i64 x.kind) := HKX.out.cell 0
    refine wp_region_noPanic ?_
    refine wp_region_held_drew (S := fun w' => w'.rangeAt q1 0 [.int .i64 x.kind, .string x.id, .string x.name, .string x.label, .string x.cur, .int .i64 x.day, .int .i64 x.value, x.term.val] ∧ w'.rangeAt (q1 + 1) 0 [.int .i64 x.kind, .string x.id, .string x.name, .string x.label, .string x.cur, .int .i64 x.day, .int .i64 x.value, .int .i64 x.term.tr.kind, .string x.term.tr.s, .int .i64 x.term.tr.n, .slice A1 x.term.tr.ks.length c1] ∧ w'.cell? ⟨q1, 0, none⟩ = some (.int .i64 x.kind)) (by kernel_rfl) ⟨HKX.out.range, HKY.out.range, hkq⟩ (fun hHeld => ?_)
    refine wpAnyH_world (fun W => Below wx.heap.size wx W) (bl_drew (bl_refl _)) (fun W2 hb2 => ?_)
    refine wpAnyH_lst #[false, false, false, false, false, false, false, false, false, false, false, false, false, false, false] (by rfl) ?_
    clear hHeld
    refine wpAnyH_named (fun A0 hA0 => ?_)
    have HA0 := Lib.hid hA0
    refine sp_in A0 [41, 42, 43, 44, 45, 46, 47, 48, 49, 50, 51, 52, 53, 54, 55] 89 [(15, .pointer (some ⟨q1, 0, none⟩)), (16, .pointer (some ⟨q1 + 1, 0, none⟩)), (17, .bool b)] (by rw [hA0]; rfl) ⟨(HKX.out.below (hb2)).range, (HKY.out.below (hb2)).range, (HKX.out.below (hb2)).cell 0⟩ (by rw [hA0]; exact ⟨rfl, rfl, rfl, trivial⟩) ?_
    clear hA0
    refine sl 0 15 rfl q1 0 [.int .i64 x.kind, .string x.id, .string x.name, .string x.label, .string x.cur, .int .i64 x.day, .int .i64 x.value, x.term.val] _ (fun w h => h.1) Tryz.underlying30 size_ev8e ?_
    refine sl 2 16 rfl (q1 + 1) 0 [.int .i64 x.kind, .string x.id, .string x.name, .string x.label, .string x.cur, .int .i64 x.day, .int .i64 x.value, .int .i64 x.term.tr.kind, .string x.term.tr.s, .int .i64 x.term.tr.n, .slice A1 x.term.tr.ks.length c1] _ (fun w h => h.2.1) Tryz.underlying35 size_rf11 ?_
    refine st 3 [17] rfl ?_
    refine sr 1 (sc 1 [41] rfl (HCK.out _ (HT.out.below (bl_step hb2 HBW.out))) ?_)
    rintro en W3 ⟨rfl, hb⟩
    replace hb2 := bl_step hb hb2
    refine ⟨_, rfl, ⟨(HKX.out.below (hb2)).range, (HKY.out.below (hb2)).range, (HKX.out.below (hb2)).cell 0⟩, ?_⟩
    clear hb
    refine sr 4 (sc 4 [43, 44] rfl (HRC.out _ hb2) ?_)
    rintro en W3 ⟨rfl, hb⟩
    replace hb2 := bl_step hb hb2
    refine ⟨_, rfl, ⟨(HKX.out.below (hb2)).range, (HKY.out.below (hb2)).range, (HKX.out.below (hb2)).cell 0⟩, ?_⟩
    clear hb
    refine st (v := .bool false) 5 [42, 45] rfl ?_
    refine st 6 [46] rfl ?_
    refine st 7 [15] rfl ?_
    refine st 10 [15] rfl ?_
    refine st 8 [48] rfl ?_
    refine st 11 [51] rfl ?_
    refine sr 9 (sc 9 [49] rfl (HFL.out _) ?_)
    rintro en W3 ⟨rfl, rfl⟩
    refine ⟨_, rfl, ⟨(HKX.out.below (hb2)).range, (HKY.out.below (hb2)).range, (HKX.out.below (hb2)).cell 0⟩, ?_⟩
    refine sr 12 (sc 12 [52] rfl (HRF.out _) ?_)
    rintro en W3 ⟨rfl, rfl⟩
    refine ⟨_, rfl, ⟨(HKX.out.below (hb2)).range, (HKY.out.below (hb2)).range, (HKX.out.below (hb2)).cell 0⟩, ?_⟩
    refine st (v := .bool false) 13 [50, 53] rfl ?_
    refine st 14 [47, 54] rfl ?_
    refine sp_done (fun A hO hN hS => NoPanic.normal ?_)
    obtain ⟨fo, hfo⟩ := hO.lit HA0.out
    have g55 := hN.get 55 rfl
    clear hO hN
    dsimp only [putL, List.set_cons_zero, List.set_cons_succ] at hfo
    subst hfo
    have g55 : fo 55 = .bool false := g55
    go_wp2_with fail
    go_meet
    exact ⟨rfl, hb2⟩
  obtain ⟨rfl, hby⟩ := hcut
  rename World => wy
  cases b with
  | true =>
    have e1 := Ev.odd_same x x (HF.out.yes rfl)
    have e2 := Ev.odd_same x zz (HF.out.yes rfl)
    have hsxx := HSXX.out
    have hsxz := HSXZ.out
    rw [e1] at hsxx
    rw [e2] at hsxz
    have HS1 := Lib.hid hsxx; have HS2 := Lib.hid hsxz
    have hok := HF.out.term
    have hti := x.term.isI hok
    have hte := x.term.one_ hok
    have hcs := x.term.cells_ hok
    have hokz := HG2.out.term
    have htiz := zz.term.isI hokz
    have htez := zz.term.one_ hokz
    have hcsz := zz.term.cells_ hokz
    clear hsxx hsxz e1 e2 HSXX HSXZ HSZX HRS HCK HRC
    obtain ⟨f0, f1, f2, f3, f4, f5, f6, f7⟩ := (HKX.out.below hby).eight
    go_wp2_with fail
    refine (HS1.out _).mono ?_
    rintro en w6 ⟨rfl, hb6⟩
    have hb7 := bl_step hb6 hby
    clear f0 f1 f2 f3 f4 f5 f6 f7 hb6 hby
    obtain ⟨f0, f1, f2, f3, f4, f5, f6, f7⟩ := (HKX.out.below hb7).eight
    obtain ⟨g0, g1, g2, g3, g4, g5, g6, g7⟩ := (HKZ2.out.below hb7).eight
    go_wp2_with fail
    refine (HS2.out _).mono ?_
    rintro en w7 ⟨rfl, hb8⟩
    have hb9 := bl_step hb8 hb7
    clear f0 f1 f2 f3 f4 f5 f6 f7 g0 g1 g2 g3 g4 g5 g6 g7 hb8 hb7
    go_wp2_with fail
    refine (wakes11_calls _ (HT.out.below (bl_step hb9 HBW.out))).mono ?_
    rintro en w8 ⟨rfl, hb10⟩
    go_wp2_with fail
    go_ret
    exact ⟨rfl, bl_step hb10 (bl_step hb9 HBW.out)⟩
  | false =>
    have hrs := HRS.out
    rw [Ev.rsame_eq x zz (HF.out.no rfl) (HG2.out.no rfl)] at hrs
    have hsxz := HSXZ.out
    have hszx := HSZX.out
    generalize x.same zz = sm at *
    have HS1 := Lib.hid hsxz; have HS2 := Lib.hid hszx; have HS3 := Lib.hid hrs
    clear hsxz hszx hrs HSXX HSXZ HSZX HRS HCK HRC
    go_upto_region 9 with fail
    refine wp_region_noPanic ?_
    refine wp_region_held_drew (S := fun w' => w'.rangeAt q1 0 [.int .i64 x.kind, .string x.id, .string x.name, .string x.label, .string x.cur, .int .i64 x.day, .int .i64 x.value, x.term.val] ∧ w'.rangeAt (q1 + 1) 0 [.int .i64 x.kind, .string x.id, .string x.name, .string x.label, .string x.cur, .int .i64 x.day, .int .i64 x.value, .int .i64 x.term.tr.kind, .string x.term.tr.s, .int .i64 x.term.tr.n, .slice A1 x.term.tr.ks.length c1] ∧ w'.rangeAt q2 0 [.int .i64 zz.kind, .string zz.id, .string zz.name, .string zz.label, .string zz.cur, .int .i64 zz.day, .int .i64 zz.value, zz.term.val] ∧ w'.rangeAt (q2 + 1) 0 [.int .i64 zz.kind, .string zz.id, .string zz.name, .string zz.label, .string zz.cur, .int .i64 zz.day, .int .i64 zz.value, .int .i64 zz.term.tr.kind, .string zz.term.tr.s, .int .i64 zz.term.tr.n, .slice A3 zz.term.tr.ks.length c3]) (by kernel_rfl) ⟨(HKX.out.below (hby)).range, (HKY.out.below (hby)).range, (HKZ2.out.below (hby)).range, (HKU2.out.below (hby)).range⟩ (fun hHeld => ?_)
    refine wpAnyH_world (fun W => Below wy.heap.size wy W) (bl_drew (bl_refl _)) (fun W2 hb2 => ?_)
    refine wpAnyH_lst #[false, false, false, false, false, false, false, false, false, false, false, false, false, false, false, false, false, false, false, false] (by rfl) ?_
    clear hHeld
    refine wpAnyH_named (fun A0 hA0 => ?_)
    have HA0 := Lib.hid hA0
    refine sp_in A0 [70, 71, 72, 73, 74, 75, 76, 77, 78, 79, 80, 81, 82, 83, 84, 85, 86, 87, 88, 14] 89 [(15, .pointer (some ⟨q1, 0, none⟩)), (16, .pointer (some ⟨q1 + 1, 0, none⟩)), (18, .pointer (some ⟨q2, 0, none⟩)), (19, .pointer (some ⟨q2 + 1, 0, none⟩))] (by rw [hA0]; rfl) ⟨(HKX.out.below (bl_step hb2 hby)).range, (HKY.out.below (bl_step hb2 hby)).range, (HKZ2.out.below (bl_step hb2 hby)).range, (HKU2.out.below (bl_step hb2 hby)).range⟩ (by rw [hA0]; exact ⟨rfl, rfl, rfl, rfl, trivial⟩) ?_
    clear hA0
    refine sl 0 15 rfl q1 0 [.int .i64 x.kind, .string x.id, .string x.name, .string x.label, .string x.cur, .int .i64 x.day, .int .i64 x.value, x.term.val] _ (fun w h => h.1) Tryz.underlying30 size_ev8e ?_
    refine sl 1 18 rfl q2 0 [.int .i64 zz.kind, .string zz.id, .string zz.name, .string zz.label, .string zz.cur, .int .i64 zz.day, .int .i64 zz.value, zz.term.val] _ (fun w h => h.2.2.1) Tryz.underlying30 size_ev8e ?_
    refine sl 3 16 rfl (q1 + 1) 0 [.int .i64 x.kind, .string x.id, .string x.name, .string x.label, .string x.cur, .int .i64 x.day, .int .i64 x.value, .int .i64 x.term.tr.kind, .string x.term.tr.s, .int .i64 x.term.tr.n, .slice A1 x.term.tr.ks.length c1] _ (fun w h => h.2.1) Tryz.underlying35 size_rf11 ?_
    refine sl 4 19 rfl (q2 + 1) 0 [.int .i64 zz.kind, .string zz.id, .string zz.name, .string zz.label, .string zz.cur, .int .i64 zz.day, .int .i64 zz.value, .int .i64 zz.term.tr.kind, .string zz.term.tr.s, .int .i64 zz.term.tr.n, .slice A3 zz.term.tr.ks.length c3] _ (fun w h => h.2.2.2) Tryz.underlying35 size_rf11 ?_
    refine sr 2 (sc 2 [70, 71] rfl (HS1.out _) ?_)
    rintro en W3 ⟨rfl, hb⟩
    replace hb2 := bl_step hb hb2
    refine ⟨_, rfl, ⟨(HKX.out.below (bl_step hb2 hby)).range, (HKY.out.below (bl_step hb2 hby)).range, (HKZ2.out.below (bl_step hb2 hby)).range, (HKU2.out.below (bl_step hb2 hby)).range⟩, ?_⟩
    clear hb
    refine sr 5 (sc 5 [73, 74] rfl (HS3.out _ (bl_step hb2 hby)) ?_)
    rintro en W3 ⟨rfl, hb⟩
    replace hb2 := bl_step hb hb2
    refine ⟨_, rfl, ⟨(HKX.out.below (bl_step hb2 hby)).range, (HKY.out.below (bl_step hb2 hby)).range, (HKZ2.out.below (bl_step hb2 hby)).range, (HKU2.out.below (bl_step hb2 hby)).range⟩, ?_⟩
    clear hb
    refine st (v := .bool true) 6 [72, 75] rfl ?_
    refine st 7 [76] rfl ?_
    refine sl 8 18 rfl q2 0 [.int .i64 zz.kind, .string zz.id, .string zz.name, .string zz.label, .string zz.cur, .int .i64 zz.day, .int .i64 zz.value, zz.term.val] _ (fun w h => h.2.2.1) Tryz.underlying30 size_ev8e ?_
    refine sl 9 15 rfl q1 0 [.int .i64 x.kind, .string x.id, .string x.name, .string x.label, .string x.cur, .int .i64 x.day, .int .i64 x.value, x.term.val] _ (fun w h => h.1) Tryz.underlying30 size_ev8e ?_
    refine sl 11 15 rfl q1 0 [.int .i64 x.kind, .string x.id, .string x.name, .string x.label, .string x.cur, .int .i64 x.day, .int .i64 x.value, x.term.val] _ (fun w h => h.1) Tryz.underlying30 size_ev8e ?_
    refine sl 12 18 rfl q2 0 [.int .i64 zz.kind, .string zz.id, .string zz.name, .string zz.label, .string zz.cur, .int .i64 zz.day, .int .i64 zz.value, zz.term.val] _ (fun w h => h.2.2.1) Tryz.underlying30 size_ev8e ?_
    refine sr 10 (sc 10 [78, 79] rfl (HS2.out _) ?_)
    rintro en W3 ⟨rfl, hb⟩
    replace hb2 := bl_step hb hb2
    refine ⟨_, rfl, ⟨(HKX.out.below (bl_step hb2 hby)).range, (HKY.out.below (bl_step hb2 hby)).range, (HKZ2.out.below (bl_step hb2 hby)).range, (HKU2.out.below (bl_step hb2 hby)).range⟩, ?_⟩
    clear hb
    refine sr 13 (sc 13 [81, 82] rfl (HS1.out _) ?_)
    rintro en W3 ⟨rfl, hb⟩
    replace hb2 := bl_step hb hb2
    refine ⟨_, rfl, ⟨(HKX.out.below (bl_step hb2 hby)).range, (HKY.out.below (bl_step hb2 hby)).range, (HKZ2.out.below (bl_step hb2 hby)).range, (HKU2.out.below (bl_step hb2 hby)).range⟩, ?_⟩
    clear hb
    refine st (v := .bool true) 14 [80, 83] rfl ?_
    refine st 15 [77, 84] rfl ?_
    refine st 16 [85] rfl ?_
    refine sr 17 (sc 17 [] rfl (wakes11_calls _ (HT.out.below (bl_step (bl_step hb2 hby) HBW.out))) ?_)
    rintro en W3 ⟨rfl, hb⟩
    replace hb2 := bl_step hb hb2
    refine ⟨_, rfl, ⟨(HKX.out.below (bl_step hb2 hby)).range, (HKY.out.below (bl_step hb2 hby)).range, (HKZ2.out.below (bl_step hb2 hby)).range, (HKU2.out.below (bl_step hb2 hby)).range⟩, ?_⟩
    clear hb
    refine st 18 [86, 87] rfl ?_
    refine st (v := .bool true) 19 [88] rfl ?_
    refine sp_done (fun A hO hN hS => NoPanic.normal ?_)
    obtain ⟨fo, hfo⟩ := hO.lit HA0.out
    have g14 := hN.get 14 rfl
    clear hO hN
    dsimp only [putL, List.set_cons_zero, List.set_cons_succ] at hfo
    subst hfo
    have g14 : fo 14 = .bool true := g14
    go_wp2_with fail
    go_ret
    exact ⟨rfl, bl_step (bl_step hb2 hby) HBW.out⟩
end Go.Proofs.YtapbkomicihkkaaGreatDoor
namespace Go.Proofs.YtapbkomicihkkaaGreatDoor.eventTells
open Go.ChangeShapes Go.WideShapes Go.ChangeAt Go.RowKit
open Go.ChangeMaps (open_string shut_string)
set_option linter.unusedVariables false

theorem laidOut : laidOutB Tryz.prog = true := by kernel_rfl

set_option maxRecDepth 100000 in
theorem lifted (os : Os) (started : os.Started) (H : Type) (enc : TypeId × Value → H) :
    ReturnsInHanded {} Tryz.checked os 4 .any (fun w args => (Rows.eventTellsSpec.pre enc Tryz.prog Tryz.f4 [] false w args ∧ laidMetH Tryz.prog laidL w) ∧ sizedMet enc Tryz.prog Tryz.f4 (OpenSpec.ofChange Rows.eventTellsSpec) false w args) (Rows.eventTellsSpec.post enc Tryz.prog Tryz.f4 false true false false) := by
  refine returnsInHanded_of_change_and (C := Tryz.checked) (X := fun w _ => laidMetH Tryz.prog laidL w) (fun _ _ _ hh h => h.of_heap hh) own started (by kernel_rfl) Tryz.func4
    (ChangeSpec.witness_shaped (enc := enc) (C := Tryz.checked) (os := os) (X := fun w _ => laidMetH Tryz.prog laidL w) false (World.doorLaid Tryz.prog 400 os) #[.agg #[.int .i64 0, .int .i64 0, .int .i64 0, .int .i64 0, .int .i64 0, .string ⟨#[]⟩, .slice none 0 0, .slice none 0 0], .agg #[.int .i64 0, .int .i64 0, .int .i64 0, .int .i64 0, .int .i64 0, .string ⟨#[]⟩, .slice none 0 0, .slice none 0 0], .int .i64 0, .int .i64 0, .string ⟨#[]⟩, .int .i64 0, .bool false] 8 rfl (World.shaped_of_RefB (by kernel_rfl) (by kernel_rfl)) (by kernel_rfl) (by kernel_rfl) (by kernel_rfl) (door_met os _)) ?_
  intro W base args ds gs before hval0 hW hcnd hsz0 hL _
  have hT : TabOk W := tab_of_laid hL
  have hsz : (DataW.weightsEach Tryz.prog (Tryz.f4.params.toList ++ Rows.eventTellsSpec.plain.varTypes Tryz.prog) (ds ++ gs)).all (· ≤ reachBytes) = true := hsz0
  clear hsz0
  have hval : ∀ (j : Nat) t v, Tryz.f4.params[j]? = some t → args[j]? = some v → Value.okWide Tryz.prog W .any base t v := hval0
  have hW' := hW
  obtain ⟨p, q, hA0, hV, rfl, hfz, hnd⟩ := hW
  have hA : DataW.TrodAll enc Tryz.prog W 0 (fun _ => true) true Tryz.f4.params.toList args.toList ds p := hA0
  rw [Tryz.params4] at hA hval hsz
  obtain ⟨v0, vs0, d0, ds0, p0, q0, hargs, rfl, rfl, h0, r0⟩ := trodAll_cons hA
  obtain ⟨v1, vs1, d1, ds1, p1, q1, rfl, rfl, rfl, h1, r1⟩ := trodAll_cons r0
  obtain ⟨v2, vs2, d2, ds2, p2, q2, rfl, rfl, rfl, h2, r2⟩ := trodAll_cons r1
  obtain ⟨v3, vs3, d3, ds3, p3, q3, rfl, rfl, rfl, h3, r3⟩ := trodAll_cons r2
  obtain ⟨v4, vs4, d4, ds4, p4, q4, rfl, rfl, rfl, h4, r4⟩ := trodAll_cons r3
  obtain ⟨v5, vs5, d5, ds5, p5, q5, rfl, rfl, rfl, h5, r5⟩ := trodAll_cons r4
  obtain ⟨v6, vs6, d6, ds6, p6, q6, rfl, rfl, rfl, h6, r6⟩ := trodAll_cons r5
  obtain ⟨rfl, rfl, rfl⟩ := trodAll_nil r6
  obtain rfl : args = #[v0, v1, v2, v3, v4, v5, v6] := by cases args; simp_all
  obtain ⟨rfl, rfl⟩ := trodVars_none hV
  have k0 := h0
  have lt0 : ∀ x ∈ p0, x.block < W.heap.size := by obtain ⟨m, hm⟩ := k0; exact DataW.trod_lt m _ _ _ hm
  obtain ⟨m0, vN0, vW0, rfl, hm0, hp0⟩ := open_cmd (hval 0 27 v0 rfl rfl) h0 hsz (j := 0) rfl rfl
  have k1 := h1
  have lt1 : ∀ x ∈ p1, x.block < W.heap.size := by obtain ⟨m, hm⟩ := k1; exact DataW.trod_lt m _ _ _ hm
  obtain ⟨m1, vN1, vW1, rfl, hm1, hp1⟩ := open_cmd (hval 1 27 v1 rfl rfl) h1 hsz (j := 1) rfl rfl
  obtain ⟨a2, rfl, rfl, rfl, w2⟩ := open_int Tryz.underlying3 (hval 2 3 v2 rfl rfl) h2
  have b2 := bounds_i64 w2
  obtain ⟨a3, rfl, rfl, rfl, w3⟩ := open_int Tryz.underlying3 (hval 3 3 v3 rfl rfl) h3
  have b3 := bounds_i64 w3
  obtain ⟨a4, rfl, rfl, rfl, w4⟩ := open_string Tryz.underlying9 (hval 4 9 v4 rfl rfl) h4
  obtain ⟨a5, rfl, rfl, rfl, w5⟩ := open_int Tryz.underlying3 (hval 5 3 v5 rfl rfl) h5
  have b5 := bounds_i64 w5
  obtain ⟨a6, rfl, rfl, rfl⟩ := open_bool Tryz.underlying4 (hval 6 4 v6 rfl rfl) h6
  clear hA0 hval0
  refine (eventTells_calls W m0 m1 vN0 vW0 vN1 vW1 hm0 hm1 hp0 hp1 a2 a3 a4 a5 a6 (in64 b2) (in64 b3) (by have hM : maxLen = 9223372036854775807 := (by decide); omega) (in64 b5) hT).mono fun e W' ⟨he, bel⟩ => ?_
  subst he
  exact ⟨_, rfl, _, _, _, [], _, [], hW', trodAll_mk1 (shut_bool Tryz.underlying4 _), (trodAll_cons_mk (Below.trod laidOut (by kernel_rfl) (of_decide_eq_true (by kernel_rfl)) k0 bel lt0) (trodAll_cons_mk (Below.trod laidOut (by kernel_rfl) (of_decide_eq_true (by kernel_rfl)) k1 bel lt1) (trodAll_cons_mk (shut_int Tryz.underlying3 w2) (trodAll_cons_mk (shut_int Tryz.underlying3 w3) (trodAll_cons_mk (shut_string Tryz.underlying9 w4) (trodAll_cons_mk (shut_int Tryz.underlying3 w5) (trodAll_cons_mk (shut_bool Tryz.underlying4 a6) trodAll_mk0))))))), rfl, bel.frame _, fun h => by cases h⟩

theorem over : Rows.EventTellsSaid :=
  OpenClaim.holds_of_wide 4 Tryz.f4 rfl rfl rfl rfl rfl rfl rfl ⟨rfl, rfl, rfl, rfl, rfl⟩ rfl rfl rfl rfl rfl (by kernel_rfl) Tryz.func4 (by kernel_rfl)
    (of_decide_eq_true (by kernel_rfl)) (by unfold Func.isWrapper; first | (rw [if_pos (by decide +kernel)]; kernel_rfl) | (rw [if_neg (by decide +kernel)]; exact ⟨rfl, rfl⟩))
    (fun os started H enc _ => lifted os started H enc)

theorem proved : Rows.EventTellsCardSaid :=
  Claim7.holds_tied_plain_at .later [] [.data, .data, .data] true (true, "99afe37a01dd590567eb01e0671e0a1132209c23579c5d6207192a5a654bfb4a") true
    over (fun _ h => by cases h) (by kernel_rfl) (fun _ h => by cases h) eventTells_row_tie rfl ⟨rfl, rfl⟩ (by kernel_rfl) rfl
    (fun f fn hf hfn => by
      obtain rfl : f = 4 := Option.some.inj ((show Tryz.prog.funcNamed "handfast/handfastlaw11.EventTells" = some 4 by kernel_rfl).symm.trans hf) |>.symm
      obtain rfl : fn = Tryz.f4 := (Option.some.inj (Tryz.func4.symm.trans hfn)).symm
      exact ⟨by kernel_rfl, fun j t ht => by
        rw [Tryz.params4] at ht
        have hm : t ∈ [27, 27, 3, 3, 9, 3, 4] := by simpa using Array.mem_of_getElem? ht
        have hall : ([27, 27, 3, 3, 9, 3, 4].all fun u => !Tryz.prog.wantsStandIn u) = true := by kernel_rfl
        exact (show Tryz.prog.wantsStandIn t = false by simpa using List.all_eq_true.1 hall t hm)⟩)
    (by kernel_rfl)
#print axioms proved
end Go.Proofs.YtapbkomicihkkaaGreatDoor.eventTells
