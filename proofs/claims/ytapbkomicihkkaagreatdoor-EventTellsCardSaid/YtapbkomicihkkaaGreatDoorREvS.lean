/- The document's events: are two alike? -/
import Derived.Test.YtapbkomicihkkaaGreatDoorRDocG
import Derived.Test.YtapbkomicihkkaaGreatDoorDo1
namespace Go.Proofs.YtapbkomicihkkaaGreatDoor
open Go.RowKit
set_option linter.unusedVariables false
set_option linter.unusedSimpArgs false

def Ev.rsame (a b : Ev) : Bool := a.rest b && ((a.term.tr.kind == 0 && b.term.tr.kind == 0) || a.term.tr.same b.term.tr)
set_option maxRecDepth 100000 in
set_option maxHeartbeats 8000000 in
theorem revsame_calls (a b : Ev) (hta : a.term.tr.size ≤ 1000000) (htb : b.term.tr.size ≤ 1000000) (x : Nat) (w : World) (va vb : Value) (hva : EvAt x w a va) (hvb : EvAt x w b vb) :
    Calls Tryz.prog 18 #[va, vb] w fun en w' => en = .returned (.bool (a.rsame b)) ∧ Below w.heap.size w w' := by
  obtain ⟨p0, p1, p2, p3, rfl, hTa⟩ := hva
  obtain ⟨q0, q1, q2, q3, rfl, hTb⟩ := hvb
  have hsm := fun W (h1 : TrAt x W a.term.tr (.agg #[p0, p1, p2, p3])) (h2 : TrAt x W b.term.tr (.agg #[q0, q1, q2, q3])) => rsame_calls a.term.tr.size hta a.term.tr b.term.tr (Nat.le_refl _) x W _ _ h1 h2 htb
  obtain ⟨A1, cc1, cs1, hag, -, -⟩ := hTa.open_
  have hcc : p0 = .int .i64 a.term.tr.kind ∧ p1 = .string a.term.tr.s ∧ p2 = .int .i64 a.term.tr.n ∧ p3 = .slice A1 a.term.tr.ks.length cc1 := by injection hag with hag; simp at hag; exact hag
  obtain ⟨rfl, rfl, rfl, rfl⟩ := hcc
  clear hag
  obtain ⟨A2, cc2, cs2, hag, -, -⟩ := hTb.open_
  have hcc : q0 = .int .i64 b.term.tr.kind ∧ q1 = .string b.term.tr.s ∧ q2 = .int .i64 b.term.tr.n ∧ q3 = .slice A2 b.term.tr.ks.length cc2 := by injection hag with hag; simp at hag; exact hag
  obtain ⟨rfl, rfl, rfl, rfl⟩ := hcc
  clear hag hta htb
  have HDEF : Hid (a.rsame b = ((a.kind == b.kind && (a.id.toList == b.id.toList && (a.name.toList == b.name.toList && (a.label.toList == b.label.toList && (a.cur.toList == b.cur.toList && (a.day == b.day && a.value == b.value)))))) && ((a.term.tr.kind == 0 && b.term.tr.kind == 0) || a.term.tr.same b.term.tr))) := rfl
  generalize a.rsame b = res at *
  generalize a.term.tr.same b.term.tr = sm at *
  generalize a.kind = k1 at *
  generalize a.id = i1 at *
  generalize a.name = n1 at *
  generalize a.label = l1 at *
  generalize a.cur = c1 at *
  generalize a.day = d1 at *
  generalize a.value = v1 at *
  generalize a.term.tr.kind = tk1 at *
  generalize a.term.tr.s = ts1 at *
  generalize a.term.tr.n = tn1 at *
  generalize a.term.tr.ks.length = tl1 at *
  generalize b.kind = k2 at *
  generalize b.id = i2 at *
  generalize b.name = n2 at *
  generalize b.label = l2 at *
  generalize b.cur = c2 at *
  generalize b.day = d2 at *
  generalize b.value = v2 at *
  generalize b.term.tr.kind = tk2 at *
  generalize b.term.tr.s = ts2 at *
  generalize b.term.tr.n = tn2 at *
  generalize b.term.tr.ks.length = tl2 at *
  obtain ⟨W1, hW1⟩ : ∃ W1, (w.alloc (.cells #[.int .i64 k1, .string i1, .string n1, .string l1, .string c1, .int .i64 d1, .int .i64 v1, .int .i64 tk1, .string ts1, .int .i64 tn1, .slice A1 tl1 cc1] 35)).alloc (.cells #[.int .i64 k2, .string i2, .string n2, .string l2, .string c2, .int .i64 d2, .int .i64 v2, .int .i64 tk2, .string ts2, .int .i64 tn2, .slice A2 tl2 cc2] 35) = W1 := ⟨_, rfl⟩
  have hkb := (Blk.new w #[.int .i64 k1, .string i1, .string n1, .string l1, .string c1, .int .i64 d1, .int .i64 v1, .int .i64 tk1, .string ts1, .int .i64 tn1, .slice A1 tl1 cc1] 35).below (bl_alloc (bl_refl _) (.cells #[.int .i64 k2, .string i2, .string n2, .string l2, .string c2, .int .i64 d2, .int .i64 v2, .int .i64 tk2, .string ts2, .int .i64 tn2, .slice A2 tl2 cc2] 35))
  have hkc := Blk_new (w.alloc (.cells #[.int .i64 k1, .string i1, .string n1, .string l1, .string c1, .int .i64 d1, .int .i64 v1, .int .i64 tk1, .string ts1, .int .i64 tn1, .slice A1 tl1 cc1] 35)) #[.int .i64 k2, .string i2, .string n2, .string l2, .string c2, .int .i64 d2, .int .i64 v2, .int .i64 tk2, .string ts2, .int .i64 tn2, .slice A2 tl2 cc2] 35 (w.heap.size + 1) (by simp)
  have hB1 := bl_alloc (bl_alloc (bl_refl w) (.cells #[.int .i64 k1, .string i1, .string n1, .string l1, .string c1, .int .i64 d1, .int .i64 v1, .int .i64 tk1, .string ts1, .int .i64 tn1, .slice A1 tl1 cc1] 35)) (.cells #[.int .i64 k2, .string i2, .string n2, .string l2, .string c2, .int .i64 d2, .int .i64 v2, .int .i64 tk2, .string ts2, .int .i64 tn2, .slice A2 tl2 cc2] 35)
  have hTa1 := hTa.below hB1
  have hTb1 := hTb.below hB1
  rw [hW1] at hkb hkc hB1 hTa1 hTb1
  have HW1 := Lib.hid hW1; have HB1 := Lib.hid hB1; have HTA := Lib.hid hTa1; have HTB := Lib.hid hTb1; have HSM := Lib.hid hsm
  clear hW1 hB1 hTa1 hTb1 hTa hTb hsm
  obtain ⟨f0, f1, f2, f3, f4, f5, f6, f7, f8, f9, f10⟩ := hkb.eleven
  obtain ⟨g0, g1, g2, g3, g4, g5, g6, g7, g8, g9, g10⟩ := hkc.eleven
  clear hkb hkc
  go_enter Tryz.func18, Tryz.ntmps18
  go_upto_region 1 with fail
  rw [HW1.out]
  clear HW1
  by_cases ek : k1 = k2
  rotate_left
  · have z1 : (k1 == k2) = false := by simpa using ek
    clear ek
    go_wp2_with fail
    all_goals first | (rename some undef = some (Value.bool _) => p; unfold undef at p; cases p; done) | (go_ret; exact ⟨by rw [HDEF.out]; simp [z1], HB1.out⟩)
  subst ek
  by_cases ei : i1 = i2
  rotate_left
  · have z0 : i1.toList ≠ i2.toList := fun e => ei (ba_eqL e)
    have z1 : (i1.toList == i2.toList) = false := by simpa using z0
    clear ei
    go_wp2_with fail
    all_goals first | (rename some undef = some (Value.bool _) => p; unfold undef at p; cases p; done) | (go_ret; exact ⟨by rw [HDEF.out]; simp [z1], HB1.out⟩)
  subst ei
  by_cases en : n1 = n2
  rotate_left
  · have z0 : n1.toList ≠ n2.toList := fun e => en (ba_eqL e)
    have z1 : (n1.toList == n2.toList) = false := by simpa using z0
    clear en
    go_wp2_with fail
    all_goals first | (rename some undef = some (Value.bool _) => p; unfold undef at p; cases p; done) | (go_ret; exact ⟨by rw [HDEF.out]; simp [z1], HB1.out⟩)
  subst en
  by_cases el : l1 = l2
  rotate_left
  · have z0 : l1.toList ≠ l2.toList := fun e => el (ba_eqL e)
    have z1 : (l1.toList == l2.toList) = false := by simpa using z0
    clear el
    go_wp2_with fail
    all_goals first | (rename some undef = some (Value.bool _) => p; unfold undef at p; cases p; done) | (go_ret; exact ⟨by rw [HDEF.out]; simp [z1], HB1.out⟩)
  subst el
  by_cases ec : c1 = c2
  rotate_left
  · have z0 : c1.toList ≠ c2.toList := fun e => ec (ba_eqL e)
    have z1 : (c1.toList == c2.toList) = false := by simpa using z0
    clear ec
    go_wp2_with fail
    all_goals first | (rename some undef = some (Value.bool _) => p; unfold undef at p; cases p; done) | (go_ret; exact ⟨by rw [HDEF.out]; simp [z1], HB1.out⟩)
  subst ec
  by_cases ed : d1 = d2
  rotate_left
  · have z1 : (d1 == d2) = false := by simpa using ed
    clear ed
    go_wp2_with fail
    all_goals first | (rename some undef = some (Value.bool _) => p; unfold undef at p; cases p; done) | (go_ret; exact ⟨by rw [HDEF.out]; simp [z1], HB1.out⟩)
  subst ed
  by_cases ev : v1 = v2
  rotate_left
  · have z1 : (v1 == v2) = false := by simpa using ev
    clear ev
    go_wp2_with fail
    all_goals first | (rename some undef = some (Value.bool _) => p; unfold undef at p; cases p; done) | (go_ret; exact ⟨by rw [HDEF.out]; simp [z1], HB1.out⟩)
  subst ev
  by_cases et : tk1 = 0
  · have z1 : (tk1 == 0) = true := by simpa using et
    have ET := Lib.hid et
    clear et
    by_cases eu : tk2 = 0
    · have z2 : (tk2 == 0) = true := by simpa using eu
      clear eu
      go_wp2_with fail
      go_ret
      exact ⟨by rw [HDEF.out]; simp [z1, z2], HB1.out⟩
    · have z2 : (tk2 == 0) = false := by simpa using eu
      clear eu
      go_wp2_with fail
      refine (HSM.out _ HTA.out HTB.out).mono ?_
      rintro en w3 ⟨rfl, hb⟩
      go_wp2_with fail
      go_ret
      exact ⟨by rw [HDEF.out]; simp [z1, z2], bl_step hb HB1.out⟩
  · have z1 : (tk1 == 0) = false := by simpa using et
    clear et
    go_wp2_with fail
    refine (HSM.out _ HTA.out HTB.out).mono ?_
    rintro en w3 ⟨rfl, hb⟩
    go_wp2_with fail
    go_ret
    exact ⟨by rw [HDEF.out]; simp [z1], bl_step hb HB1.out⟩
end Go.Proofs.YtapbkomicihkkaaGreatDoor
