/- ChainAgain, the plain law: entries added one after the other. -/
import Derived.Test.YtapbkomicihkkaaGreatDoorPlan1
import Derived.Test.YtapbkomicihkkaaGreatDoorDoAG
import Derived.Test.YtapbkomicihkkaaGreatDoorEventG
import Derived.Test.YtapbkomicihkkaaGreatDoorChnB
import Derived.Test.YtapbkomicihkkaaGreatDoorLawCLongG
import Derived.Test.YtapbkomicihkkaaGreatDoorCardG
namespace Go.Proofs.YtapbkomicihkkaaGreatDoor
open Go.RowKit
set_option linter.unusedVariables false
set_option linter.unusedSimpArgs false

theorem Ob.fine_meas : ∀ (o : Ob), o.fine → o.meas = o.parts
  | .const _, _ => rfl
  | .fix _, _ => rfl
  | .add l r, h => by have := l.fine_meas h.1; have := r.fine_meas h.2; simp only [Ob.meas, Ob.parts]; omega
  | .mul l r, h => by have := l.fine_meas h.1; have := r.fine_meas h.2; simp only [Ob.meas, Ob.parts]; omega
  | .max l r, h => by have := l.fine_meas h.1; have := r.fine_meas h.2; simp only [Ob.meas, Ob.parts]; omega
  | .neg o, h => by have := o.fine_meas h; simp only [Ob.meas, Ob.parts]; omega
  | .odd _, h => h.elim
theorem Tm.fine_meas : ∀ (o : Tm), o.fine → o.meas = o.parts
  | .zero, _ => rfl
  | .one _, _ => rfl
  | .give t, h => by have := t.fine_meas h; simp only [Tm.meas, Tm.parts]; omega
  | .and l r, h => by have := l.fine_meas h.1; have := r.fine_meas h.2; simp only [Tm.meas, Tm.parts]; omega
  | .or _ l r, h => by have := l.fine_meas h.2.1; have := r.fine_meas h.2.2; simp only [Tm.meas, Tm.parts]; omega
  | .scale o t, h => by have := o.fine_meas h.1; have := t.fine_meas h.2; simp only [Tm.meas, Tm.parts]; omega
  | .when_ _ t, h => by have := t.fine_meas h.2; simp only [Tm.meas, Tm.parts]; omega
  | .if_ o l r, h => by have := o.fine_meas h.1; have := l.fine_meas h.2.1; have := r.fine_meas h.2.2; simp only [Tm.meas, Tm.parts]; omega
  | .odd _, h => h.elim
theorem Ob.same_self : ∀ (o : Ob), o.fine → o.same o = true
  | .const _, _ => by simp [Ob.same]
  | .fix _, _ => by simp [Ob.same]
  | .add l r, h => by simp [Ob.same, l.same_self h.1, r.same_self h.2]
  | .mul l r, h => by simp [Ob.same, l.same_self h.1, r.same_self h.2]
  | .max l r, h => by simp [Ob.same, l.same_self h.1, r.same_self h.2]
  | .neg o, h => by simp [Ob.same, o.same_self h]
  | .odd _, h => h.elim
theorem Tm.same_self : ∀ (o : Tm), o.fine → o.same o = true
  | .zero, _ => by simp [Tm.same]
  | .one _, _ => by simp [Tm.same]
  | .give t, h => by simp [Tm.same, t.same_self h]
  | .and l r, h => by simp [Tm.same, l.same_self h.1, r.same_self h.2]
  | .or _ l r, h => by simp [Tm.same, l.same_self h.2.1, r.same_self h.2.2]
  | .scale o t, h => by simp [Tm.same, o.same_self h.1, t.same_self h.2]
  | .when_ _ t, h => by simp [Tm.same, t.same_self h.2]
  | .if_ o l r, h => by simp [Tm.same, o.same_self h.1, l.same_self h.2.1, r.same_self h.2.2]
  | .odd _, h => h.elim
theorem Ob.same_meas : ∀ (o p : Ob), o.same p = true → o.meas = p.meas := by
  intro o
  induction o with
  | const _ => intro p h; cases p <;> simp_all [Ob.same, Ob.meas]
  | fix _ => intro p h; cases p <;> simp_all [Ob.same, Ob.meas]
  | odd _ => intro p h; cases p <;> simp_all [Ob.same, Ob.meas]
  | neg o ih => intro p h; cases p <;> simp [Ob.same] at h; simp only [Ob.meas]; rw [ih _ h]
  | add l r h1 h2 => intro p h; cases p <;> simp [Ob.same] at h; simp only [Ob.meas]; rw [h1 _ h.1, h2 _ h.2]
  | mul l r h1 h2 => intro p h; cases p <;> simp [Ob.same] at h; simp only [Ob.meas]; rw [h1 _ h.1, h2 _ h.2]
  | max l r h1 h2 => intro p h; cases p <;> simp [Ob.same] at h; simp only [Ob.meas]; rw [h1 _ h.1, h2 _ h.2]
theorem Tm.same_meas : ∀ (o p : Tm), o.same p = true → o.meas = p.meas := by
  intro o
  induction o with
  | zero => intro p h; cases p <;> simp_all [Tm.same, Tm.meas]
  | one _ => intro p h; cases p <;> simp_all [Tm.same, Tm.meas]
  | odd _ => intro p h; cases p <;> simp_all [Tm.same, Tm.meas]
  | give o ih => intro p h; cases p <;> simp [Tm.same] at h; simp only [Tm.meas]; rw [ih _ h]
  | and l r h1 h2 => intro p h; cases p <;> simp [Tm.same] at h; simp only [Tm.meas]; rw [h1 _ h.1, h2 _ h.2]
  | or s l r h1 h2 => intro p h; cases p <;> simp [Tm.same] at h; simp only [Tm.meas]; rw [h1 _ h.2.1, h2 _ h.2.2]
  | scale o t h2 => intro p h; cases p <;> simp [Tm.same] at h; simp only [Tm.meas]; rw [Ob.same_meas _ _ h.1, h2 _ h.2]
  | when_ n t h2 => intro p h; cases p <;> simp [Tm.same] at h; simp only [Tm.meas]; rw [h2 _ h.2]
  | if_ o l r h1 h2 => intro p h; cases p <;> simp [Tm.same] at h; simp only [Tm.meas]; rw [Ob.same_meas _ _ h.1, h1 _ h.2.1, h2 _ h.2.2]
theorem Tm.same_give (t : Tm) : t.same (.give t) = false := by
  cases h : t.same (.give t) with
  | false => rfl
  | true => have := t.same_meas _ h; simp only [Tm.meas] at this; omega
end Go.Proofs.YtapbkomicihkkaaGreatDoor
namespace Go.Proofs.YtapbkomicihkkaaGreatDoor
open Go.RowKit
set_option linter.unusedVariables false
set_option linter.unusedSimpArgs false

theorem Ev.same_of_rest {a b : Ev} (h : a.rest b = false) : a.same b = false := by unfold Ev.same; rw [h]; simp
theorem ba_longer (s t : ByteArray) (h : 0 < t.size) : (s.toList == (s ++ t).toList) = false ∧ ((s ++ t).toList == s.toList) = false := by
  have hne : s.toList ≠ (s ++ t).toList := by
    intro e
    have e2 := congrArg List.length e
    rw [ByteArray.toList_eq, ByteArray.toList_eq, ba_append, List.length_append, ba_len, ba_len] at e2
    omega
  exact ⟨by simpa using hne, by simpa using fun e => hne e.symm⟩
theorem xor_one (n : Int) (h : IsInt64 n) : bits .xor .i64 n 1 ≠ n ∧ IsInt64 (bits .xor .i64 n 1) := by
  have hb : bits .xor .i64 n 1 = IntKind.i64.wrap ((BitVec.ofInt 64 n ^^^ BitVec.ofInt 64 1).toNat : Int) := rfl
  have hw : ∀ r : BitVec 64, IntKind.i64.wrap (r.toNat : Int) = r.toInt := by
    intro r
    have h1 := r.isLt
    rw [BitVec.toInt_eq_toNat_cond]
    rw [IntKind.wrap_i64]
    split <;> omega
  rw [hb, hw]
  unfold IsInt64 at *
  refine ⟨fun e => ?_, ?_⟩
  · have hn : (BitVec.ofInt 64 n).toInt = n := by
      rw [BitVec.toInt_ofInt]
      exact Int.bmod_eq_of_le (by omega) (by omega)
    have h2 : BitVec.ofInt 64 n ^^^ BitVec.ofInt 64 1 = BitVec.ofInt 64 n := BitVec.eq_of_toInt_eq (by rw [e, hn])
    have h3 := congrArg (fun z => BitVec.ofInt 64 n ^^^ z) h2
    simp [← BitVec.xor_assoc] at h3
  · generalize BitVec.ofInt 64 n ^^^ BitVec.ofInt 64 1 = r
    have h1 := BitVec.toInt_lt (x := r)
    have h2 := BitVec.le_toInt (x := r)
    simp at h1 h2
    omega
/-- One thing of an event turned. -/
def turnX (x : Ev) : Nat → Ev
  | 0 => { x with kind := x.kind + 1 }
  | 1 => { x with id := x.id ++ ⟨#[120]⟩ }
  | 2 => { x with name := x.name ++ ⟨#[120]⟩ }
  | 3 => { x with label := x.label ++ ⟨#[120]⟩ }
  | 4 => { x with cur := x.cur ++ ⟨#[120]⟩ }
  | 5 => { x with day := bits .xor .i64 x.day 1 }
  | 6 => { x with value := bits .xor .i64 x.value 1 }
  | _ => { x with term := if x.term.isNil then .zero else .odd .nilIface }
theorem turnX_ok (x : Ev) (h : x.fit) (k : Nat) : (turnX x k).ok := by
  have hk : IsInt64 x.kind := by have := h.kind; unfold IsInt64; omega
  have hk1 : IsInt64 (x.kind + 1) := by have := h.kind; unfold IsInt64; omega
  unfold turnX
  split
  · exact ⟨hk1, h.day, h.value, h.term.ok⟩
  · exact ⟨hk, h.day, h.value, h.term.ok⟩
  · exact ⟨hk, h.day, h.value, h.term.ok⟩
  · exact ⟨hk, h.day, h.value, h.term.ok⟩
  · exact ⟨hk, h.day, h.value, h.term.ok⟩
  · exact ⟨hk, (xor_one _ h.day).2, h.value, h.term.ok⟩
  · exact ⟨hk, h.day, (xor_one _ h.value).2, h.term.ok⟩
  · refine ⟨hk, h.day, h.value, ?_⟩
    show Tm.ok (if _ then _ else _)
    split
    · trivial
    · exact .inl rfl
theorem fit_ok {x : Ev} (h : x.fit) : x.ok := ⟨by have := h.kind; unfold IsInt64; omega, h.day, h.value, h.term.ok⟩
theorem beq_succ (n : Int) : (n == n + 1) = false ∧ (n + 1 == n) = false := by constructor <;> simp <;> omega
theorem turnX_same (x : Ev) (h : x.fit) (k : Nat) : x.same (turnX x k) = false ∧ (turnX x k).same x = false := by
  unfold turnX
  split
  · obtain ⟨h1, h2⟩ := beq_succ x.kind; exact ⟨Ev.same_of_rest (by simp only [Ev.rest, h1]; simp), Ev.same_of_rest (by simp only [Ev.rest, h2]; simp)⟩
  · obtain ⟨h1, h2⟩ := ba_longer x.id ⟨#[120]⟩ (by decide); exact ⟨Ev.same_of_rest (by simp only [Ev.rest, h1, h2]; simp), Ev.same_of_rest (by simp only [Ev.rest, h1, h2]; simp)⟩
  · obtain ⟨h1, h2⟩ := ba_longer x.name ⟨#[120]⟩ (by decide); exact ⟨Ev.same_of_rest (by simp only [Ev.rest, h1, h2]; simp), Ev.same_of_rest (by simp only [Ev.rest, h1, h2]; simp)⟩
  · obtain ⟨h1, h2⟩ := ba_longer x.label ⟨#[120]⟩ (by decide); exact ⟨Ev.same_of_rest (by simp only [Ev.rest, h1, h2]; simp), Ev.same_of_rest (by simp only [Ev.rest, h1, h2]; simp)⟩
  · obtain ⟨h1, h2⟩ := ba_longer x.cur ⟨#[120]⟩ (by decide); exact ⟨Ev.same_of_rest (by simp only [Ev.rest, h1, h2]; simp), Ev.same_of_rest (by simp only [Ev.rest, h1, h2]; simp)⟩
  · have h1 := (xor_one _ h.day).1
    have e1 : (bits .xor .i64 x.day 1 == x.day) = false := by simpa using h1
    have e2 : (x.day == bits .xor .i64 x.day 1) = false := by simpa using fun e => h1 e.symm
    exact ⟨Ev.same_of_rest (by simp only [Ev.rest, e1, e2]; simp), Ev.same_of_rest (by simp only [Ev.rest, e1, e2]; simp)⟩
  · have h1 := (xor_one _ h.value).1
    have e1 : (bits .xor .i64 x.value 1 == x.value) = false := by simpa using h1
    have e2 : (x.value == bits .xor .i64 x.value 1) = false := by simpa using fun e => h1 e.symm
    exact ⟨Ev.same_of_rest (by simp only [Ev.rest, e1, e2]; simp), Ev.same_of_rest (by simp only [Ev.rest, e1, e2]; simp)⟩
  · have hf := h.term
    rcases hf with e | hf
    · have en : x.term.isNil = true := by rw [e]; rfl
      have h1 : x.terms { x with term := .zero } = false := by unfold Ev.terms; rw [e]; rfl
      have h2 : Ev.terms { x with term := .zero } x = false := by unfold Ev.terms; rw [e]; rfl
      rw [en]
      exact ⟨by simp only [if_true, Ev.same, h1]; rfl, by simp only [if_true, Ev.same, h2]; rfl⟩
    · have en : x.term.isNil = false := by
        cases hx : x.term with
        | odd v => rw [hx] at hf; exact hf.1.elim
        | _ => rfl
      have hs1 : x.term.same (.odd .nilIface) = false := by cases hx : x.term <;> simp [Tm.same]
      have hs2 : (Tm.odd .nilIface).same x.term = false := by cases hx : x.term <;> simp [Tm.same]
      rw [en]
      refine ⟨?_, ?_⟩
      · show (((x.term.isNil && _) || x.term.same (.odd .nilIface)) && _) = false
        rw [en, hs1]; rfl
      · show (((_ && x.term.isNil) || (Tm.odd .nilIface).same x.term) && _) = false
        rw [en, hs2]; rfl
theorem fit_same {x : Ev} (h : x.fit) : x.same x = true := by
  have ht : x.terms x = true := by
    unfold Ev.terms
    rcases h.term with e | hf
    · rw [e]; rfl
    · rw [x.term.same_self hf.1]; simp
  unfold Ev.same
  rw [ht]
  simp [Ev.rest]
end Go.Proofs.YtapbkomicihkkaaGreatDoor
namespace Go.Proofs.YtapbkomicihkkaaGreatDoor
open Go.RowKit
set_option linter.unusedVariables false
set_option linter.unusedSimpArgs false

/-- A chain with entries added. -/
def chF (c : Ch) (l : List En) : Ch := l.foldl (fun c x => (c.add x).1) c
theorem chF_snoc (c : Ch) (l : List En) (x : En) : chF c (l ++ [x]) = ((chF c l).add x).1 := by unfold chF; rw [List.foldl_append]; rfl
theorem chF_ok : ∀ (l : List En) (c : Ch), c.ok → (∀ x ∈ l, x.ev.small) → (chF c l).ok
  | [], c, h, _ => h
  | x :: l, c, h, hx => chF_ok l _ (Ch.add_ok h x (hx x (by simp))) (fun y hy => hx y (by simp [hy]))
theorem chF_take (c : Ch) (l : List En) (j : Nat) (h : j < l.length) : chF c (l.take (j + 1)) = ((chF c (l.take j)).add l[j]).1 := by
  rw [List.take_succ_eq_append_getElem h, chF_snoc]
theorem chF_key : ∀ (l : List En) (c : Ch), (chF c l).key = c.key
  | [], _ => rfl
  | x :: l, c => by
    show (chF (c.add x).1 l).key = c.key
    rw [chF_key l]
    unfold Ch.add
    split
    · rfl
    split <;> rfl
theorem ChAt.mono {w0 w1 W : World} {g : Nat} {c : Ch} (h : ChAt w1 W g c) (hw : w0.heap.size ≤ w1.heap.size) : ChAt w0 W g c := by
  obtain ⟨vl, vh, h1, h2, h3, h4⟩ := h
  exact ⟨vl, vh, h1, h2.mono hw, h3.mono hw, Nat.le_trans hw h4⟩
theorem ChAt.lt {w0 W : World} {g : Nat} {c : Ch} (h : ChAt w0 W g c) : g < W.heap.size := by
  obtain ⟨vl, vh, h1, -⟩ := h
  exact h1.lt
/-- One chain's change leaves the other. -/
theorem ChAt.other {w0 w1 W W1 : World} {g r : Nat} {c d : Ch} (h : ChAt w0 W g c) (hd : ChAt w1 W r d) (hg : W.grownBy W1 (some r)) (hne : r ≠ g) : ChAt w0 W1 g c := by
  obtain ⟨cs, hk⟩ := hd.blk
  exact h.grown hg hne hk
theorem Own.chain {w0 w1 W W1 : World} {size n r : Nat} {v : Value} {xs : List Value} {d : Ch} (h : Own w0 W 59 size v n xs) (hd : ChAt w1 W r d) (hg : W.grownBy W1 (some r)) : Own w0 W1 59 size v n xs := by
  obtain ⟨cs, hk⟩ := hd.blk
  exact h.kept hg (.inr (h.ne_blk hk (by decide)))
theorem fit_small {e : Ev} (h : e.fit) : e.small := by
  refine ⟨fit_ok h, ?_, by have := h.id; omega, by have := h.name; omega, by have := h.label; omega, by have := h.cur; omega⟩
  rcases h.term with e | ⟨hf, hp⟩
  · rw [e]; decide
  · rw [Tm.fine_meas _ hf]; omega
@[go_sem ↓] theorem bd_Entry (parts : Array (Nat × Value)) : Instr.build 59 parts = bdN 59 parts := rfl
theorem run_bd_En1 (k d v : Int) (x1 x2 x3 x4 : ByteArray) (x7 : Value) (h7 : IsI x7) (W : World) : (bdN 59 #[(0, .agg #[.int .i64 k, .string x1, .string x2, .string x3, .string x4, .int .i64 d, .int .i64 v, x7])]).run Tryz.prog W = .ok (.agg #[.int .i64 k, .string x1, .string x2, .string x3, .string x4, .int .i64 d, .int .i64 v, x7, .bool false]) W := by
  rcases h7 with rfl | ⟨_, _, rfl⟩ <;> kernel_rfl
theorem run_loadVar_rd {P : Program} (w : World) (a : Addr) (ty : TypeId) (cs : List Value) (d : TypeDesc) (hc : Rd w (some a) cs)
    (hu : P.underlying ty = some d) (hd : d.isRow = true) (hi : (P.info? ty).map (·.size) = some cs.length) :
    (loadVar ty a).run P w = .ok (.agg cs.toArray) w := by
  have hl : (loadCells a cs.length).run P w = .ok cs.toArray w :=
    run_loadCells_list (P := P) w a cs (fun j v hv => by obtain ⟨ad, e, h⟩ := hc j v hv; cases e; exact h)
  cases hq : P.info? ty with
  | none => simp [hq] at hi
  | some i =>
    have hs : i.size = cs.length := by simpa [hq] using hi
    have hagg : (isAgg ty).run P w = .ok true w := by
      unfold isAgg
      rw [Sem.run_bind, run_underlying hu w]
      cases d <;> simp_all
    simp [loadVar, Sem.run_bind, hagg, sizeOf, typeInfo, hq, hs, hl]
/-- A struct's load from a row that is read. -/
theorem wpList_load_rd {P : Program} {ops : Array Oper} {rest : List Oper} {o : Oper} {a : Act} {w : World} {Q : Exit → Act → World → Prop} (hgd : o.guard = none) (ty : TypeId) (x : Operand) (ho : o.op = .load ty x)
    (ad : Addr) (hx : a.eval x = .pointer (some ad)) (cs : List Value) (d : TypeDesc) (hc : Rd w (some ad) cs)
    (hu : P.underlying ty = some d) (hd : d.isRow = true) (hi : (P.info? ty).map (·.size) = some cs.length)
    (h : wpList P ops Q rest (a.put o.dst (.agg cs.toArray)) w) : wpList P ops Q (o :: rest) a w := by
  refine wpList_plain hgd fun _ hK => ?_
  unfold Oper.wp execOp
  simp only [ho, hx, Instr.loadAt, Instr.sureAddr, Sem.run_bind, Sem.run_pure, Result.andThen_ok, run_loadVar_rd w ad ty cs d hc hu hd hi]
  exact hK _ _ h
theorem Rd.row {w : World} {ad : Addr} {l : List Cv} {m : Nat} {x : Cv} (h : Rd w (some ad) (rowsC l)) (hm : l[m]? = some x) : Rd w (some (ad.add (m * 8))) x.row := fun j v hv => by
  have hj : j < 8 := (List.getElem?_eq_some_iff.1 hv).1
  obtain ⟨ad', e, hc⟩ := h (m * 8 + j) v ((rowsC_get l m j x hm hj).trans hv)
  cases e
  exact ⟨_, rfl, by rw [addr_add_add]; exact hc⟩
theorem info_cmd : (Tryz.prog.info? 27).map (·.size) = some 8 := by kernel_rfl
/-- The law's two chains and its row of entries. -/
structure Two (w W4 W : World) (v : Value) (j : Nat) (xs : List En) (ga g2 : Nat) (c d : Ch) : Prop where
  own : Own W4 W 59 9 v j (rowsE xs)
  a : ChAt w W ga c
  b : ChAt w W g2 d
  ne : g2 ≠ ga
  la : w.heap.size ≤ ga
  lb : w.heap.size ≤ g2
  bl : Below w.heap.size w W
theorem Two.below {w W4 W W1 : World} {v : Value} {j : Nat} {xs : List En} {ga g2 : Nat} {c d : Ch} (h : Two w W4 W v j xs ga g2 c d) (hb : Below W.heap.size W W1) : Two w W4 W1 v j xs ga g2 c d :=
  ⟨h.own.below hb, h.a.below hb, h.b.below hb, h.ne, h.la, h.lb, bl_step hb h.bl⟩
theorem Two.addA {w W4 W W1 : World} {v : Value} {j : Nat} {xs : List En} {ga g2 : Nat} {c d c' : Ch} (h : Two w W4 W v j xs ga g2 c d) (hc : ChAt w W1 ga c') (hg : W.grownBy W1 (some ga)) : Two w W4 W1 v j xs ga g2 c' d :=
  ⟨h.own.chain h.a hg, hc, h.b.other h.a hg (fun e => h.ne e.symm), h.ne, h.la, h.lb, bl_gb h.bl h.la hg⟩
theorem Two.addB {w W4 W W1 : World} {v : Value} {j : Nat} {xs : List En} {ga g2 : Nat} {c d d' : Ch} (h : Two w W4 W v j xs ga g2 c d) (hd : ChAt w W1 g2 d') (hg : W.grownBy W1 (some g2)) : Two w W4 W1 v j xs ga g2 c d' :=
  ⟨h.own.chain h.b hg, h.a.other h.b hg h.ne, hd, h.ne, h.la, h.lb, bl_gb h.bl h.lb hg⟩
theorem Two.clone {w W4 W W1 : World} {v : Value} {j : Nat} {xs : List En} {ga g2 g3 : Nat} {c d : Ch} (h : Two w W4 W v j xs ga g2 c d) (hd : ChAt W W1 g3 c) (hl : W.heap.size ≤ g3) (hb : Below W.heap.size W W1) : Two w W4 W1 v j xs ga g3 c c :=
  ⟨h.own.below hb, h.a.below hb, hd.mono h.bl.size, by have := h.a.lt; omega, h.la, Nat.le_trans h.bl.size hl, bl_step hb h.bl⟩
theorem chF_take' (c : Ch) (l : List En) (j : Nat) (x : En) (h : l[j]? = some x) : chF c (l.take (j + 1)) = ((chF c (l.take j)).add x).1 := by
  obtain ⟨hj, rfl⟩ := List.getElem?_eq_some_iff.1 h
  exact chF_take c l j hj
theorem rowsE_row {w : World} {ad : Addr} {l : List En} {m : Nat} {x : En} (h : Rd w (some ad) (rowsE l)) (hm : l[m]? = some x) : Rd w (some (ad.add (m * 9))) x.row := fun j v hv => by
  have hj : j < 9 := (List.getElem?_eq_some_iff.1 hv).1
  obtain ⟨ad', e, hc⟩ := h (m * 9 + j) v ((rowsE_get l m j x hm hj).trans hv)
  cases e
  exact ⟨_, rfl, by rw [addr_add_add]; exact hc⟩
theorem size_en : (Tryz.prog.info? 59).map (·.size) = some 9 := by kernel_rfl
end Go.Proofs.YtapbkomicihkkaaGreatDoor
