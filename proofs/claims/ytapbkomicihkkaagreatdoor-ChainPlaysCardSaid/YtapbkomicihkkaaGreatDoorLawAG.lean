/- ChainAgain, the plain law: entries added one after the other. -/
import Derived.Test.YtapbkomicihkkaaGreatDoorPlan1
import Derived.Test.YtapbkomicihkkaaGreatDoorDoAG
import Derived.Test.YtapbkomicihkkaaGreatDoorEventG
import Derived.Test.YtapbkomicihkkaaGreatDoorChnB
import Derived.Test.YtapbkomicihkkaaGreatDoorLawCLongG
import Derived.Test.YtapbkomicihkkaaGreatDoorCardG
namespace Go.Proofs.YtapbkomicihkkaaGreatDoor
open Go.RowKit
set_option linter.unusedVariables false
set_option linter.unusedSimpArgs false

theorem Ob.fine_meas : ∀ (o : Ob), o.fine → o.meas = o.parts
 | .const _, _ => rfl
 | .fix _, _ => rfl
 | .add l r, h => by have := l.fine_meas h.1; have := r.fine_meas h.2; simp only [Ob.meas, Ob.parts]; omega
 | .mul l r, h => by have := l.fine_meas h.1; have := r.fine_meas h.2; simp only [Ob.meas, Ob.parts]; omega
 | .max l r, h => by have := l.fine_meas h.1; have := r.fine_meas h.2; simp only [Ob.meas, Ob.parts]; omega
 | .neg o, h => by have := o.fine_meas h; simp only [Ob.meas, Ob.parts]; omega
 | .odd _, h => h.elim
theorem Tm.fine_meas : ∀ (o : Tm), o.fine → o.meas = o.parts
 | .zero, _ => rfl
 | .one _, _ => rfl
 | .give t, h => by have := t.fine_meas h; simp only [Tm.meas, Tm.parts]; omega
 | .and l r, h => by have := l.fine_meas h.1; have := r.fine_meas h.2; simp only [Tm.meas, Tm.parts]; omega
 | .or _ l r, h => by have := l.fine_meas h.2.1; have := r.fine_meas h.2.2; simp only [Tm.meas, Tm.parts]; omega
 | .scale o t, h => by have := o.fine_meas h.1; have := t.fine_meas h.2; simp only [Tm.meas, Tm.parts]; omega
 | .when_ _ t, h => by have := t.fine_meas h.2; simp only [Tm.meas, Tm.parts]; omega
 | .if_ o l r, h => by have := o.fine_meas h.1; have := l.fine_meas h.2.1; have := r.fine_meas h.2.2; simp only [Tm.meas, Tm.parts]; omega
 | .odd _, h => h.elim
theorem Ob.same_self : ∀ (o : Ob), o.fine → o.same o = true
 | .const _, _ => by simp [Ob.same]
 | .fix _, _ => by simp [Ob.same]
 | .add l r, h => by simp [Ob.same, l.same_self h.1, r.same_self h.2]
 | .mul l r, h => by simp [Ob.same, l.same_self h.1, r.same_self h.2]
 | .max l r, h => by simp [Ob.same, l.same_self h.1, r.same_self h.2]
 | .neg o, h => by simp [Ob.same, o.same_self h]
 | .odd _, h => h.elim
theorem Tm.same_self : ∀ (o : Tm), o.fine → o.same o = true
 | .zero, _ => by simp [Tm.same]
 | .one _, _ => by simp [Tm.same]
 | .give t, h => by simp [Tm.same, t.same_self h]
 | .and l r, h => by simp [Tm.same, l.same_self h.1, r.same_self h.2]
 | .or _ l r, h => by simp [Tm.same, l.same_self h.2.1, r.same_self h.2.2]
 | .scale o t, h => by simp [Tm.same, o.same_self h.1, t.same_self h.2]
 | .when_ _ t, h => by simp [Tm.same, t.same_self h.2]
 | .if_ o l r, h => by simp [Tm.same, o.same_self h.1, l.same_self h.2.1, r.same_self h.2.2]
 | .odd _, h => h.elim
theorem ChAt.mono {w0 w1 W : World} {g : Nat} {c : Ch} (h : ChAt w1 W g c) (hw : w0.heap.size ≤ w1.heap.size) : ChAt w0 W g c := by
 obtain ⟨vl, vh, h1, h2, h3, h4⟩ := h
 exact ⟨vl, vh, h1, h2.mono hw, h3.mono hw, Nat.le_trans hw h4⟩
theorem ChAt.lt {w0 W : World} {g : Nat} {c : Ch} (h : ChAt w0 W g c) : g < W.heap.size := by
 obtain ⟨vl, vh, h1, -⟩ := h
 exact h1.lt
/-- One chain's change leaves the other. -/
theorem ChAt.other {w0 w1 W W1 : World} {g r : Nat} {c d : Ch} (h : ChAt w0 W g c) (hd : ChAt w1 W r d) (hg : W.grownBy W1 (some r)) (hne : r ≠ g) : ChAt w0 W1 g c := by
 obtain ⟨cs, hk⟩ := hd.blk
 exact h.grown hg hne hk
theorem Own.chain {w0 w1 W W1 : World} {size n r : Nat} {v : Value} {xs : List Value} {d : Ch} (h : Own w0 W 59 size v n xs) (hd : ChAt w1 W r d) (hg : W.grownBy W1 (some r)) : Own w0 W1 59 size v n xs := by
 obtain ⟨cs, hk⟩ := hd.blk
 exact h.kept hg (.inr (h.ne_blk hk (by decide)))
@[go_sem ↓] theorem bd_Entry (parts : Array (Nat × Value)) : Instr.build 59 parts = bdN 59 parts := rfl
theorem run_loadVar_rd {P : Program} (w : World) (a : Addr) (ty : TypeId) (cs : List Value) (d : TypeDesc) (hc : Rd w (some a) cs)
  (hu : P.underlying ty = some d) (hd : d.isRow = true) (hi : (P.info? ty).map (·.size) = some cs.length) :
  (loadVar ty a).run P w = .ok (.agg cs.toArray) w := by
 have hl : (loadCells a cs.length).run P w = .ok cs.toArray w :=
  run_loadCells_list (P := P) w a cs (fun j v hv => by obtain ⟨ad, e, h⟩ := hc j v hv; cases e; exact h)
 cases hq : P.info? ty with
 | none => simp [hq] at hi
 | some i =>
  have hs : i.size = cs.length := by simpa [hq] using hi
  have hagg : (isAgg ty).run P w = .ok true w := by
   unfold isAgg
   rw [Sem.run_bind, run_underlying hu w]
   cases d <;> simp_all
  simp [loadVar, Sem.run_bind, hagg, sizeOf, typeInfo, hq, hs, hl]
/-- A struct's load from a row that is read. -/
theorem wpList_load_rd {P : Program} {ops : Array Oper} {rest : List Oper} {o : Oper} {a : Act} {w : World} {Q : Exit → Act → World → Prop} (hgd : o.guard = none) (ty : TypeId) (x : Operand) (ho : o.op = .load ty x)
  (ad : Addr) (hx : a.eval x = .pointer (some ad)) (cs : List Value) (d : TypeDesc) (hc : Rd w (some ad) cs)
  (hu : P.underlying ty = some d) (hd : d.isRow = true) (hi : (P.info? ty).map (·.size) = some cs.length)
  (h : wpList P ops Q rest (a.put o.dst (.agg cs.toArray)) w) : wpList P ops Q (o :: rest) a w := by
 refine wpList_plain hgd fun _ hK => ?_
 unfold Oper.wp execOp
 simp only [ho, hx, Instr.loadAt, Instr.sureAddr, Sem.run_bind, Sem.run_pure, Result.andThen_ok, run_loadVar_rd w ad ty cs d hc hu hd hi]
 exact hK _ _ h
theorem Rd.row {w : World} {ad : Addr} {l : List Cv} {m : Nat} {x : Cv} (h : Rd w (some ad) (rowsC l)) (hm : l[m]? = some x) : Rd w (some (ad.add (m * 8))) x.row := fun j v hv => by
 have hj : j < 8 := (List.getElem?_eq_some_iff.1 hv).1
 obtain ⟨ad', e, hc⟩ := h (m * 8 + j) v ((rowsC_get l m j x hm hj).trans hv)
 cases e
 exact ⟨_, rfl, by rw [addr_add_add]; exact hc⟩
theorem info_cmd : (Tryz.prog.info? 27).map (·.size) = some 8 := by kernel_rfl
/-- The law's two chains and its row of entries. -/
structure Two (w W4 W : World) (v : Value) (j : Nat) (xs : List En) (ga g2 : Nat) (c d : Ch) : Prop where
 own : Own W4 W 59 9 v j (rowsE xs)
 a : ChAt w W ga c
 b : ChAt w W g2 d
 ne : g2 ≠ ga
 la : w.heap.size ≤ ga
 lb : w.heap.size ≤ g2
 bl : Below w.heap.size w W
theorem Two.below {w W4 W W1 : World} {v : Value} {j : Nat} {xs : List En} {ga g2 : Nat} {c d : Ch} (h : Two w W4 W v j xs ga g2 c d) (hb : Below W.heap.size W W1) : Two w W4 W1 v j xs ga g2 c d :=
 ⟨h.own.below hb, h.a.below hb, h.b.below hb, h.ne, h.la, h.lb, bl_step hb h.bl⟩
theorem Two.clone {w W4 W W1 : World} {v : Value} {j : Nat} {xs : List En} {ga g2 g3 : Nat} {c d : Ch} (h : Two w W4 W v j xs ga g2 c d) (hd : ChAt W W1 g3 c) (hl : W.heap.size ≤ g3) (hb : Below W.heap.size W W1) : Two w W4 W1 v j xs ga g3 c c :=
 ⟨h.own.below hb, h.a.below hb, hd.mono h.bl.size, by have := h.a.lt; omega, h.la, Nat.le_trans h.bl.size hl, bl_step hb h.bl⟩
end Go.Proofs.YtapbkomicihkkaaGreatDoor
