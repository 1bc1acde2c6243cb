/- Rows of cells; a struct's load from a slice that is read; slices of unlike things lie apart. -/
import Derived.Test.YtnekcijganhknaaGreatDoorOwn
import Derived.BigQuiet
namespace Go.Proofs.YtnekcijganhknaaGreatDoor
open Go.RowKit
set_option linter.unusedVariables false
set_option linter.unusedSimpArgs false

section
variable {α : Type} {f : α → List Value} {k : Nat}
theorem rows_length (hf : ∀ x, (f x).length = k) : ∀ l : List α, (l.flatMap f).length = l.length * k
  | [] => by simp
  | x :: l => by rw [List.flatMap_cons, List.length_append, rows_length hf l, hf, List.length_cons, Nat.succ_mul, Nat.add_comm]
theorem rows_snoc (l : List α) (x : α) : (l ++ [x]).flatMap f = l.flatMap f ++ f x := by simp
theorem rows_one {l : List α} (h : ∀ x ∈ l, ∀ u ∈ f x, u.oneCell' = true) : ∀ u ∈ l.flatMap f, u.oneCell' = true := fun u hu => by
  obtain ⟨x, hx, hu⟩ := List.mem_flatMap.1 hu
  exact h x hx u hu
theorem rows_get (hf : ∀ x, (f x).length = k) : ∀ (l : List α) (m j : Nat) (x : α), l[m]? = some x → j < k → (l.flatMap f)[m * k + j]? = (f x)[j]?
  | [], m, j, x, h, hj => by simp at h
  | y :: l, 0, j, x, h, hj => by
    obtain rfl : y = x := by simpa using h
    rw [List.flatMap_cons, Nat.zero_mul, Nat.zero_add, List.getElem?_append_left (by rw [hf]; exact hj)]
  | y :: l, m + 1, j, x, h, hj => by
    rw [List.flatMap_cons, List.getElem?_append_right (by rw [hf, Nat.succ_mul]; omega), hf, show (m + 1) * k + j - k = m * k + j by rw [Nat.succ_mul]; omega]
    exact rows_get hf l m j x (by simpa using h) hj
theorem rows_rd (hf : ∀ x, (f x).length = k) {w : World} {ad : Addr} {l : List α} {m : Nat} {x : α} (h : Rd w (some ad) (l.flatMap f)) (hm : l[m]? = some x) : Rd w (some (ad.add (m * k))) (f x) := fun j v hv => by
  have hj : j < k := by rw [← hf x]; exact (List.getElem?_eq_some_iff.1 hv).1
  obtain ⟨ad', e, hc⟩ := h (m * k + j) v ((rows_get hf l m j x hm hj).trans hv)
  cases e
  exact ⟨_, rfl, by rw [addr_add_add]; exact hc⟩
theorem rows_ad (hf : ∀ x, (f x).length = k) (hk : 0 < k) {w : World} {A : Option Addr} {l : List α} {m : Nat} {x : α} (h : Rd w A (l.flatMap f)) (hm : l[m]? = some x) : ∃ ad, A = some ad := by
  obtain ⟨v, hv⟩ : ∃ v, (f x)[0]? = some v := ⟨_, List.getElem?_eq_getElem (by rw [hf]; exact hk)⟩
  obtain ⟨ad, e, -⟩ := h (m * k + 0) v ((rows_get hf l m 0 x hm hk).trans hv)
  exact ⟨ad, e⟩
end
theorem Rd.ad0 {w : World} {ad : Addr} {xs : List Value} {v : Value} (h : Rd w (some ad) xs) (j : Nat) (hj : xs[j]? = some v) : w.cell? (ad.add j) = some v := by
  obtain ⟨ad', e, hc⟩ := h j v hj
  cases e
  exact hc
theorem run_loadVar_rd {P : Program} (w : World) (a : Addr) (ty : TypeId) (cs : List Value) (d : TypeDesc) (hc : Rd w (some a) cs)
    (hu : P.underlying ty = some d) (hd : d.isRow = true) (hi : (P.info? ty).map (·.size) = some cs.length) :
    (loadVar ty a).run P w = .ok (.agg cs.toArray) w := by
  have hl : (loadCells a cs.length).run P w = .ok cs.toArray w :=
    run_loadCells_list (P := P) w a cs (fun j v hv => by obtain ⟨ad, e, h⟩ := hc j v hv; cases e; exact h)
  cases hq : P.info? ty with
  | none => simp [hq] at hi
  | some i =>
    have hs : i.size = cs.length := by simpa [hq] using hi
    have hagg : (isAgg ty).run P w = .ok true w := by
      unfold isAgg
      rw [Sem.run_bind, run_underlying hu w]
      cases d <;> simp_all
    simp [loadVar, Sem.run_bind, hagg, sizeOf, typeInfo, hq, hs, hl]
/-- A struct's load from a row that is read. -/
theorem wpList_load_rd {P : Program} {ops : Array Oper} {rest : List Oper} {o : Oper} {a : Act} {w : World} {Q : Exit → Act → World → Prop} (hgd : o.guard = none) (ty : TypeId) (x : Operand) (ho : o.op = .load ty x)
    (ad : Addr) (hx : a.eval x = .pointer (some ad)) (cs : List Value) (d : TypeDesc) (hc : Rd w (some ad) cs)
    (hu : P.underlying ty = some d) (hd : d.isRow = true) (hi : (P.info? ty).map (·.size) = some cs.length)
    (h : wpList P ops Q rest (a.put o.dst (.agg cs.toArray)) w) : wpList P ops Q (o :: rest) a w := by
  refine wpList_plain hgd fun _ hK => ?_
  unfold Oper.wp execOp
  simp only [ho, hx, Instr.loadAt, Instr.sureAddr, Sem.run_bind, Sem.run_pure, Result.andThen_ok, run_loadVar_rd w ad ty cs d hc hu hd hi]
  exact hK _ _ h
/-- The same in a region that only reads. -/
theorem wpQuiet_load_rd {P : Program} {ops : Array Oper} {C : World → Prop} {Q : Act → Prop} {rest : List Oper} {o : Oper} {a : Act} (hgd : o.guard = none) (ty : TypeId) (x : Operand) (ho : o.op = .load ty x)
    (ad : Addr) (hx : a.eval x = .pointer (some ad)) (cs : List Value) (d : TypeDesc) (hc : ∀ w, C w → Rd w (some ad) cs)
    (hu : P.underlying ty = some d) (hd : d.isRow = true) (hi : (P.info? ty).map (·.size) = some cs.length)
    (h : wpQuiet P ops C Q rest (a.put o.dst (.agg cs.toArray))) : wpQuiet P ops C Q (o :: rest) a := by
  refine wpQuiet_step fun K hK => ?_
  rw [if_pos (by unfold Region.wanted; rw [hgd])]
  refine ⟨.agg cs.toArray, fun w hw => ?_, hK _ h⟩
  unfold Oper.quietAt execOp
  simp only [ho, hx, Instr.loadAt, Instr.sureAddr, Sem.run_bind, Sem.run_pure, Result.andThen_ok, run_loadVar_rd w ad ty cs d (hc w hw) hu hd hi]
  exact ⟨rfl, rfl⟩
section
variable {P : Program} {ops : Array Oper} {o : Oper} {a : Act} {K : Act → World → Prop} {Q : Exit → Act → World → Prop}
/-- append(v, xs...) in a drawn region. -/
theorem append_anyW {w0 W : World} (s x : Operand) (t e : TypeId) (z : Value) (size bytes : Nat)
    (ho : o.op = .call { callee := .builtin .append, args := #[s, x], argTypes := #[t, t] })
    (ht : P.underlying t = some (.slice e)) (hinfo : (P.info? e).map (fun i => (i.zero, i.size, i.bytes)) = some (some z, size, bytes)) (hz : z.cells.size = size) (hsz : 0 < size)
    (v : Value) (n : Nat) (xs : List Value) (A : Option Addr) (m c : Nat) (news : List Value) (HO : Own w0 W e size v n xs) (HB : Below w0.heap.size w0 W) (hr : Rd W A news) (hs : a.eval s = v) (hx : a.eval x = .slice A m c) (hnl : news.length = m * size) (h1 : ∀ u ∈ news, u.oneCell' = true)
    (hl : (n + m) * bytes ≤ 140737488355328) (hn : n + m ≤ 140737488355328)
    (h : ∀ v1 w1, Own w0 w1 e size v1 (n + m) (xs ++ news) → Below w0.heap.size w0 w1 → W.grownBy w1 v.ownBlock → K (a.put o.dst v1) w1) :
    o.wp P a W K Q := by
  obtain ⟨i0, hi, hzz⟩ := Option.map_eq_some_iff.1 hinfo
  simp only [Prod.mk.injEq] at hzz
  obtain ⟨hz0, hz1, hz2⟩ := hzz
  cases A with
  | some ad =>
    refine wp_append_own _ s x t ho w0.heap.size e i0 z size bytes ht hi hz0 hz1 hz2 hz hsz v n xs hs HO ad m c news hx hnl ?_ h1 (by simp only [maxLen]; omega) hl HB.size ?_
    · intro j u hu
      obtain ⟨ad', e1, hc⟩ := hr j u hu
      cases e1
      exact hc
    · intro v1 w1 hown hg _
      exact h v1 w1 hown (HB.grown hg HB.size (Own.at_base HO)) hg
  | none =>
    cases news with
    | cons y ys => obtain ⟨_, e1, _⟩ := hr 0 y (by simp); cases e1
    | nil =>
      have hm : m = 0 := by
        simp only [List.length_nil] at hnl
        rcases Nat.eq_zero_or_pos m with h | h
        · exact h
        · have := Nat.mul_pos h hsz; omega
      subst hm
      obtain ⟨A', c', rfl, _, hc', _⟩ := HO.read
      have hrun := run_append_empty (P := P) W t o.type e i0 ht hi A' n c' c hc'
      unfold Oper.wp
      simp [execOp, ho, resolve, invoke, builtin, hs, hx, hrun, Result.andThen]
      exact h _ W (by simpa using HO) HB (gb_refl _ _)
end
/-- Two slices of unlike elements. -/
theorem Own.apart_ty {w0 w1 W : World} {e e' size size' n n' : Nat} {v v' : Value} {xs ys : List Value} (h : Own w0 W e size v n xs) (h' : Own w1 W e' size' v' n' ys) (hne : e ≠ e') : v.ownBlock = none ∨ v.ownBlock ≠ v'.ownBlock := by
  rcases h.2 with ⟨rfl, _⟩ | ⟨g, cap, cur, rfl, hb, hh, _⟩
  · exact .inl rfl
  · rcases h'.2 with ⟨rfl, _⟩ | ⟨g', cap', cur', rfl, hb', hh', _⟩
    · exact .inr (by simp [Value.ownBlock])
    · refine .inr (fun e1 => ?_)
      have : g = g' := by simpa [Value.ownBlock] using e1
      subst this
      rw [hh] at hh'
      injection hh' with h1
      injection h1 with _ h2
      exact hne h2
/-- A slice kept as one of another kind of elements grows. -/
theorem Own.kept_ty {w0 w1 W W1 : World} {e e' size size' n n' : Nat} {v v' : Value} {xs ys : List Value} (h : Own w0 W e size v n xs) (h' : Own w1 W e' size' v' n' ys) (hne : e ≠ e') (hg : W.grownBy W1 v'.ownBlock) : Own w0 W1 e size v n xs := h.kept hg (h.apart_ty h' hne)
theorem Blk.kept_own {w1 W W1 : World} {g : Nat} {cs : Array Value} {t e : TypeId} {size n : Nat} {v : Value} {xs : List Value} (h : Blk W g cs t) (h' : Own w1 W e size v n xs) (hne : t ≠ e) (hg : W.grownBy W1 v.ownBlock) : Blk W1 g cs t := h.grown hg (h'.ne_blk h hne)
end Go.Proofs.YtnekcijganhknaaGreatDoor
