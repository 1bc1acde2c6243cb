/- Slices that the call itself makes: appended to, read. -/
import Derived.Test.YtnekcijganhknaaGreatDoorRd
namespace Go.Proofs.YtnekcijganhknaaGreatDoor
open Go.RowKit
set_option linter.unusedVariables false
set_option linter.unusedSimpArgs false

/-- A slice made since w0: n elements of so many cells, these cells in all. -/
def Own (w0 W : World) (e size : Nat) (v : Value) (n : Nat) (xs : List Value) : Prop := W.ownsRow w0.heap.size e size v n xs
theorem Own.nil (w0 W : World) (e size : Nat) : Own w0 W e size (.slice none 0 0) 0 [] := ⟨by simp, .inl ⟨rfl, rfl⟩⟩
theorem Own.below {w0 W W1 : World} {e size n : Nat} {v : Value} {xs : List Value} (h : Own w0 W e size v n xs) (hb : Below W.heap.size W W1) : Own w0 W1 e size v n xs :=
  World.ownsRow.kept h (gb_below hb none) (by cases v.ownBlock <;> simp)
theorem Own.kept {w0 W W1 : World} {e size n : Nat} {v : Value} {xs : List Value} {r : Option Nat} (h : Own w0 W e size v n xs) (hg : W.grownBy W1 r) (hne : v.ownBlock = none ∨ v.ownBlock ≠ r) : Own w0 W1 e size v n xs :=
  World.ownsRow.kept h hg hne
theorem Own.at_base {w0 W : World} {e size n : Nat} {v : Value} {xs : List Value} (h : Own w0 W e size v n xs) (k : Nat) (hk : v.ownBlock = some k) : w0.heap.size ≤ k := by
  rcases h.2 with ⟨rfl, _⟩ | ⟨g, cap, cur, rfl, hb, _⟩
  · simp [Value.ownBlock] at hk
  · have : g = k := by simpa [Value.ownBlock] using hk
    omega
theorem Own.ne_blk {w0 W : World} {e size n g : Nat} {v : Value} {xs : List Value} {cs : Array Value} {t : TypeId} (h : Own w0 W e size v n xs) (hb : Blk W g cs t) (ht : t ≠ e) : v.ownBlock ≠ some g := by
  intro hk
  rcases h.2 with ⟨rfl, _⟩ | ⟨g', cap, cur, rfl, _, hh, _⟩
  · simp [Value.ownBlock] at hk
  · have : g' = g := by simpa [Value.ownBlock] using hk
    subst this
    unfold Blk at hb
    rw [hh] at hb
    injection hb with hb
    injection hb with _ h2
    exact ht h2.symm
theorem Blk.grown {W W1 : World} {g : Nat} {cs : Array Value} {t : TypeId} {r : Option Nat} (h : Blk W g cs t) (hg : W.grownBy W1 r) (hne : r ≠ some g) : Blk W1 g cs t :=
  (hg.block g h.lt (fun e => hne e.symm)).trans h
/-- Read as a slice. -/
theorem Own.read {w0 W : World} {e size n : Nat} {v : Value} {xs : List Value} (h : Own w0 W e size v n xs) : ∃ A c, v = .slice A n c ∧ Rd W A xs ∧ n ≤ c ∧ xs.length = n * size := by
  rcases h.2 with ⟨rfl, rfl⟩ | ⟨g, cap, cur, rfl, hb, hh, hle, _, hsz, hxs⟩
  · have : xs = [] := List.eq_nil_of_length_eq_zero (by simpa using h.1)
    subst this
    exact ⟨none, 0, rfl, fun j v hv => by simp at hv, Nat.le_refl _, h.1⟩
  · refine ⟨_, cap, rfl, fun j u hu => ⟨_, rfl, ?_⟩, hle, h.1⟩
    rw [show (⟨g, 0, none⟩ : Addr).add j = ⟨g, j, none⟩ by unfold Addr.add; split <;> simp_all]
    rw [Blk.cell (show Blk W g cur e from hh)]
    rw [← hxs, List.getElem?_take] at hu
    split at hu
    · simpa using hu
    · cases hu

section
variable {P : Program} {ops : Array Oper} {rest : List Oper} {o : Oper} {a : Act} {Q : Exit → Act → World → Prop}
theorem wpList_wanted {w : World} (hw : Region.wanted o (yielded ops a.tmps) = true) (h : ∀ K : Act → World → Prop, (∀ a w, wpList P ops Q rest a w → K a w) → o.wp P a w K Q) : wpList P ops Q (o :: rest) a w :=
  wpList_step fun K hK => by rw [if_pos hw]; exact h K hK
/-- append(v, x) of one element of one cell: the world at the operation holds x in a block of its own. -/
theorem append_one {w0 W : World} (hgd : Region.wanted o (yielded ops a.tmps) = true) (s x : Operand) (t e : TypeId) (z : Value) (bytes : Nat)
    (ho : o.op = .call { callee := .builtin .append, args := #[s, x], argTypes := #[t, t] })
    (ht : P.underlying t = some (.slice e)) (hinfo : (P.info? e).map (fun i => (i.zero, i.size, i.bytes)) = some (some z, 1, bytes)) (hz : z.cells.size = 1)
    (v : Value) (n : Nat) (xs : List Value) (y : Value) (HO : Own w0 W e 1 v n xs) (HB : Below w0.heap.size w0 W) (hs : a.eval s = v) (hx : a.eval x = .slice (some ⟨W.heap.size, 0, none⟩) 1 1) (h1 : y.oneCell' = true)
    (hl : (n + 1) * bytes ≤ 140737488355328) (hn : n + 1 ≤ 140737488355328)
    (h : ∀ v1 w1, Own w0 w1 e 1 v1 (n + 1) (xs ++ [y]) → Below w0.heap.size w0 w1 → W.grownBy w1 v.ownBlock → wpList P ops Q rest (a.put o.dst v1) w1) :
    wpList P ops Q (o :: rest) a (W.alloc (.cells #[y] e)) := by
  obtain ⟨i0, hi, hzz⟩ := Option.map_eq_some_iff.1 hinfo
  simp only [Prod.mk.injEq] at hzz
  obtain ⟨hz0, hz1, hz2⟩ := hzz
  refine wpList_wanted hgd fun K hK => wp_append_own _ s x t ho w0.heap.size e i0 z 1 bytes ht hi hz0 hz1 hz2 hz (by omega) v n xs hs (World.ownsRow.alloc HO _) ⟨W.heap.size, 0, none⟩ 1 1 [y] hx rfl ?_
    (by simpa using h1) (by simp only [maxLen]; omega) hl (by have := HB.size; simp; omega) ?_
  · intro j u hu
    have := (Blk.rd (Blk.new W #[y] e)) j u (by simpa using hu)
    obtain ⟨ad, e1, hc⟩ := this
    cases e1
    exact hc
  · intro v1 w1 hown hg _
    exact hK _ _ <| h v1 w1 hown ((bl_alloc HB _).grown hg (by have := HB.size; simp; omega) (Own.at_base HO)) (gb_trans (World.grownBy_alloc W _ _) hg)
/-- append(v, xs...), the elements being read from elsewhere. -/
theorem append_all {w0 W : World} (hgd : Region.wanted o (yielded ops a.tmps) = true) (s x : Operand) (t e : TypeId) (z : Value) (size bytes : Nat)
    (ho : o.op = .call { callee := .builtin .append, args := #[s, x], argTypes := #[t, t] })
    (ht : P.underlying t = some (.slice e)) (hinfo : (P.info? e).map (fun i => (i.zero, i.size, i.bytes)) = some (some z, size, bytes)) (hz : z.cells.size = size) (hsz : 0 < size)
    (v : Value) (n : Nat) (xs : List Value) (ad : Addr) (m c : Nat) (news : List Value) (HO : Own w0 W e size v n xs) (HB : Below w0.heap.size w0 W) (hr : Rd W (some ad) news) (hs : a.eval s = v) (hx : a.eval x = .slice (some ad) m c) (hnl : news.length = m * size) (h1 : ∀ u ∈ news, u.oneCell' = true)
    (hl : (n + m) * bytes ≤ 140737488355328) (hn : n + m ≤ 140737488355328)
    (h : ∀ v1 w1, Own w0 w1 e size v1 (n + m) (xs ++ news) → Below w0.heap.size w0 w1 → W.grownBy w1 v.ownBlock → wpList P ops Q rest (a.put o.dst v1) w1) :
    wpList P ops Q (o :: rest) a W := by
  obtain ⟨i0, hi, hzz⟩ := Option.map_eq_some_iff.1 hinfo
  simp only [Prod.mk.injEq] at hzz
  obtain ⟨hz0, hz1, hz2⟩ := hzz
  refine wpList_wanted hgd fun K hK => wp_append_own _ s x t ho w0.heap.size e i0 z size bytes ht hi hz0 hz1 hz2 hz hsz v n xs hs HO ad m c news hx hnl ?_ h1 (by simp only [maxLen]; omega) hl HB.size ?_
  · intro j u hu
    obtain ⟨ad', e1, hc⟩ := hr j u hu
    cases e1
    exact hc
  · intro v1 w1 hown hg _
    exact hK _ _ <| h v1 w1 hown (HB.grown hg HB.size (Own.at_base HO)) hg
theorem run_append_empty (w : World) (t ty e : TypeId) (i : TypeInfo) (ht : P.underlying t = some (.slice e)) (hi : P.info? e = some i) (base : Option Addr) (n cap c : Nat) (hn : n ≤ cap) :
    (Builtin.append_ #[t, t] ty #[.slice base n cap, .slice none 0 c]).run P w = .ok (.slice base n cap) w := by
  cases base with
  | none => simp [Builtin.append_, run_underlying ht, sizeOf, typeInfo, hi, Builtin.lenOf, hn, Builtin.firstCells]
  | some a => simp [Builtin.append_, run_underlying ht, sizeOf, typeInfo, hi, Builtin.lenOf, hn, Builtin.firstCells, storeCells]
/-- The same, whatever the source's address: nil, too. -/
theorem append_any {w0 W : World} (hgd : Region.wanted o (yielded ops a.tmps) = true) (s x : Operand) (t e : TypeId) (z : Value) (size bytes : Nat)
    (ho : o.op = .call { callee := .builtin .append, args := #[s, x], argTypes := #[t, t] })
    (ht : P.underlying t = some (.slice e)) (hinfo : (P.info? e).map (fun i => (i.zero, i.size, i.bytes)) = some (some z, size, bytes)) (hz : z.cells.size = size) (hsz : 0 < size)
    (v : Value) (n : Nat) (xs : List Value) (A : Option Addr) (m c : Nat) (news : List Value) (HO : Own w0 W e size v n xs) (HB : Below w0.heap.size w0 W) (hr : Rd W A news) (hs : a.eval s = v) (hx : a.eval x = .slice A m c) (hnl : news.length = m * size) (h1 : ∀ u ∈ news, u.oneCell' = true)
    (hl : (n + m) * bytes ≤ 140737488355328) (hn : n + m ≤ 140737488355328)
    (h : ∀ v1 w1, Own w0 w1 e size v1 (n + m) (xs ++ news) → Below w0.heap.size w0 w1 → W.grownBy w1 v.ownBlock → wpList P ops Q rest (a.put o.dst v1) w1) :
    wpList P ops Q (o :: rest) a W := by
  cases A with
  | some ad => exact append_all hgd s x t e z size bytes ho ht hinfo hz hsz v n xs ad m c news HO HB hr hs hx hnl h1 hl hn h
  | none =>
    cases news with
    | cons y ys => obtain ⟨_, e1, _⟩ := hr 0 y (by simp); cases e1
    | nil =>
      have hm : m = 0 := by
        simp only [List.length_nil] at hnl
        rcases Nat.eq_zero_or_pos m with h | h
        · exact h
        · have := Nat.mul_pos h hsz; omega
      subst hm
      obtain ⟨i0, hi, hzz⟩ := Option.map_eq_some_iff.1 hinfo
      obtain ⟨A', c', rfl, _, hc', _⟩ := HO.read
      have hrun := run_append_empty (P := P) W t o.type e i0 ht hi A' n c' c hc'
      refine wpList_wanted hgd fun K hK => ?_
      unfold Oper.wp
      simp [execOp, ho, resolve, invoke, builtin, hs, hx, hrun, Result.andThen]
      exact hK _ _ (h _ W (by simpa using HO) HB (gb_refl _ _))
end
end Go.Proofs.YtnekcijganhknaaGreatDoor
