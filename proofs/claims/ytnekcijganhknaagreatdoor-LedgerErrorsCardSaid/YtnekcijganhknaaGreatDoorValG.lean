/- The walks over package value: Of, Needs. -/
import Derived.Test.YtnekcijganhknaaGreatDoorLgG
import Derived.Maps.AppendAt
import Derived.Test.YtnekcijganhknaaGreatDoorWldG
import Derived.Deep.DeepCutAuto
import Derived.Test.YtnekcijganhknaaGreatDoorWriteG
namespace Go.Proofs.YtnekcijganhknaaGreatDoor
open Go.RowKit
set_option linter.unusedVariables false
set_option linter.unusedSimpArgs false

theorem Own.lt {w0 W : World} {e size n g : Nat} {v : Value} {xs : List Value} (h : Own w0 W e size v n xs) (hg : v.ownBlock = some g) : g < W.heap.size := by
  rcases h.2 with ⟨rfl, _⟩ | ⟨g', cap, cur, rfl, _, hh, _⟩
  · simp [Value.ownBlock] at hg
  · have : g' = g := by simpa [Value.ownBlock] using hg
    subst this
    exact (Array.getElem?_eq_some_iff.1 hh).1
theorem Own.rebase {w w1 w' : World} {e size n : Nat} {v : Value} {xs : List Value} (h : Own w1 w' e size v n xs) (hb : w.heap.size ≤ w1.heap.size) : Own w w' e size v n xs := by
  rcases h.2 with ⟨rfl, h2⟩ | ⟨g, cap, cur, rfl, h1, h2⟩
  · exact ⟨h.1, .inl ⟨rfl, h2⟩⟩
  · exact ⟨h.1, .inr ⟨g, cap, cur, rfl, by omega, h2⟩⟩
/-- Two slices that lie in different rows. -/
def Apart (v v' : Value) : Prop := v.ownBlock = none ∨ v.ownBlock ≠ v'.ownBlock
theorem Apart.of_new {w0 w1 W W1 : World} {e e' size size' n n' : Nat} {v v' : Value} {xs ys : List Value} (h : Own w1 W1 e size v n xs) (h' : Own w0 W e' size' v' n' ys) (hs : W.heap.size ≤ w1.heap.size) : Apart v v' := by
  cases hv : v.ownBlock with
  | none => exact .inl hv
  | some g =>
    refine .inr (fun e1 => ?_)
    rw [hv] at e1
    have h1 := h.at_base g hv
    have h2 := h'.lt e1.symm
    omega
theorem Apart.step {w1 W : World} {e size n m : Nat} {v v' v1 : Value} {xs : List Value} (h : Apart v v') (ho : Own w1 W e size v n xs) (hv : v1.ownBlock = v'.ownBlock ∨ v1.ownBlock = some m) (hm : W.heap.size ≤ m) : Apart v v1 := by
  rcases h with h | h
  · exact .inl h
  · rcases hv with hv | hv
    · exact .inr (by rw [hv]; exact h)
    · cases hvo : v.ownBlock with
      | none => exact .inl hvo
      | some g =>
        refine .inr (fun e1 => ?_)
        rw [hvo, hv] at e1
        have := ho.lt hvo
        injection e1 with e1
        omega
theorem Own.kept_apart {w0 W W1 : World} {e size n : Nat} {v v' : Value} {xs : List Value} (h : Own w0 W e size v n xs) (hg : W.grownBy W1 v'.ownBlock) (ha : Apart v v') : Own w0 W1 e size v n xs := h.kept hg ha
section
variable {P : Program} {ops : Array Oper} {rest : List Oper} {o : Oper} {a : Act} {Q : Exit → Act → World → Prop}
/-- append(v, x) of one element, which lies in a block of its own; where the new slice lies. -/
theorem append_oneL {w0 W : World} (hgd : o.guard = none) (s x : Operand) (t e : TypeId) (z : Value) (size bytes : Nat)
    (ho : o.op = .call { callee := .builtin .append, args := #[s, x], argTypes := #[t, t] })
    (ht : P.underlying t = some (.slice e)) (hinfo : (P.info? e).map (fun i => (i.zero, i.size, i.bytes)) = some (some z, size, bytes)) (hz : z.cells.size = size) (hsz : 0 < size)
    (v : Value) (n : Nat) (xs ys : List Value) (g : Nat) (HO : Own w0 W e size v n xs) (HB : Below w0.heap.size w0 W) (hs : a.eval s = v) (hx : a.eval x = .slice (some ⟨g, 0, none⟩) 1 1) (hg : g = W.heap.size) (hy : ys.length = size) (h1 : ∀ u ∈ ys, u.oneCell' = true)
    (hl : (n + 1) * bytes ≤ 140737488355328) (hn : n + 1 ≤ 140737488355328)
    (h : ∀ v1 w1, Own w0 w1 e size v1 (n + 1) (xs ++ ys) → Below w0.heap.size w0 w1 → W.grownBy w1 v.ownBlock → (v1.ownBlock = v.ownBlock ∨ v1.ownBlock = some (W.heap.size + 1)) → wpList P ops Q rest (a.put o.dst v1) w1) :
    wpList P ops Q (o :: rest) a (W.alloc (.cells ys.toArray e)) := by
  subst hg
  obtain ⟨i0, hi, hzz⟩ := Option.map_eq_some_iff.1 hinfo
  simp only [Prod.mk.injEq] at hzz
  obtain ⟨hz0, hz1, hz2⟩ := hzz
  refine wpList_append_own_at _ hgd s x t ho w0.heap.size e i0 z size bytes ht hi hz0 hz1 hz2 hz hsz v n xs hs (World.ownsRow.alloc HO _) ⟨W.heap.size, 0, none⟩ 1 1 ys hx (by omega) ?_ h1 (by simp only [maxLen]; omega) hl (by have := HB.size; simp; omega) ?_
  · intro j u hu
    have := (Blk.rd (Blk.new W ys.toArray e)) j u (by simpa using hu)
    obtain ⟨ad, e1, hc⟩ := this
    cases e1
    exact hc
  · intro v1 w1 hown hg _ hat
    exact h v1 w1 hown ((bl_alloc HB _).grown hg (by have := HB.size; simp; omega) (Own.at_base HO)) (gb_trans (World.grownBy_alloc W _ _) hg) (by simpa using hat)
end
def mergeF (a : List ByteArray) (l : List (List ByteArray)) : List ByteArray := l.foldl (fun a x => x.foldl addNew a) a
theorem mergeF_snoc (a : List ByteArray) (l : List (List ByteArray)) (x : List ByteArray) : mergeF a (l ++ [x]) = x.foldl addNew (mergeF a l) := by simp [mergeF]
theorem Ob.names_merge (o : Ob) (h : ∀ s, o ≠ .fix s) : mergeF [] (o.kids.map Ob.names) = o.names := by
  cases o <;> first | exact absurd rfl (h _) | simp [mergeF, Ob.kids, Ob.names]
theorem mergeF_len : ∀ (l : List (List ByteArray)) (a : List ByteArray), (mergeF a l).length ≤ a.length + (l.map List.length).sum
  | [], a => by simp [mergeF]
  | x :: l, a => by
    have h1 := mergeF_len l (x.foldl addNew a)
    have h2 := foldl_addNew_len x a
    simp only [mergeF, List.foldl_cons, List.map_cons, List.sum_cons] at *
    omega
theorem Ob.names_meas (o : Ob) : o.names.length ≤ o.meas := Nat.le_trans o.names_len o.nodes_meas
theorem kids_sum (o : Ob) (k : Nat) : (((o.kids.map Ob.names).take k).map List.length).sum ≤ o.meas := by
  have hz : ∀ l : List (List ByteArray), ((l.take k).map List.length).sum ≤ (l.map List.length).sum := by
    intro l
    induction l generalizing k with
    | nil => simp
    | cons x l ih => cases k with
      | zero => simp
      | succ k => simp only [List.take_succ_cons, List.map_cons, List.sum_cons]; have := ih k; omega
  refine Nat.le_trans (hz _) ?_
  cases o with
  | add l r => have := l.names_meas; have := r.names_meas; simp only [Ob.kids, Ob.meas, List.map_cons, List.map_nil, List.sum_cons, List.sum_nil]; omega
  | mul l r => have := l.names_meas; have := r.names_meas; simp only [Ob.kids, Ob.meas, List.map_cons, List.map_nil, List.sum_cons, List.sum_nil]; omega
  | max l r => have := l.names_meas; have := r.names_meas; simp only [Ob.kids, Ob.meas, List.map_cons, List.map_nil, List.sum_cons, List.sum_nil]; omega
  | neg o => have := o.names_meas; simp only [Ob.kids, Ob.meas, List.map_cons, List.map_nil, List.sum_cons, List.sum_nil]; omega
  | _ => simp [Ob.kids]
theorem anyTo_any (l : List ByteArray) (s : ByteArray) : anyTo (eqTo l s) l.length = l.any (·.toList == s.toList) := by
  rw [Bool.eq_iff_iff]
  unfold anyTo
  simp only [List.any_eq_true, List.mem_range]
  constructor
  · rintro ⟨j, hj, h⟩
    refine ⟨l[j], List.getElem_mem hj, ?_⟩
    unfold eqTo at h
    rw [show strAt l j = l[j] by simp [strAt, hj]] at h
    rw [beq_iff_eq] at h ⊢
    exact h.symm
  · rintro ⟨x, hx, h⟩
    obtain ⟨j, hj, rfl⟩ := List.getElem_of_mem hx
    refine ⟨j, hj, ?_⟩
    unfold eqTo
    rw [show strAt l j = l[j] by simp [strAt, hj]]
    rw [beq_iff_eq] at h ⊢
    exact h.symm
theorem addNew_yes {l : List ByteArray} {s : ByteArray} (h : anyTo (eqTo l s) l.length = true) : addNew l s = l := by
  rw [anyTo_any] at h; unfold addNew; rw [h]; rfl
theorem addNew_no {l : List ByteArray} {s : ByteArray} (h : anyTo (eqTo l s) l.length = false) : addNew l s = l ++ [s] := by
  rw [anyTo_any] at h; unfold addNew; rw [h]; rfl
set_option maxRecDepth 100000 in
set_option maxHeartbeats 4000000 in
theorem names_calls (B : Nat) : ∀ (o : Ob), o.meas ≤ B → B ≤ 1099511627776 → o.ok → ∀ w : World,
    Calls Tryz.prog 176 #[o.val] w (RetStrs w o.names) := by
  induction B with
  | zero => intro o h; cases o <;> simp [Ob.meas] at h
  | succ B ih =>
    intro o hm hB ho w
    by_cases hfx : ∃ s, o = .fix s
    · obtain ⟨s, rfl⟩ := hfx
      have hb1 := bs_str
      unfold Ob.val
      go_enter Tryz.func176, Tryz.ntmps176
      go_wp2
      go_ret
      refine ⟨_, rfl, ⟨by simp [strs, Ob.names], .inr ⟨_, 1, #[.string s], rfl, ?_, ?_, Nat.le_refl _, by decide, rfl, rfl⟩⟩, bl_alloc (bl_alloc (bl_refl _) _) _⟩
      · simp
      · exact Blk_new (w.alloc (.cells #[.string s] 34)) #[.string s] 9 _ (by simp)
    · have hta : ∀ (t : TypeId) (w : World), (Instr.typeAssert o.val t 34 true).run Tryz.prog w = .ok (.tuple #[.agg #[.string ⟨#[]⟩], .bool false]) w := by
        intro t w
        cases o with
        | fix s => exact absurd ⟨s, rfl⟩ hfx
        | odd v =>
          rcases ho with h | ⟨t', x, h, h1, h2, h3, h4, h5, h6⟩
          · subst h; exact as_nil_Fix _ _
          · subst h; exact as_no_Fix _ (by assumption) _ _ _
        | _ => exact as_no_Fix _ (by decide) _ _ _
      have hmg := o.names_merge (fun s e => hfx ⟨s, e⟩)
      have hks := kids_sum o
      have hkd := fun w => obs_kids o ho w
      have hkl := o.kids_len
      have HMG := Lib.hid hmg; have HKS := Lib.hid hks; have HKD := Lib.hid hkd; have hkm := Lib.hid (o.kid_meas); have hko := Lib.hid (o.kid_ok ho); have HTA := Lib.hid hta
      have IH := Lib.hid ih
      have hb1 := Lib.hid bs_str
      clear hmg hks hkd hfx ih
      go_enter Tryz.func176, Tryz.ntmps176
      go_wp2_with fail
      clear hta
      refine (HKD.out _).mono ?_
      intro e w4 hr
      obtain ⟨A, c, rfl, hrd, hb4, hnc⟩ := hr.open_
      clear hr
      have hB4 : Below w.heap.size w w4 := bl_step hb4 (bl_alloc (bl_refl w) _)
      have HRD := Lib.hid hrd; have HB4 := Lib.hid hB4
      clear hrd hb4 hB4 HKD
      go_wp2_with fail
      go_loopw [3, 22] (fun v i wr => ∃ k : Nat, k ≤ o.kids.length ∧ i = .int .i64 k ∧ Own w4 wr 9 1 v (mergeF [] ((o.kids.map Ob.names).take k)).length (strs (mergeF [] ((o.kids.map Ob.names).take k))) ∧ Below w4.heap.size w4 wr) (fun _ i _ => o.kids.length - (intOf i).toNat)
      case atStart => exact ⟨0, Nat.zero_le _, rfl, Own.nil _ _ _ _, bl_refl _⟩
      case round =>
        obtain ⟨k, hk, rfl, HO, HB⟩ := hrel
        have hlm := mergeF_len ((o.kids.map Ob.names).take k) []
        have hlk := HKS.out k
        have hlk1 := HKS.out (k + 1)
        by_cases hlt : k < o.kids.length
        · obtain ⟨ad, e1, hcell⟩ := (HRD.out.below HB) k ((o.kids[k]).val) (by simp [Ob.vals, hlt])
          subst e1
          have hmem := List.getElem_mem hlt
          have hkm' := hkm.out _ hmem
          have hih := Lib.hid (IH.out o.kids[k] (by omega) (by omega) (hko.out _ hmem))
          have HT := Lib.hid (take_snoc' (o.kids.map Ob.names) k (by simpa using hlt))
          have hlt2 := hlk1
          rw [HT.out] at hlt2
          simp only [List.getElem_map, List.map_append, List.map_cons, List.map_nil, List.sum_append, List.sum_cons, List.sum_nil] at HT hlt2
          generalize o.kids[k] = y at *
          generalize (o.kids.map Ob.names).take k = L at *
          generalize hCL : mergeF [] L = cl at *
          have H5 := Lib.hid hCL
          generalize hyl : y.names = yl at *
          have H6 := Lib.hid hyl
          clear hCL hyl hmem hlk1 hkm'
          simp only [List.length_nil] at hlm
          go_wp2_with fail
          refine (hih.out _).mono ?_
          intro e w5 hq
          obtain ⟨v5, rfl, HO5, HB5⟩ := hq
          have hap := Apart.of_new HO5 HO (Nat.le_refl _)
          have HOk := HO.below HB5
          have HBk := bl_step HB5 HB
          obtain ⟨A5, c5, rfl, -, -, -⟩ := HO5.read
          clear HO HB hcell
          have hyb : yl.length ≤ 1099511627777 := by omega
          have HLM := Lib.hid hlm; have HLT2 := Lib.hid hlt2; have HLK := Lib.hid hlk
          clear hlm hlt2 hlk
          go_wp2_with fail
          go_loopw [3, 29] (fun v i wq => ∃ (j : Nat) (acc : List ByteArray), j ≤ yl.length ∧ i = .int .i64 j ∧ Hid (acc = (yl.take j).foldl addNew cl) ∧ Own w4 wq 9 1 v acc.length (strs acc) ∧ Below w4.heap.size w4 wq ∧ Own wr wq 9 1 (.slice A5 yl.length c5) yl.length (strs yl) ∧ Apart (.slice A5 yl.length c5) v) (fun _ i _ => yl.length - (intOf i).toNat)
          case atStart => exact ⟨0, cl, Nat.zero_le _, rfl, Lib.hid rfl, HOk, HBk, HO5, hap⟩
          case round =>
            clear HOk HBk HO5 hap
            rename World => wq
            obtain ⟨j, acc, hj, rfl, HAC, HO, HB, HO5, hap⟩ := hrel
            by_cases hjl : j < yl.length
            · obtain ⟨A9, c9, e9, hrd5, -, hl5⟩ := HO5.read
              cases e9
              have hgs := strs_get yl j hjl
              have HT2 := Lib.hid (take_snoc' yl j hjl)
              generalize yl[j] = s at *
              obtain ⟨ad, e1, hcell⟩ := hrd5 j _ hgs
              subst e1
              clear hgs hrd5
              obtain ⟨A0, c0, rfl, hrd0, hc0, -⟩ := HO.read
              have hal : acc.length ≤ 1099511627776 * 4 := by
                rw [HAC.out]
                have h1 := foldl_addNew_len (yl.take j) cl
                have h2 : (yl.take j).length ≤ yl.length := by rw [List.length_take]; omega
                have h3 := HLM.out; have h4 := HLT2.out; have h5 := HLK.out
                omega
              have hct := scontains_calls A0 acc.length c0 acc s (Nat.le_refl _) wq hrd0 (by omega)
              have HAL := Lib.hid hal
              cases hz : anyTo (eqTo acc s) acc.length with
              | true =>
                have HZ := Lib.hid (addNew_yes hz)
                rw [hz] at hct
                have HCT := Lib.hid hct
                clear hct hz hal hrd0
                go_wp2_with fail
                refine (HCT.out).mono ?_
                rintro e w7 ⟨rfl, hb7⟩
                go_wp2_with fail
                go_roundw
                case rel =>
                  refine ⟨j + 1, acc, by omega, by go_num, Lib.hid ?_, HO.below hb7, bl_step hb7 HB, HO5.below hb7, hap⟩
                  rw [HT2.out, List.foldl_append, ← HAC.out]
                  exact HZ.out.symm
                case measure => simp [intOf]; omega
              | false =>
                have HZ := Lib.hid (addNew_no hz)
                rw [hz] at hct
                have HCT := Lib.hid hct
                have hb1' := hb1.out
                clear hct hz hrd0
                go_wp2_with fail
                refine (HCT.out).mono ?_
                rintro e w7 ⟨rfl, hb7⟩
                have HO7 := HO.below hb7
                have HB7 := bl_step hb7 HB
                have HO57 := HO5.below hb7
                clear HO HB HO5
                go_wp2_with (at_builtin; refine append_oneL (w0 := w4) rfl _ _ 54 9 _ 1 16 rfl Tryz.underlying54 info_str rfl (by decide) _ _ _ [.string s] _ HO7 HB7 rfl rfl (by simp) rfl (by simp [Value.oneCell']) (by omega) (by omega) ?_; intro v8 w8 HO8 HB8 HG8 HL8)
                go_roundw
                case rel =>
                  have hap8 := hap.step HO57 HL8 (by omega)
                  refine ⟨j + 1, acc ++ [s], by omega, by go_num, Lib.hid ?_, ?_, HB8, HO57.kept_apart HG8 hap, hap8⟩
                  · rw [HT2.out, List.foldl_append, ← HAC.out]
                    exact HZ.out.symm
                  · rw [strs_snoc, List.length_append]
                    exact HO8
                case measure => simp [intOf]; omega
            · obtain rfl : j = yl.length := by omega
              go_wp2_with fail
              go_roundw
              case rel =>
                refine ⟨k + 1, by omega, by go_num, ?_, HB⟩
                rw [HT.out, mergeF_snoc, H5.out]
                have e := HAC.out
                rw [List.take_length] at e
                rw [← e]
                exact HO
              case measure => simp [intOf]; omega
        · obtain rfl : k = o.kids.length := by omega
          have t1 := List.take_of_length_le (l := o.kids.map Ob.names) (i := o.kids.length) (by simp)
          rw [t1, HMG.out] at HO
          go_wp2_with fail
          go_ret
          exact ⟨_, rfl, HO.rebase HB4.out.size, bl_step HB HB4.out⟩
end Go.Proofs.YtnekcijganhknaaGreatDoor
namespace Go.Proofs.YtnekcijganhknaaGreatDoor
open Go.RowKit
set_option linter.unusedVariables false
set_option linter.unusedSimpArgs false

def knV : Option Int → Value
  | some n => .agg #[.int .i64 n, .bool true]
  | none => .agg #[.int .i64 0, .bool false]
def knN : Option Int → Int
  | some n => n
  | none => 0
theorem knV_eq (o : Option Int) : knV o = .agg #[.int .i64 (knN o), .bool o.isSome] := by cases o <;> rfl
/-- It returns a number, if it is known, and an error. -/
def RetV (w : World) (p : Option Int × Int) (e : Ending) (w' : World) : Prop := e = .returned (.tuple #[knV p.1, .int .i64 p.2]) ∧ Below w.heap.size w w'
theorem Blk.set2 {w : World} {r : Nat} {a b : Value} {t : TypeId} (h : Blk w r #[a, b] t) (v0 v1 : Value) : Blk ((w.setCell ⟨r, 0, none⟩ v0).setCell ⟨r, 1, none⟩ v1) r #[v0, v1] t := (h.set 0 v0).set 1 v1
theorem bl_set2 {w W : World} (h : Below w.heap.size w W) (r : Nat) (hr : w.heap.size ≤ r) (v0 v1 : Value) : Below w.heap.size w ((W.setCell ⟨r, 0, none⟩ v0).setCell ⟨r, 1, none⟩ v1) :=
  bl_grown (bl_grown h (gb_set 0 v0) hr) (gb_set 1 v1) hr
theorem results_K {fn : Func} {t u : Tmp} (h : fn.results = #[.cell t 285, .tmp u]) (tmps : Array Value) (W : World) (r : Nat) (a b z : Value) (ty : TypeId) (ht : tmps.getD t undef = .pointer (some ⟨r, 0, none⟩)) (hz : tmps.getD u undef = z) (hk : Blk W r #[a, b] ty) :
    (results fn tmps).run Tryz.prog W = .ok (.tuple #[.agg #[a, b], z]) W := by
  have k0 : W.cell? ⟨r, 0, none⟩ = some a := hk.cell 0
  have k1 : W.cell? ⟨r, 1, none⟩ = some b := hk.cell 1
  have ht' : tmps[t]?.getD undef = .pointer (some ⟨r, 0, none⟩) := by simpa using ht
  have hz' : tmps[u]?.getD undef = z := by simpa using hz
  simp [results, h, ht', hz', go_sem, k0, k1]
set_option maxRecDepth 100000 in
set_option maxHeartbeats 1000000 in
theorem vtold_calls (q : Option Int) (n : Int) (b : Bool) (hq : optV q = .tuple #[.int .i64 n, .bool b]) (w : World) :
    Calls Tryz.prog 192 #[.int .i64 n, .bool b] w (RetV w (toldV q)) := by
  cases q with
  | none =>
    simp [optV] at hq
    obtain ⟨rfl, rfl⟩ := hq
    unfold RetV
    go_enter Tryz.func192, Tryz.ntmps192
    go_wp2_with fail
    refine bodyPost_ret (results_K rfl _ _ w.heap.size _ _ _ _ rfl rfl (Blk.new w _ _)) rfl ?_
    exact ⟨rfl, bl_alloc (bl_refl _) _⟩
  | some m =>
    simp [optV] at hq
    obtain ⟨rfl, rfl⟩ := hq
    unfold RetV
    go_enter Tryz.func192, Tryz.ntmps192
    go_wp2_with fail
    refine bodyPost_ret (results_K rfl _ _ w.heap.size _ _ _ _ rfl rfl (Blk.new w _ _)) rfl ?_
    exact ⟨rfl, bl_alloc (bl_refl _) _⟩
theorem greater_calls (a b : Int) (w : World) :
    Calls Tryz.prog 191 #[.int .i64 a, .int .i64 b] w fun e w' => e = .returned (optV (some (Max.max a b))) ∧ w' = w := by
  rcases Int.lt_or_le a b with hlt | hge
  · rw [Int.max_eq_right (by omega)]
    go_enter Tryz.func191, Tryz.ntmps191
    go_wp2_with fail
    all_goals first | (exfalso; omega) | skip
    go_ret2
    first | exact ⟨rfl, rfl⟩ | exact ⟨by show Ending.returned (.tuple #[.int .i64 (Max.max a b), .bool true]) = _; rw [Int.max_eq_right (by omega)]; rfl, rfl⟩ | exact ⟨by show Ending.returned (.tuple #[.int .i64 (Max.max a b), .bool true]) = _; rw [Int.max_eq_left (by omega)]; rfl, rfl⟩
  · rw [Int.max_eq_left (by omega)]
    go_enter Tryz.func191, Tryz.ntmps191
    go_wp2_with fail
    all_goals first | (exfalso; omega) | skip
    go_ret2
    first | exact ⟨rfl, rfl⟩ | exact ⟨by show Ending.returned (.tuple #[.int .i64 (Max.max a b), .bool true]) = _; rw [Int.max_eq_right (by omega)]; rfl, rfl⟩ | exact ⟨by show Ending.returned (.tuple #[.int .i64 (Max.max a b), .bool true]) = _; rw [Int.max_eq_left (by omega)]; rfl, rfl⟩
/-- What puts two numbers together. -/
def PutOk (g : FuncId) (f : Int → Int → Option Int) : Prop := ∀ a b w, Calls Tryz.prog g #[.int .i64 a, .int .i64 b] w fun e w' => e = .returned (optV (f a b)) ∧ w' = w
set_option maxRecDepth 100000 in
set_option maxHeartbeats 4000000 in
theorem pair_calls (g : FuncId) (f : Int → Int → Option Int) (hg : PutOk g f) (hcall : ∀ args W, (callFunc g args).run Tryz.prog W = .ok (.enter g args) W) (lv rv bv : Value) (dd : Int) (pl pr : Option Int × Int) (w : World)
    (hl : ∀ W, Below w.heap.size w W → Calls Tryz.prog 174 #[lv, .int .i64 dd, bv] W (RetV W pl)) (hr : ∀ W, Below w.heap.size w W → Calls Tryz.prog 174 #[rv, .int .i64 dd, bv] W (RetV W pr)) :
    Calls Tryz.prog 189 #[lv, rv, .int .i64 dd, bv, .func (.func g) #[] #[]] w (RetV w (pairV pl pr f)) := by
  obtain ⟨ol, el⟩ := pl
  obtain ⟨or, er⟩ := pr
  obtain ⟨W0, hW0⟩ : ∃ W0, w.alloc (.cells #[.int .i64 0, .bool false] 285) = W0 := ⟨_, rfl⟩
  have hb0 : Below w.heap.size w W0 := by rw [← hW0]; exact bl_alloc (bl_refl w) _
  have hk0 : Blk W0 w.heap.size #[.int .i64 0, .bool false] 285 := by rw [← hW0]; exact Blk.new w _ _
  unfold RetV at hl hr ⊢
  have e1 := knV_eq ol
  have e2 := knV_eq or
  simp only [] at hl hr
  rw [e1] at hl
  rw [e2] at hr
  obtain ⟨n1, hn1⟩ : ∃ n1, knN ol = n1 := ⟨_, rfl⟩
  obtain ⟨b1, hb1⟩ : ∃ b1, ol.isSome = b1 := ⟨_, rfl⟩
  obtain ⟨n2, hn2⟩ : ∃ n2, knN or = n2 := ⟨_, rfl⟩
  obtain ⟨b2, hb2⟩ : ∃ b2, or.isSome = b2 := ⟨_, rfl⟩
  rw [hn1, hb1] at hl
  rw [hn2, hb2] at hr
  have HL := Lib.hid hl; have HR := Lib.hid hr; have HW0 := Lib.hid hW0; have HB0 := Lib.hid hb0; have HK0 := Lib.hid hk0; have HG := Lib.hid hg
  clear hl hr hW0 hb0 hk0 e1 e2 hg
  by_cases hel : el = 0
  · subst hel
    by_cases her : er = 0
    · subst her
      cases ol with
      | none =>
        have hp : pairV (none, 0) (or, 0) f = (none, 0) := rfl
        rw [hp]
        simp only [Option.isSome_none] at hb1
        subst hb1
        clear hp hn1 hn2 hb2
        go_enter Tryz.func189, Tryz.ntmps189
        go_wp2_with fail
        rw [HW0.out]
        go_wp2_with fail
        refine (HL.out _ HB0.out).mono ?_
        rintro e w1 ⟨rfl, hb1⟩
        have hk1 := HK0.out.below hb1
        have hB1 := bl_step hb1 HB0.out
        have f0 := hk1.frozen 0; have f1 := hk1.frozen 1; have c0 : w1.cell? ⟨w.heap.size, 0, none⟩ = some (.int .i64 0) := hk1.cell 0; have c1 : w1.cell? ⟨w.heap.size, 1, none⟩ = some (.bool false) := hk1.cell 1
        have hlr1 := hk1.lt
        have HK1 := Lib.hid hk1; have HB1 := Lib.hid hB1
        clear hk1 hB1 hb1
        go_upto_region 4 with fail
        obtain ⟨W2, hW2⟩ : ∃ W2, w1.alloc (.cells #[.int .i64 n1, .bool false] 285) = W2 := ⟨_, rfl⟩
        have hb2 : Below w1.heap.size w1 W2 := by rw [← hW2]; exact bl_alloc (bl_refl _) _
        have hk2 : Blk W2 w1.heap.size #[.int .i64 n1, .bool false] 285 := by rw [← hW2]; exact Blk.new _ _ _
        have hka2 := HK1.out.below hb2
        have hB2 := bl_step hb2 HB1.out
        rw [hW2]
        clear hW2 hb2 f0 f1 c0 c1
        go_wp2_with fail
        refine (HR.out _ hB2).mono ?_
        rintro e w3 ⟨rfl, hb3⟩
        have hk3 := hka2.below hb3
        have hk4 := hk2.below hb3
        have hB3 := bl_step hb3 hB2
        have f0 := hk3.frozen 0; have f1 := hk3.frozen 1; have c0 : w3.cell? ⟨w.heap.size, 0, none⟩ = some (.int .i64 0) := hk3.cell 0; have c1 : w3.cell? ⟨w.heap.size, 1, none⟩ = some (.bool false) := hk3.cell 1
        have d0 : w3.cell? ⟨w1.heap.size, 0, none⟩ = some (.int .i64 n1) := hk4.cell 0; have d1 : w3.cell? ⟨w1.heap.size, 1, none⟩ = some (.bool false) := hk4.cell 1
        have hlr3 := hk3.lt; have hlr4 := hk4.lt
        have HK3 := Lib.hid hk3; have HB3 := Lib.hid hB3
        clear hk3 hB3 hb3 hk4 hka2 hk2 hB2
        go_wp2_with fail
        refine bodyPost_ret (results_K rfl _ _ w.heap.size _ _ _ _ rfl rfl ((HK3.out.set2 _ _).below (bl_alloc (bl_refl _) _))) rfl ?_
        exact ⟨rfl, bl_alloc (bl_set2 HB3.out _ (Nat.le_refl _) _ _) _⟩
      | some x =>
        cases or with
        | none =>
          have hp : pairV (some x, 0) (none, 0) f = (none, 0) := rfl
          rw [hp]
          simp only [Option.isSome_none] at hb2
          simp only [Option.isSome_some] at hb1
          subst hb1 hb2
          clear hp hn1 hn2
          go_enter Tryz.func189, Tryz.ntmps189
          go_wp2_with fail
          rw [HW0.out]
          go_wp2_with fail
          refine (HL.out _ HB0.out).mono ?_
          rintro e w1 ⟨rfl, hb1⟩
          have hk1 := HK0.out.below hb1
          have hB1 := bl_step hb1 HB0.out
          have f0 := hk1.frozen 0; have f1 := hk1.frozen 1; have c0 : w1.cell? ⟨w.heap.size, 0, none⟩ = some (.int .i64 0) := hk1.cell 0; have c1 : w1.cell? ⟨w.heap.size, 1, none⟩ = some (.bool false) := hk1.cell 1
          have hlr1 := hk1.lt
          have HK1 := Lib.hid hk1; have HB1 := Lib.hid hB1
          clear hk1 hB1 hb1
          go_upto_region 4 with fail
          obtain ⟨W2, hW2⟩ : ∃ W2, w1.alloc (.cells #[.int .i64 n1, .bool true] 285) = W2 := ⟨_, rfl⟩
          have hb2 : Below w1.heap.size w1 W2 := by rw [← hW2]; exact bl_alloc (bl_refl _) _
          have hk2 : Blk W2 w1.heap.size #[.int .i64 n1, .bool true] 285 := by rw [← hW2]; exact Blk.new _ _ _
          have hka2 := HK1.out.below hb2
          have hB2 := bl_step hb2 HB1.out
          rw [hW2]
          clear hW2 hb2 f0 f1 c0 c1
          go_wp2_with fail
          refine (HR.out _ hB2).mono ?_
          rintro e w3 ⟨rfl, hb3⟩
          have hk3 := hka2.below hb3
          have hk4 := hk2.below hb3
          have hB3 := bl_step hb3 hB2
          have f0 := hk3.frozen 0; have f1 := hk3.frozen 1; have c0 : w3.cell? ⟨w.heap.size, 0, none⟩ = some (.int .i64 0) := hk3.cell 0; have c1 : w3.cell? ⟨w.heap.size, 1, none⟩ = some (.bool false) := hk3.cell 1
          have d0 : w3.cell? ⟨w1.heap.size, 0, none⟩ = some (.int .i64 n1) := hk4.cell 0; have d1 : w3.cell? ⟨w1.heap.size, 1, none⟩ = some (.bool true) := hk4.cell 1
          have hlr3 := hk3.lt; have hlr4 := hk4.lt
          have HK3 := Lib.hid hk3; have HB3 := Lib.hid hB3
          clear hk3 hB3 hb3 hk4 hka2 hk2 hB2
          go_wp2_with fail
          refine bodyPost_ret (results_K rfl _ _ w.heap.size _ _ _ _ rfl rfl ((HK3.out.set2 _ _).below (bl_alloc (bl_refl _) _))) rfl ?_
          exact ⟨rfl, bl_alloc (bl_set2 HB3.out _ (Nat.le_refl _) _ _) _⟩
        | some y =>
          have hp : pairV (some x, 0) (some y, 0) f = toldV (f x y) := rfl
          rw [hp]
          simp only [Option.isSome_some] at hb1 hb2
          have hn1' : x = n1 := hn1
          have hn2' : y = n2 := hn2
          subst hb1 hb2 hn1' hn2'
          clear hp hn1 hn2
          obtain ⟨q, hq⟩ : ∃ q, f x y = q := ⟨_, rfl⟩
          have hput := fun w => HG.out x y w
          rw [hq] at hput ⊢
          obtain ⟨m, b, hmb⟩ : ∃ m b, optV q = .tuple #[.int .i64 m, .bool b] := by cases q <;> exact ⟨_, _, rfl⟩
          have htl := fun w => vtold_calls q m b hmb w
          rw [hmb] at hput
          unfold RetV at htl
          rw [knV_eq] at htl ⊢
          generalize knN (toldV q).1 = tn at *
          generalize (toldV q).1.isSome = tb at *
          generalize (toldV q).2 = te at *
          have HPUT := Lib.hid hput; have HTL := Lib.hid htl
          clear hput htl hmb hq
          go_enter Tryz.func189, Tryz.ntmps189
          go_wp2_with fail
          rw [HW0.out]
          go_wp2_with fail
          refine (HL.out _ HB0.out).mono ?_
          rintro e w1 ⟨rfl, hb1⟩
          have hk1 := HK0.out.below hb1
          have hB1 := bl_step hb1 HB0.out
          have f0 := hk1.frozen 0; have f1 := hk1.frozen 1; have c0 : w1.cell? ⟨w.heap.size, 0, none⟩ = some (.int .i64 0) := hk1.cell 0; have c1 : w1.cell? ⟨w.heap.size, 1, none⟩ = some (.bool false) := hk1.cell 1
          have hlr1 := hk1.lt
          have HK1 := Lib.hid hk1; have HB1 := Lib.hid hB1
          clear hk1 hB1 hb1
          go_upto_region 4 with fail
          obtain ⟨W2, hW2⟩ : ∃ W2, w1.alloc (.cells #[.int .i64 x, .bool true] 285) = W2 := ⟨_, rfl⟩
          have hb2 : Below w1.heap.size w1 W2 := by rw [← hW2]; exact bl_alloc (bl_refl _) _
          have hk2 : Blk W2 w1.heap.size #[.int .i64 x, .bool true] 285 := by rw [← hW2]; exact Blk.new _ _ _
          have hka2 := HK1.out.below hb2
          have hB2 := bl_step hb2 HB1.out
          rw [hW2]
          clear hW2 hb2 f0 f1 c0 c1
          go_wp2_with fail
          refine (HR.out _ hB2).mono ?_
          rintro e w3 ⟨rfl, hb3⟩
          have hk3 := hka2.below hb3
          have hk4 := hk2.below hb3
          have hB3 := bl_step hb3 hB2
          have f0 := hk3.frozen 0; have f1 := hk3.frozen 1; have c0 : w3.cell? ⟨w.heap.size, 0, none⟩ = some (.int .i64 0) := hk3.cell 0; have c1 : w3.cell? ⟨w.heap.size, 1, none⟩ = some (.bool false) := hk3.cell 1
          have d0 : w3.cell? ⟨w1.heap.size, 0, none⟩ = some (.int .i64 x) := hk4.cell 0; have d1 : w3.cell? ⟨w1.heap.size, 1, none⟩ = some (.bool true) := hk4.cell 1
          have hlr3 := hk3.lt; have hlr4 := hk4.lt
          have HK3 := Lib.hid hk3; have HB3 := Lib.hid hB3
          clear hk3 hB3 hb3 hk4 hka2 hk2 hB2
          go_wp2_with fail
          refine (HPUT.out _).mono ?_
          rintro e w4 ⟨rfl, rfl⟩
          go_wp2_with fail
          refine (HTL.out _).mono ?_
          rintro e w5 ⟨rfl, hb5⟩
          have hk5 := (HK3.out.below (bl_alloc (bl_refl _) _)).below hb5
          have hB5 := bl_step hb5 (bl_alloc HB3.out _)
          have f05 := hk5.frozen 0; have f15 := hk5.frozen 1; have c05 : w5.cell? ⟨w.heap.size, 0, none⟩ = some (.int .i64 0) := hk5.cell 0; have c15 : w5.cell? ⟨w.heap.size, 1, none⟩ = some (.bool false) := hk5.cell 1
          have HK5 := Lib.hid hk5; have HB5 := Lib.hid hB5
          clear hk5 hB5 hb5
          go_wp2_with fail
          refine bodyPost_ret (results_K rfl _ _ w.heap.size _ _ _ _ rfl rfl (HK5.out.set2 _ _)) rfl ?_
          exact ⟨rfl, bl_set2 HB5.out _ (Nat.le_refl _) _ _⟩
    · have hp : pairV (ol, 0) (or, er) f = (none, er) := by unfold pairV; rw [if_neg (by simp), if_pos her]
      have hne : (er != 0) = true := by simp [her]
      rw [hp]
      clear hp her hn1 hn2 hb1 hb2
      go_enter Tryz.func189, Tryz.ntmps189
      go_wp2_with fail
      rw [HW0.out]
      go_wp2_with fail
      refine (HL.out _ HB0.out).mono ?_
      rintro e w1 ⟨rfl, hb1⟩
      have hk1 := HK0.out.below hb1
      have hB1 := bl_step hb1 HB0.out
      have f0 := hk1.frozen 0; have f1 := hk1.frozen 1; have c0 : w1.cell? ⟨w.heap.size, 0, none⟩ = some (.int .i64 0) := hk1.cell 0; have c1 : w1.cell? ⟨w.heap.size, 1, none⟩ = some (.bool false) := hk1.cell 1
      have hlr1 := hk1.lt
      have HK1 := Lib.hid hk1; have HB1 := Lib.hid hB1
      clear hk1 hB1 hb1
      go_upto_region 4 with fail
      obtain ⟨W2, hW2⟩ : ∃ W2, w1.alloc (.cells #[.int .i64 n1, .bool b1] 285) = W2 := ⟨_, rfl⟩
      have hb2 : Below w1.heap.size w1 W2 := by rw [← hW2]; exact bl_alloc (bl_refl _) _
      have hk2 : Blk W2 w1.heap.size #[.int .i64 n1, .bool b1] 285 := by rw [← hW2]; exact Blk.new _ _ _
      have hka2 := HK1.out.below hb2
      have hB2 := bl_step hb2 HB1.out
      rw [hW2]
      clear hW2 hb2 f0 f1 c0 c1
      go_wp2_with fail
      refine (HR.out _ hB2).mono ?_
      rintro e w3 ⟨rfl, hb3⟩
      have hk3 := hka2.below hb3
      have hk4 := hk2.below hb3
      have hB3 := bl_step hb3 hB2
      have f0 := hk3.frozen 0; have f1 := hk3.frozen 1; have c0 : w3.cell? ⟨w.heap.size, 0, none⟩ = some (.int .i64 0) := hk3.cell 0; have c1 : w3.cell? ⟨w.heap.size, 1, none⟩ = some (.bool false) := hk3.cell 1
      have d0 : w3.cell? ⟨w1.heap.size, 0, none⟩ = some (.int .i64 n1) := hk4.cell 0; have d1 : w3.cell? ⟨w1.heap.size, 1, none⟩ = some (.bool b1) := hk4.cell 1
      have hlr3 := hk3.lt; have hlr4 := hk4.lt
      have HK3 := Lib.hid hk3; have HB3 := Lib.hid hB3
      clear hk3 hB3 hb3 hk4 hka2 hk2 hB2
      go_wp2_with fail
      refine bodyPost_ret (results_K rfl _ _ w.heap.size _ _ _ _ rfl rfl ((HK3.out.set2 _ _).below (bl_alloc (bl_refl _) _))) rfl ?_
      exact ⟨rfl, bl_alloc (bl_set2 HB3.out _ (Nat.le_refl _) _ _) _⟩
  · have hp : pairV (ol, el) (or, er) f = (none, el) := by unfold pairV; rw [if_pos hel]
    have hne : (el != 0) = true := by simp [hel]
    rw [hp]
    clear hp hel hn1 hn2 hb1 hb2
    go_enter Tryz.func189, Tryz.ntmps189
    go_wp2_with fail
    rw [HW0.out]
    go_wp2_with fail
    refine (HL.out _ HB0.out).mono ?_
    rintro e w1 ⟨rfl, hb1⟩
    have hk1 := HK0.out.below hb1
    have hB1 := bl_step hb1 HB0.out
    have f0 := hk1.frozen 0; have f1 := hk1.frozen 1; have c0 : w1.cell? ⟨w.heap.size, 0, none⟩ = some (.int .i64 0) := hk1.cell 0; have c1 : w1.cell? ⟨w.heap.size, 1, none⟩ = some (.bool false) := hk1.cell 1
    have hlr1 := hk1.lt
    have HK1 := Lib.hid hk1; have HB1 := Lib.hid hB1
    clear hk1 hB1 hb1
    go_wp2_with fail
    refine bodyPost_ret (results_K rfl _ _ w.heap.size _ _ _ _ rfl rfl ((HK1.out.set2 _ _).below (bl_alloc (bl_refl _) _))) rfl ?_
    exact ⟨rfl, bl_alloc (bl_set2 HB1.out _ (Nat.le_refl _) _ _) _⟩
end Go.Proofs.YtnekcijganhknaaGreatDoor
namespace Go.Proofs.YtnekcijganhknaaGreatDoor
open Go.RowKit
set_option linter.unusedVariables false
set_option linter.unusedSimpArgs false

theorem hcall_cadd (args : Array Value) (W : World) : (callFunc 190 args).run Tryz.prog W = .ok (.enter 190 args) W := by kernel_rfl
theorem hcall_cmul (args : Array Value) (W : World) : (callFunc 153 args).run Tryz.prog W = .ok (.enter 153 args) W := by kernel_rfl
theorem hcall_greater (args : Array Value) (W : World) : (callFunc 191 args).run Tryz.prog W = .ok (.enter 191 args) W := by kernel_rfl
theorem fld_neg (v : Value) (W : World) : (Instr.field 170 (.agg #[v]) 0).run Tryz.prog W = .ok v W := by kernel_rfl
def negV (p : Option Int × Int) : Option Int × Int := if p.2 ≠ 0 then (none, p.2) else match p.1 with
  | some x => toldV (negC x)
  | none => (none, 0)
set_option maxRecDepth 100000 in
set_option maxHeartbeats 4000000 in
theorem of_calls (w0 : World) (b g1 g2 : Nat) (d : Wd) (dd : Int) (hd : In64 dd) : ∀ (o : Ob), o.form = true → o.ok → ∀ w, WdAt w0 w b g1 g2 d →
    Calls Tryz.prog 174 #[o.val, .int .i64 dd, .pointer (some ⟨b, 0, none⟩)] w (RetV w (o.value d dd)) := by
  intro o
  induction o with
  | odd v => intro hf; cases hf
  | const n =>
    intro hf ho w h
    unfold RetV Ob.val
    go_enter Tryz.func174, Tryz.ntmps174
    go_wp2_with fail
    refine bodyPost_ret (results_K rfl _ _ w.heap.size _ _ _ _ rfl rfl ((Blk.new w _ _).below (bl_alloc (bl_refl _) _))) rfl ?_
    exact ⟨rfl, bl_alloc (bl_alloc (bl_refl _) _) _⟩
  | fix s =>
    intro hf ho w h
    have hfc := fun w (h : WdAt w0 w b g1 g2 d) => fixed_calls w0 b g1 g2 d s dd (by have := name_size s hf; unfold maxLen; omega) hd w h
    have hv : Ob.value d dd (.fix s) = (d.fixed s dd, 0) := rfl
    rw [hv]
    unfold RetV
    rw [knV_eq]
    have e1 : (d.fixed s dd).getD 0 = knN (d.fixed s dd) := by cases d.fixed s dd <;> rfl
    simp only [e1] at hfc
    simp only []
    generalize knN (d.fixed s dd) = n at *
    generalize (d.fixed s dd).isSome = is at *
    have HF := Lib.hid hfc; have HH := Lib.hid h
    clear hfc h e1 hv hf
    unfold Ob.val
    go_enter Tryz.func174, Tryz.ntmps174
    go_wp2_with fail
    refine (HF.out _ (HH.out.below (bl_alloc (bl_alloc (bl_refl _) _) _))).mono ?_
    rintro e w5 ⟨rfl, rfl⟩
    go_wp2_with fail
    refine bodyPost_ret (results_K rfl _ _ w.heap.size _ _ _ _ rfl rfl ((Blk.new w _ _).below (bl_alloc (bl_refl _) _))) rfl ?_
    exact ⟨rfl, bl_alloc (bl_alloc (bl_refl _) _) _⟩
  | add l r ihl ihr =>
    intro hf ho w h
    have HH := Lib.hid h
    clear h
    simp only [Ob.form, Bool.and_eq_true] at hf
    have hpc := fun w (h : WdAt w0 w b g1 g2 d) => pair_calls 190 addC (fun a b w => cadd2_calls a b w) hcall_cadd l.val r.val (.pointer (some ⟨b, 0, none⟩)) dd (l.value d dd) (r.value d dd) w (fun W hb => ihl hf.1 ho.1 W (h.below hb)) (fun W hb => ihr hf.2 ho.2 W (h.below hb))
    have hv : Ob.value d dd (.add l r) = pairV (l.value d dd) (r.value d dd) addC := rfl
    have ho1 : l.ok := ho.1; have ho2 : r.ok := ho.2; have el1 := l.cells_ ho.1; have er1 := r.cells_ ho.2; have el2 := l.one_ ho.1; have er2 := r.one_ ho.2
    obtain ⟨q, hq⟩ : ∃ q, pairV (l.value d dd) (r.value d dd) addC = q := ⟨_, rfl⟩
    rw [hv, hq]
    rw [hq] at hpc
    unfold RetV at hpc ⊢
    rw [knV_eq] at hpc ⊢
    generalize knN q.1 = n at *
    generalize q.1.isSome = is at *
    generalize q.2 = e at *
    have HP := Lib.hid hpc
    clear hpc ihl ihr hv hq hf
    unfold Ob.val
    go_enter Tryz.func174, Tryz.ntmps174
    go_upto_region 1 with fail
    obtain ⟨W0, hW0⟩ : ∃ W0, w.alloc (.cells #[.int .i64 0, .bool false] 285) = W0 := ⟨_, rfl⟩
    have hb0 : Below w.heap.size w W0 := by rw [← hW0]; exact bl_alloc (bl_refl w) _
    have hk0 : Blk W0 w.heap.size #[.int .i64 0, .bool false] 285 := by rw [← hW0]; exact Blk.new w _ _
    rw [hW0]
    clear hW0
    have hb1 := bl_alloc hb0 (.cells #[l.val, r.val] 168)
    have hk1 := hk0.below (bl_alloc (bl_refl _) (.cells #[l.val, r.val] 168))
    have HH1 := Lib.hid (HH.out.below hb1); have HB1 := Lib.hid hb1; have HK1 := Lib.hid hk1
    clear hb1 hk1 hb0 hk0
    go_wp2_with fail
    refine (HP.out _ HH1.out).mono ?_
    rintro e w5 ⟨rfl, hb5⟩
    have hk5 := HK1.out.below hb5
    have hB5 := bl_step hb5 HB1.out
    have f05 := hk5.frozen 0; have f15 := hk5.frozen 1; have c05 : w5.cell? ⟨w.heap.size, 0, none⟩ = some (.int .i64 0) := hk5.cell 0; have c15 : w5.cell? ⟨w.heap.size, 1, none⟩ = some (.bool false) := hk5.cell 1
    have HK5 := Lib.hid hk5; have HB5 := Lib.hid hB5
    clear hk5 hB5 hb5
    go_wp2_with fail
    refine bodyPost_ret (results_K rfl _ _ w.heap.size _ _ _ _ rfl rfl (HK5.out.set2 _ _)) rfl ?_
    exact ⟨rfl, bl_set2 HB5.out _ (Nat.le_refl _) _ _⟩
  | mul l r ihl ihr =>
    intro hf ho w h
    have HH := Lib.hid h
    clear h
    simp only [Ob.form, Bool.and_eq_true] at hf
    have hpc := fun w (h : WdAt w0 w b g1 g2 d) => pair_calls 153 mulC (fun a b w => cmul_calls a b w) hcall_cmul l.val r.val (.pointer (some ⟨b, 0, none⟩)) dd (l.value d dd) (r.value d dd) w (fun W hb => ihl hf.1 ho.1 W (h.below hb)) (fun W hb => ihr hf.2 ho.2 W (h.below hb))
    have hv : Ob.value d dd (.mul l r) = pairV (l.value d dd) (r.value d dd) mulC := rfl
    have ho1 : l.ok := ho.1; have ho2 : r.ok := ho.2; have el1 := l.cells_ ho.1; have er1 := r.cells_ ho.2; have el2 := l.one_ ho.1; have er2 := r.one_ ho.2
    obtain ⟨q, hq⟩ : ∃ q, pairV (l.value d dd) (r.value d dd) mulC = q := ⟨_, rfl⟩
    rw [hv, hq]
    rw [hq] at hpc
    unfold RetV at hpc ⊢
    rw [knV_eq] at hpc ⊢
    generalize knN q.1 = n at *
    generalize q.1.isSome = is at *
    generalize q.2 = e at *
    have HP := Lib.hid hpc
    clear hpc ihl ihr hv hq hf
    unfold Ob.val
    go_enter Tryz.func174, Tryz.ntmps174
    go_upto_region 1 with fail
    obtain ⟨W0, hW0⟩ : ∃ W0, w.alloc (.cells #[.int .i64 0, .bool false] 285) = W0 := ⟨_, rfl⟩
    have hb0 : Below w.heap.size w W0 := by rw [← hW0]; exact bl_alloc (bl_refl w) _
    have hk0 : Blk W0 w.heap.size #[.int .i64 0, .bool false] 285 := by rw [← hW0]; exact Blk.new w _ _
    rw [hW0]
    clear hW0
    have hb1 := bl_alloc hb0 (.cells #[l.val, r.val] 36)
    have hk1 := hk0.below (bl_alloc (bl_refl _) (.cells #[l.val, r.val] 36))
    have HH1 := Lib.hid (HH.out.below hb1); have HB1 := Lib.hid hb1; have HK1 := Lib.hid hk1
    clear hb1 hk1 hb0 hk0
    go_wp2_with fail
    refine (HP.out _ HH1.out).mono ?_
    rintro e w5 ⟨rfl, hb5⟩
    have hk5 := HK1.out.below hb5
    have hB5 := bl_step hb5 HB1.out
    have f05 := hk5.frozen 0; have f15 := hk5.frozen 1; have c05 : w5.cell? ⟨w.heap.size, 0, none⟩ = some (.int .i64 0) := hk5.cell 0; have c15 : w5.cell? ⟨w.heap.size, 1, none⟩ = some (.bool false) := hk5.cell 1
    have HK5 := Lib.hid hk5; have HB5 := Lib.hid hB5
    clear hk5 hB5 hb5
    go_wp2_with fail
    refine bodyPost_ret (results_K rfl _ _ w.heap.size _ _ _ _ rfl rfl (HK5.out.set2 _ _)) rfl ?_
    exact ⟨rfl, bl_set2 HB5.out _ (Nat.le_refl _) _ _⟩
  | max l r ihl ihr =>
    intro hf ho w h
    have HH := Lib.hid h
    clear h
    simp only [Ob.form, Bool.and_eq_true] at hf
    have hpc := fun w (h : WdAt w0 w b g1 g2 d) => pair_calls 191 (fun a b => some (Max.max a b)) (fun a b w => greater_calls a b w) hcall_greater l.val r.val (.pointer (some ⟨b, 0, none⟩)) dd (l.value d dd) (r.value d dd) w (fun W hb => ihl hf.1 ho.1 W (h.below hb)) (fun W hb => ihr hf.2 ho.2 W (h.below hb))
    have hv : Ob.value d dd (.max l r) = pairV (l.value d dd) (r.value d dd) (fun a b => some (Max.max a b)) := rfl
    have ho1 : l.ok := ho.1; have ho2 : r.ok := ho.2; have el1 := l.cells_ ho.1; have er1 := r.cells_ ho.2; have el2 := l.one_ ho.1; have er2 := r.one_ ho.2
    obtain ⟨q, hq⟩ : ∃ q, pairV (l.value d dd) (r.value d dd) (fun a b => some (Max.max a b)) = q := ⟨_, rfl⟩
    rw [hv, hq]
    rw [hq] at hpc
    unfold RetV at hpc ⊢
    rw [knV_eq] at hpc ⊢
    generalize knN q.1 = n at *
    generalize q.1.isSome = is at *
    generalize q.2 = e at *
    have HP := Lib.hid hpc
    clear hpc ihl ihr hv hq hf
    unfold Ob.val
    go_enter Tryz.func174, Tryz.ntmps174
    go_upto_region 1 with fail
    obtain ⟨W0, hW0⟩ : ∃ W0, w.alloc (.cells #[.int .i64 0, .bool false] 285) = W0 := ⟨_, rfl⟩
    have hb0 : Below w.heap.size w W0 := by rw [← hW0]; exact bl_alloc (bl_refl w) _
    have hk0 : Blk W0 w.heap.size #[.int .i64 0, .bool false] 285 := by rw [← hW0]; exact Blk.new w _ _
    rw [hW0]
    clear hW0
    have hb1 := bl_alloc hb0 (.cells #[l.val, r.val] 171)
    have hk1 := hk0.below (bl_alloc (bl_refl _) (.cells #[l.val, r.val] 171))
    have HH1 := Lib.hid (HH.out.below hb1); have HB1 := Lib.hid hb1; have HK1 := Lib.hid hk1
    clear hb1 hk1 hb0 hk0
    go_wp2_with fail
    refine (HP.out _ HH1.out).mono ?_
    rintro e w5 ⟨rfl, hb5⟩
    have hk5 := HK1.out.below hb5
    have hB5 := bl_step hb5 HB1.out
    have f05 := hk5.frozen 0; have f15 := hk5.frozen 1; have c05 : w5.cell? ⟨w.heap.size, 0, none⟩ = some (.int .i64 0) := hk5.cell 0; have c15 : w5.cell? ⟨w.heap.size, 1, none⟩ = some (.bool false) := hk5.cell 1
    have HK5 := Lib.hid hk5; have HB5 := Lib.hid hB5
    clear hk5 hB5 hb5
    go_wp2_with fail
    refine bodyPost_ret (results_K rfl _ _ w.heap.size _ _ _ _ rfl rfl (HK5.out.set2 _ _)) rfl ?_
    exact ⟨rfl, bl_set2 HB5.out _ (Nat.le_refl _) _ _⟩
  | neg o ih =>
    intro hf ho w h
    have HH := Lib.hid h
    clear h
    have hv : Ob.value d dd (.neg o) = negV (o.value d dd) := rfl
    have hfld := fld_neg
    have hoc := fun W (hb : Below w.heap.size w W) => ih hf ho W (HH.out.below hb)
    have ho1 : o.ok := ho; have el1 := o.cells_ ho; have el2 := o.one_ ho
    rw [hv]
    clear hv ih hf
    generalize o.value d dd = p at *
    obtain ⟨q, er⟩ := p
    unfold RetV at hoc ⊢
    have e1 := knV_eq q
    simp only [] at hoc
    rw [e1] at hoc
    obtain ⟨n1, hn1⟩ : ∃ n1, knN q = n1 := ⟨_, rfl⟩
    obtain ⟨b1, hb1⟩ : ∃ b1, q.isSome = b1 := ⟨_, rfl⟩
    rw [hn1, hb1] at hoc
    have HP := Lib.hid hoc
    clear hoc e1
    by_cases her : er = 0
    · subst her
      cases q with
      | none =>
        simp only [Option.isSome_none] at hb1
        subst hb1
        have hp : negV (none, 0) = (none, 0) := rfl
        rw [hp]
        clear hn1 hp
        unfold Ob.val
        go_enter Tryz.func174, Tryz.ntmps174
        go_upto_region 1 with fail
        obtain ⟨W0, hW0⟩ : ∃ W0, w.alloc (.cells #[.int .i64 0, .bool false] 285) = W0 := ⟨_, rfl⟩
        have hb0 : Below w.heap.size w W0 := by rw [← hW0]; exact bl_alloc (bl_refl w) _
        have hk0 : Blk W0 w.heap.size #[.int .i64 0, .bool false] 285 := by rw [← hW0]; exact Blk.new w _ _
        rw [hW0]
        clear hW0
        have HB0 := Lib.hid hb0; have HK0 := Lib.hid hk0
        clear hb0 hk0
        go_wp2_with fail
        refine (HP.out _ HB0.out).mono ?_
        rintro e w1 ⟨rfl, hb1⟩
        go_upto_region 19 with fail
        obtain ⟨W2, hW2⟩ : ∃ W2, w1.alloc (.cells #[.int .i64 n1, .bool false] 285) = W2 := ⟨_, rfl⟩
        have hb2 : Below w1.heap.size w1 W2 := by rw [← hW2]; exact bl_alloc (bl_refl _) _
        have hk2 : Blk W2 w1.heap.size #[.int .i64 n1, .bool false] 285 := by rw [← hW2]; exact Blk.new _ _ _
        have hka2 := (HK0.out.below hb1).below hb2
        have hB2 := bl_step hb2 (bl_step hb1 HB0.out)
        rw [hW2]
        have f0 := hka2.frozen 0; have f1 := hka2.frozen 1; have c0 : W2.cell? ⟨w.heap.size, 0, none⟩ = some (.int .i64 0) := hka2.cell 0; have c1 : W2.cell? ⟨w.heap.size, 1, none⟩ = some (.bool false) := hka2.cell 1
        have d0 : W2.cell? ⟨w1.heap.size, 0, none⟩ = some (.int .i64 n1) := hk2.cell 0; have d1 : W2.cell? ⟨w1.heap.size, 1, none⟩ = some (.bool false) := hk2.cell 1
        have hlr1 := hka2.lt; have hlr2 := hk2.lt
        have HK2 := Lib.hid hka2; have HB2 := Lib.hid hB2
        clear hW2 hb2 hk2 hka2 hB2 hb1
        go_wp2_with fail
        refine bodyPost_ret (results_K rfl _ _ w.heap.size _ _ _ _ rfl rfl (HK2.out.set2 _ _)) rfl ?_
        exact ⟨rfl, bl_set2 HB2.out _ (Nat.le_refl _) _ _⟩
      | some x =>
        simp only [Option.isSome_some] at hb1
        have hn1' : x = n1 := hn1
        subst hb1 hn1'
        have hp : negV (some x, 0) = toldV (negC x) := rfl
        rw [hp]
        clear hn1 hp
        obtain ⟨z, hz⟩ : ∃ z, negC x = z := ⟨_, rfl⟩
        have hput := fun w => cneg_calls x w
        rw [hz] at hput ⊢
        obtain ⟨m, b', hmb⟩ : ∃ m b', optV z = .tuple #[.int .i64 m, .bool b'] := by cases z <;> exact ⟨_, _, rfl⟩
        have htl := fun w => vtold_calls z m b' hmb w
        rw [hmb] at hput
        unfold RetV at htl
        rw [knV_eq] at htl ⊢
        generalize knN (toldV z).1 = tn at *
        generalize (toldV z).1.isSome = tb at *
        generalize (toldV z).2 = te at *
        have HPUT := Lib.hid hput; have HTL := Lib.hid htl
        clear hput htl hmb hz
        unfold Ob.val
        go_enter Tryz.func174, Tryz.ntmps174
        go_upto_region 1 with fail
        obtain ⟨W0, hW0⟩ : ∃ W0, w.alloc (.cells #[.int .i64 0, .bool false] 285) = W0 := ⟨_, rfl⟩
        have hb0 : Below w.heap.size w W0 := by rw [← hW0]; exact bl_alloc (bl_refl w) _
        have hk0 : Blk W0 w.heap.size #[.int .i64 0, .bool false] 285 := by rw [← hW0]; exact Blk.new w _ _
        rw [hW0]
        clear hW0
        have HB0 := Lib.hid hb0; have HK0 := Lib.hid hk0
        clear hb0 hk0
        go_wp2_with fail
        refine (HP.out _ HB0.out).mono ?_
        rintro e w1 ⟨rfl, hb1⟩
        go_upto_region 19 with fail
        obtain ⟨W2, hW2⟩ : ∃ W2, w1.alloc (.cells #[.int .i64 x, .bool true] 285) = W2 := ⟨_, rfl⟩
        have hb2 : Below w1.heap.size w1 W2 := by rw [← hW2]; exact bl_alloc (bl_refl _) _
        have hk2 : Blk W2 w1.heap.size #[.int .i64 x, .bool true] 285 := by rw [← hW2]; exact Blk.new _ _ _
        have hka2 := (HK0.out.below hb1).below hb2
        have hB2 := bl_step hb2 (bl_step hb1 HB0.out)
        rw [hW2]
        have f0 := hka2.frozen 0; have f1 := hka2.frozen 1; have c0 : W2.cell? ⟨w.heap.size, 0, none⟩ = some (.int .i64 0) := hka2.cell 0; have c1 : W2.cell? ⟨w.heap.size, 1, none⟩ = some (.bool false) := hka2.cell 1
        have d0 : W2.cell? ⟨w1.heap.size, 0, none⟩ = some (.int .i64 x) := hk2.cell 0; have d1 : W2.cell? ⟨w1.heap.size, 1, none⟩ = some (.bool true) := hk2.cell 1
        have hlr1 := hka2.lt; have hlr2 := hk2.lt
        have HK2 := Lib.hid hka2; have HB2 := Lib.hid hB2
        clear hW2 hb2 hk2 hka2 hB2 hb1
        go_wp2_with fail
        refine (HPUT.out _).mono ?_
        rintro e w4 ⟨rfl, rfl⟩
        go_wp2_with fail
        refine (HTL.out _).mono ?_
        rintro e w5 ⟨rfl, hb5⟩
        have hk5 := HK2.out.below hb5
        have hB5 := bl_step hb5 HB2.out
        have f05 := hk5.frozen 0; have f15 := hk5.frozen 1; have c05 : w5.cell? ⟨w.heap.size, 0, none⟩ = some (.int .i64 0) := hk5.cell 0; have c15 : w5.cell? ⟨w.heap.size, 1, none⟩ = some (.bool false) := hk5.cell 1
        have HK5 := Lib.hid hk5; have HB5 := Lib.hid hB5
        clear hk5 hB5 hb5
        go_wp2_with fail
        refine bodyPost_ret (results_K rfl _ _ w.heap.size _ _ _ _ rfl rfl (HK5.out.set2 _ _)) rfl ?_
        exact ⟨rfl, bl_set2 HB5.out _ (Nat.le_refl _) _ _⟩
    · have hne : (er != 0) = true := by simp [her]
      have hp : negV (q, er) = (none, er) := if_pos her
      rw [hp]
      clear hp hn1 hb1 her
      unfold Ob.val
      go_enter Tryz.func174, Tryz.ntmps174
      go_upto_region 1 with fail
      obtain ⟨W0, hW0⟩ : ∃ W0, w.alloc (.cells #[.int .i64 0, .bool false] 285) = W0 := ⟨_, rfl⟩
      have hb0 : Below w.heap.size w W0 := by rw [← hW0]; exact bl_alloc (bl_refl w) _
      have hk0 : Blk W0 w.heap.size #[.int .i64 0, .bool false] 285 := by rw [← hW0]; exact Blk.new w _ _
      rw [hW0]
      clear hW0
      have HB0 := Lib.hid hb0; have HK0 := Lib.hid hk0
      clear hb0 hk0
      go_wp2_with fail
      refine (HP.out _ HB0.out).mono ?_
      rintro e w1 ⟨rfl, hb1⟩
      go_upto_region 19 with fail
      obtain ⟨W2, hW2⟩ : ∃ W2, w1.alloc (.cells #[.int .i64 n1, .bool b1] 285) = W2 := ⟨_, rfl⟩
      have hb2 : Below w1.heap.size w1 W2 := by rw [← hW2]; exact bl_alloc (bl_refl _) _
      have hk2 : Blk W2 w1.heap.size #[.int .i64 n1, .bool b1] 285 := by rw [← hW2]; exact Blk.new _ _ _
      have hka2 := (HK0.out.below hb1).below hb2
      have hB2 := bl_step hb2 (bl_step hb1 HB0.out)
      rw [hW2]
      have f0 := hka2.frozen 0; have f1 := hka2.frozen 1; have c0 : W2.cell? ⟨w.heap.size, 0, none⟩ = some (.int .i64 0) := hka2.cell 0; have c1 : W2.cell? ⟨w.heap.size, 1, none⟩ = some (.bool false) := hka2.cell 1
      have d0 : W2.cell? ⟨w1.heap.size, 0, none⟩ = some (.int .i64 n1) := hk2.cell 0; have d1 : W2.cell? ⟨w1.heap.size, 1, none⟩ = some (.bool b1) := hk2.cell 1
      have hlr1 := hka2.lt; have hlr2 := hk2.lt
      have HK2 := Lib.hid hka2; have HB2 := Lib.hid hB2
      clear hW2 hb2 hk2 hka2 hB2 hb1
      go_wp2_with fail
      refine bodyPost_ret (results_K rfl _ _ w.heap.size _ _ _ _ rfl rfl (HK2.out.set2 _ _)) rfl ?_
      exact ⟨rfl, bl_set2 HB2.out _ (Nat.le_refl _) _ _⟩
end Go.Proofs.YtnekcijganhknaaGreatDoor
namespace Go.Proofs.YtnekcijganhknaaGreatDoor
open Go.RowKit
set_option linter.unusedVariables false
set_option linter.unusedSimpArgs false

/-- It returns a number, whether it is known, an error. -/
def RetN (w : World) (p : Option Int × Int) (e : Ending) (w' : World) : Prop := e = .returned (.tuple #[.int .i64 (knN p.1), .bool p.1.isSome, .int .i64 p.2]) ∧ Below w.heap.size w w'
set_option maxRecDepth 100000 in
set_option maxHeartbeats 4000000 in
theorem vOf_calls (w0 : World) (b g1 g2 : Nat) (d : Wd) (dd : Int) (hd : In64 dd) (o : Ob) (hf : o.fits) (ho : o.ok) (w : World) (h : WdAt w0 w b g1 g2 d) :
    Calls Tryz.prog 161 #[o.val, .int .i64 dd, .pointer (some ⟨b, 0, none⟩)] w (RetN w (o.value d dd)) := by
  have hck := fun W => check_calls o ho (by have := hf.meas; omega) W
  rw [hf.check0] at hck
  have hof := fun W (hb : Below w.heap.size w W) => of_calls w0 b g1 g2 d dd hd o hf.1 ho W (h.below hb)
  unfold RetV at hof
  unfold RetN
  have e1 := knV_eq (o.value d dd).1
  rw [e1] at hof
  generalize knN (o.value d dd).1 = n at *
  generalize (o.value d dd).1.isSome = is at *
  generalize (o.value d dd).2 = e at *
  have HCK := Lib.hid hck; have HOF := Lib.hid hof
  clear hck hof h hf e1
  go_enter Tryz.func161, Tryz.ntmps161
  go_wp2_with fail
  refine (HCK.out _).mono ?_
  rintro e w1 ⟨rfl, hb1⟩
  go_wp2_with fail
  refine (HOF.out _ hb1).mono ?_
  rintro e w2 ⟨rfl, hb2⟩
  have hB := bl_step hb2 hb1
  go_wp2_with fail
  go_quiet (fail)
  go_wp2_with fail
  go_ret3
  exact ⟨rfl, bl_drewN (bl_alloc hB _) _⟩
theorem addNew_mem {out : List ByteArray} {x s : ByteArray} (h : s ∈ addNew out x) : s ∈ out ∨ s = x := by
  unfold addNew at h
  split at h
  · exact .inl h
  · simpa using h
theorem foldl_addNew_mem : ∀ (l out : List ByteArray) (s : ByteArray), s ∈ l.foldl addNew out → s ∈ out ∨ s ∈ l
  | [], out, s, h => .inl h
  | x :: l, out, s, h => by
    rcases foldl_addNew_mem l (addNew out x) s h with h | h
    · rcases addNew_mem h with h | h
      · exact .inl h
      · exact .inr (by simp [h])
    · exact .inr (by simp [h])
theorem Ob.names_name : ∀ o : Ob, o.form = true → ∀ s ∈ o.names, nameB s = true
  | .const _, _, s, h => by cases h
  | .fix x, hf, s, h => by
    obtain rfl := List.mem_singleton.1 h
    exact hf
  | .add l r, hf, s, h | .mul l r, hf, s, h | .max l r, hf, s, h => by
    simp only [Ob.form, Bool.and_eq_true] at hf
    simp only [Ob.names] at h
    rcases foldl_addNew_mem _ _ _ h with h | h
    · rcases foldl_addNew_mem _ _ _ h with h | h
      · cases h
      · exact l.names_name hf.1 s h
    · exact r.names_name hf.2 s h
  | .neg o, hf, s, h => by
    simp only [Ob.names] at h
    rcases foldl_addNew_mem _ _ _ h with h | h
    · cases h
    · exact o.names_name hf s h
  | .odd _, hf, s, h => by cases hf
set_option maxRecDepth 100000 in
set_option maxHeartbeats 4000000 in
theorem needs_calls (w0 : World) (b g1 g2 : Nat) (d : Wd) (dd : Int) (hd : In64 dd) (o : Ob) (hf : o.fits) (ho : o.ok) (w : World) (h : WdAt w0 w b g1 g2 d) :
    Calls Tryz.prog 163 #[o.val, .int .i64 dd, .pointer (some ⟨b, 0, none⟩)] w (RetStrs w (o.needs d dd)) := by
  have hck := fun W => check_calls o ho (by have := hf.meas; omega) W
  rw [hf.check0] at hck
  have hnc := fun W => names_calls _ o (Nat.le_refl _) (by have := hf.meas; omega) ho W
  have hlen : o.names.length ≤ 60 := Nat.le_trans o.names_len hf.2.1
  have hnm := fun s hs => name_size s (o.names_name hf.1 s hs)
  have HND : Hid (o.needs d dd = o.names.filter fun s => !(d.fixed s dd).isSome) := rfl
  generalize o.needs d dd = nd at *
  generalize o.names = nl at *
  have HCK := Lib.hid hck; have HNC := Lib.hid hnc; have HNM := Lib.hid hnm; have HH := Lib.hid h
  clear hck hnc hnm h hf
  go_enter Tryz.func163, Tryz.ntmps163
  go_wp2_with fail
  refine (HCK.out _).mono ?_
  rintro e w1 ⟨rfl, hb1⟩
  go_wp2_with fail
  refine (HNC.out _).mono ?_
  intro e w2 hq; obtain ⟨v, rfl, HO, hb2⟩ := hq
  have hB2 := bl_step hb2 hb1
  obtain ⟨A, c, rfl, hrd, -, -⟩ := HO.read
  have HRD := Lib.hid hrd; have HB2 := Lib.hid hB2; have hb1' := bs_str
  clear hrd HO hb1 hb2 hB2 HCK HNC
  go_wp2_with fail
  go_loopw [7, 18] (fun v i wr => ∃ (j : Nat) (acc : List ByteArray), j ≤ nl.length ∧ i = .int .i64 j ∧ Hid (acc = (nl.take j).filter fun s => !(d.fixed s dd).isSome) ∧ Own w2 wr 9 1 v acc.length (strs acc) ∧ Below w2.heap.size w2 wr) (fun _ i _ => nl.length - (intOf i).toNat)
  case atStart => exact ⟨0, [], Nat.zero_le _, rfl, Lib.hid rfl, Own.nil _ _ _ _, bl_refl _⟩
  case round =>
    obtain ⟨j, acc, hj, rfl, HAC, HO, HB⟩ := hrel
    by_cases hlt : j < nl.length
    · have hal : acc.length ≤ 60 := by
        rw [HAC.out]
        have h1 := List.length_filter_le (fun s => !(d.fixed s dd).isSome) (nl.take j)
        rw [List.length_take] at h1
        omega
      obtain ⟨ad, e1, hcell⟩ := (HRD.out.below HB) j _ (strs_get nl j hlt)
      subst e1
      have HT := Lib.hid (take_snoc' nl j hlt)
      have hsz := HNM.out _ (List.getElem_mem hlt)
      generalize nl[j] = s at *
      have hfc := fixed_calls w0 b g1 g2 d s dd (by unfold maxLen; omega) hd wr (HH.out.below (bl_step HB HB2.out))
      obtain ⟨is, his⟩ : ∃ is, (d.fixed s dd).isSome = is := ⟨_, rfl⟩
      rw [his] at hfc
      generalize (d.fixed s dd).getD 0 = n at hfc
      have HFC := Lib.hid hfc
      clear hfc
      have HAL := Lib.hid hal
      have HNX : Hid ((nl.take (j + 1)).filter (fun s => !(d.fixed s dd).isSome) = acc ++ if is then [] else [s]) := by
        show _ = _
        rw [HT.out, List.filter_append, ← HAC.out, List.filter_cons, his]
        cases is <;> rfl
      clear his hsz
      cases is with
      | true =>
        have HNX2 : Hid ((nl.take (j + 1)).filter (fun s => !(d.fixed s dd).isSome) = acc) := by show _ = _; have := HNX.out; simpa using this
        clear HNX
        go_wp2_with fail
        refine (HFC.out).mono ?_
        rintro e w5 ⟨rfl, rfl⟩
        go_wp2_with fail
        go_roundw
        case rel => exact ⟨j + 1, acc, by omega, by go_num, Lib.hid HNX2.out.symm, HO, HB⟩
        case measure => simp [intOf]; omega
      | false =>
        have HNX2 : Hid ((nl.take (j + 1)).filter (fun s => !(d.fixed s dd).isSome) = acc ++ [s]) := by show _ = _; have := HNX.out; simpa using this
        clear HNX
        go_wp2_with fail
        refine (HFC.out).mono ?_
        rintro e w5 ⟨rfl, rfl⟩
        go_wp2_with (at_builtin; refine append_oneL (w0 := w2) rfl _ _ 54 9 _ 1 16 rfl Tryz.underlying54 info_str rfl (by decide) _ _ _ [.string s] _ HO HB rfl rfl (by simp) rfl (by simp [Value.oneCell']) (by omega) (by omega) ?_; intro v8 w8 HO8 HB8 HG8 HL8)
        go_roundw
        case rel =>
          refine ⟨j + 1, acc ++ [s], by omega, by go_num, Lib.hid HNX2.out.symm, ?_, HB8⟩
          rw [strs_snoc, List.length_append]
          exact HO8
        case measure => simp [intOf]; omega
    · obtain rfl : j = nl.length := by omega
      have HE : Hid (acc = nd) := by
        show _ = _
        rw [HAC.out, HND.out, List.take_length]
      go_wp2_with fail
      go_ret
      refine ⟨_, rfl, ?_, bl_step HB HB2.out⟩
      rw [← HE.out]
      exact HO.rebase HB2.out.size
end Go.Proofs.YtnekcijganhknaaGreatDoor
