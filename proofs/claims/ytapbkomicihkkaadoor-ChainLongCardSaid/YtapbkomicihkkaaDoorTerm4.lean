/- The labels of a contract's choices; whether a contract may be. -/
import Derived.Test.YtapbkomicihkkaaDoorTerm3
import Derived.Test.YtapbkomicihkkaaDoorOwn
namespace Go.Proofs.YtapbkomicihkkaaDoor
open Go.RowKit
set_option linter.unusedVariables false
set_option linter.unusedSimpArgs false

def strs (l : List ByteArray) : List Value := l.map fun s => .string s
theorem strs_length (l : List ByteArray) : (strs l).length = l.length := by simp [strs]
theorem strs_get (l : List ByteArray) (j : Nat) (h : j < l.length) : (strs l)[j]? = some (.string l[j]) := by simp [strs, h]
theorem strs_snoc (l : List ByteArray) (s : ByteArray) : strs (l ++ [s]) = strs l ++ [.string s] := by simp [strs]
theorem strs_append (l m : List ByteArray) : strs (l ++ m) = strs l ++ strs m := by simp [strs]
theorem strs_one (l : List ByteArray) : ∀ u ∈ strs l, u.oneCell' = true := by
  intro u hu
  obtain ⟨s, _, rfl⟩ := List.mem_map.1 hu
  rfl
theorem info_str : (Tryd.prog.info? 9).map (fun i => (i.zero, i.size, i.bytes)) = some (some (.string ⟨#[]⟩), 1, 16) := by kernel_rfl
theorem bs_str (s : ByteArray) (W : World) : (Instr.buildSlice 23 1 #[(0, .string s)]).run Tryd.prog W = .ok (.slice (some ⟨W.heap.size, 0, none⟩) 1 1) (W.alloc (.cells #[.string s] 9)) := by kernel_rfl
theorem append_oneG {P : Program} {ops : Array Oper} {rest : List Oper} {o : Oper} {a : Act} {Q : Exit → Act → World → Prop} {w0 W : World} (hgd : Region.wanted o (yielded ops a.tmps) = true) (s x : Operand) (t e : TypeId) (z : Value) (bytes : Nat)
    (ho : o.op = .call { callee := .builtin .append, args := #[s, x], argTypes := #[t, t] })
    (ht : P.underlying t = some (.slice e)) (hinfo : (P.info? e).map (fun i => (i.zero, i.size, i.bytes)) = some (some z, 1, bytes)) (hz : z.cells.size = 1)
    (v : Value) (n : Nat) (xs : List Value) (y : Value) (g : Nat) (HO : Own w0 W e 1 v n xs) (HB : Below w0.heap.size w0 W) (hs : a.eval s = v) (hx : a.eval x = .slice (some ⟨g, 0, none⟩) 1 1) (hg : g = W.heap.size) (h1 : y.oneCell' = true)
    (hl : (n + 1) * bytes ≤ 140737488355328) (hn : n + 1 ≤ 140737488355328)
    (h : ∀ v1 w1, Own w0 w1 e 1 v1 (n + 1) (xs ++ [y]) → Below w0.heap.size w0 w1 → W.grownBy w1 v.ownBlock → wpList P ops Q rest (a.put o.dst v1) w1) :
    wpList P ops Q (o :: rest) a (W.alloc (.cells #[y] e)) := by
  subst hg
  exact append_one hgd s x t e z bytes ho ht hinfo hz v n xs y HO HB hs hx h1 hl hn h
/-- It returns texts, in a row of its own. -/
def RetStrs (w : World) (l : List ByteArray) (e : Ending) (w' : World) : Prop := ∃ v, e = .returned v ∧ Own w w' 9 1 v l.length (strs l) ∧ Below w.heap.size w w'
def Tm.ownL : Tm → List ByteArray
  | .or s _ _ => [s]
  | _ => []
def Tm.labels : Tm → List ByteArray
  | .zero | .one _ | .odd _ => []
  | .give t | .scale _ t | .when_ _ t => t.labels
  | .and l r | .if_ _ l r => l.labels ++ r.labels
  | .or s l r => s :: (l.labels ++ r.labels)
def catF (a : List ByteArray) (l : List (List ByteArray)) : List ByteArray := l.foldl (· ++ ·) a
theorem catF_snoc (a : List ByteArray) (l : List (List ByteArray)) (x : List ByteArray) : catF a (l ++ [x]) = catF a l ++ x := by simp [catF]
theorem Tm.labels_cat (o : Tm) : catF o.ownL (o.kids.map Tm.labels) = o.labels := by
  cases o <;> simp [catF, Tm.ownL, Tm.kids, Tm.labels]
theorem Tm.labels_meas : ∀ o : Tm, o.labels.length ≤ o.meas
  | .odd _ | .zero | .one _ => by simp [Tm.labels]
  | .give t | .when_ _ t => by have := t.labels_meas; simp only [Tm.labels, Tm.meas]; omega
  | .and l r => by have := l.labels_meas; have := r.labels_meas; simp only [Tm.labels, Tm.meas, List.length_append]; omega
  | .or _ l r => by have := l.labels_meas; have := r.labels_meas; simp only [Tm.labels, Tm.meas, List.length_append, List.length_cons]; omega
  | .scale o t => by have := t.labels_meas; simp only [Tm.labels, Tm.meas]; omega
  | .if_ o l r => by have := l.labels_meas; have := r.labels_meas; simp only [Tm.labels, Tm.meas, List.length_append]; omega
theorem catF_take_le (a : List ByteArray) (l : List (List ByteArray)) (k : Nat) : (catF a (l.take k)).length ≤ (catF a l).length := by
  conv => rhs; rw [← List.take_append_drop k l]
  unfold catF
  rw [List.foldl_append]
  generalize List.foldl (· ++ ·) a (List.take k l) = x
  generalize List.drop k l = y
  induction y generalizing x with
  | nil => exact Nat.le_refl _
  | cons z y ih => exact Nat.le_trans (by simp) (ih (x ++ z))
set_option maxRecDepth 100000 in
set_option maxHeartbeats 1000000 in
theorem labels_calls (B : Nat) : ∀ (o : Tm), o.meas ≤ B → B ≤ 1099511627776 → o.ok → ∀ w : World,
    Calls Tryd.prog 45 #[o.val] w (RetStrs w o.labels) := by
  induction B with
  | zero => intro o h; cases o <;> simp [Tm.meas] at h
  | succ B ih =>
    intro o hm hB ho w
    have HCAT := Lib.hid (o.labels_cat)
    have hlb := o.labels_meas
    have hkm := Lib.hid (o.kid_meas); have hko := Lib.hid (o.kid_ok ho)
    have hlen := o.kids_len
    have hkd := Lib.hid (fun w => term_kidsB o ho w)
    have hb1 := bs_str
    by_cases hor : ∃ s l r, o = .or s l r
    · obtain ⟨s, l, r, rfl⟩ := hor
      simp only [Tm.ok] at ho
      have hown : Tm.ownL (.or s l r) = [s] := rfl
      have HOWN := Lib.hid hown
      clear hown
      have hBA := bl_alloc (bl_refl w) (.cells #[.string s, l.val, r.val] 55)
      have e1 := l.cells_ ho.2.1
      unfold Tm.val
      go_enter Tryd.func45, Tryd.ntmps45
      go_wp2_with (at_builtin; refine append_oneG (w0 := w) rfl _ _ 23 9 _ 16 rfl Tryd.underlying23 info_str rfl _ 0 [] _ _ (Own.nil _ _ _ _) hBA rfl rfl (by simp) rfl (by omega) (by omega) ?_; intro v1 w3 HO1 HB1 HG1)
      go_wp2_with fail
      refine (hkd.out _).mono ?_
      intro e w4 hr
      obtain ⟨A, c, rfl, hrow, hb4, hnc⟩ := hr.open_
      clear hr
      go_wp2_with fail
      skip
      have hB4 : Below w.heap.size w w4 := by
        repeat (first | exact bl_refl _ | refine bl_alloc ?_ _ | refine bl_drew ?_ | refine bl_drewN ?_ _ | refine bl_step (by assumption) ?_)
      have HOb := HO1.below hb4
      go_loopw [3, 22] (fun v i wr => ∃ k : Nat, k ≤ (Tm.or s l r).kids.length ∧ i = .int .i64 k ∧ Own w wr 9 1 v (catF (Tm.or s l r).ownL (((Tm.or s l r).kids.map Tm.labels).take k)).length (strs (catF (Tm.or s l r).ownL (((Tm.or s l r).kids.map Tm.labels).take k))) ∧ Below w.heap.size w wr ∧ RowAt 26 wr A (Tm.vals (Tm.or s l r).kids)) (fun _ i _ => (Tm.or s l r).kids.length - (intOf i).toNat)
      case atStart => exact ⟨0, Nat.zero_le _, rfl, (by rw [HOWN.out]; exact HOb), hB4, hrow⟩
      case round =>
        clear hrow
        obtain ⟨k, hk, rfl, HO, HB, hrow⟩ := hrel
        have hlm := catF_take_le (Tm.or s l r).ownL ((Tm.or s l r).kids.map Tm.labels) k
        rw [HCAT.out] at hlm
        by_cases hlt : k < (Tm.or s l r).kids.length
        · obtain ⟨ad, e1, hcell⟩ := hrow.rd k ((Tm.or s l r).kids[k].val) (by simp [Tm.vals, hlt])
          have hrow := Lib.hid hrow
          subst e1
          have hmem := List.getElem_mem hlt
          have hkm' := hkm.out _ hmem
          have hih := Lib.hid (ih (Tm.or s l r).kids[k] (by omega) (by omega) (hko.out _ hmem))
          have d1 := ((Tm.or s l r).kids[k]).labels_meas
          have HT := Lib.hid (take_snoc' ((Tm.or s l r).kids.map Tm.labels) k (by simpa using hlt))
          simp only [List.getElem_map] at HT
          generalize (Tm.or s l r).kids[k] = y at *
          generalize ((Tm.or s l r).kids.map Tm.labels).take k = L at *
          generalize hCL : catF (Tm.or s l r).ownL L = cl at *
          have H5 := Lib.hid hCL
          generalize hyl : y.labels = yl at *
          have H6 := Lib.hid hyl
          have hll := strs_length cl
          clear hCL hyl hmem
          obtain ⟨A0, c0, rfl, _, hc0, _⟩ := HO.read
          go_wp2_with fail
          refine (hih.out _).mono ?_
          intro e w5 hq
          obtain ⟨v5, rfl, HO5, HB5⟩ := hq
          have HOk := HO.below HB5
          have HBk := bl_step HB5 HB
          have hrow5 := hrow.out.below HB5
          obtain ⟨A5, c5, rfl, hrd5, _, hl5⟩ := HO5.read
          clear HO HO5
          go_wp2_with (at_builtin; refine append_any (w0 := w) rfl _ _ 23 9 _ 1 16 rfl Tryd.underlying23 info_str rfl (by decide) _ _ _ A5 _ c5 (strs yl) HOk HBk hrd5 rfl rfl (by omega) (strs_one yl) (by omega) (by omega) ?_; intro v6 w6 HO6 HB6 HG6)
          have hrow6 := hrow5.grown HG6 (fun g cs hb => HOk.ne_blk hb (by decide))
          go_roundw
          case rel =>
            refine ⟨k + 1, by omega, by go_num, ?_, HB6, hrow6⟩
            rw [HT.out, catF_snoc, H5.out, strs_append, List.length_append]
            exact HO6
          case measure => simp [intOf]; omega
        · obtain rfl : k = (Tm.or s l r).kids.length := by omega
          clear hlt
          have t1 := List.take_of_length_le (l := (Tm.or s l r).kids.map Tm.labels) (i := (Tm.or s l r).kids.length) (by simp)
          rw [t1, HCAT.out] at HO
          clear t1
          go_wp2
          go_ret
          exact ⟨_, rfl, HO, HB⟩
    · have hta : ∀ (t : TypeId) (w : World), (Instr.typeAssert o.val t 55 true).run Tryd.prog w = .ok (.tuple #[.agg #[.string ⟨#[]⟩, .nilIface, .nilIface], .bool false]) w := by
        intro t w
        cases o with
        | or s l r => exact absurd ⟨s, l, r, rfl⟩ hor
        | odd v =>
          rcases ho with h | ⟨t', x, h, h1, h2, h3, h4, h5, h6, h7, h8⟩
          · subst h; exact as_nil_Or _ _
          · subst h; exact as_no_Or _ h5 _ _ _
        | _ => exact as_no_Or _ (by decide) _ _ _
      have hown : o.ownL = [] := by
        cases o <;> first | rfl | exact absurd ⟨_, _, _, rfl⟩ hor
      have HOWN := Lib.hid hown
      clear hor hown
      skip
      go_enter Tryd.func45, Tryd.ntmps45
      skip
      go_wp2_with fail
      refine (hkd.out _).mono ?_
      intro e w4 hr
      obtain ⟨A, c, rfl, hrow, hb4, hnc⟩ := hr.open_
      clear hr
      go_wp2_with fail
      skip
      have hB4 : Below w.heap.size w w4 := by
        repeat (first | exact bl_refl _ | refine bl_alloc ?_ _ | refine bl_drew ?_ | refine bl_drewN ?_ _ | refine bl_step (by assumption) ?_)
      go_loopw [3, 22] (fun v i wr => ∃ k : Nat, k ≤ o.kids.length ∧ i = .int .i64 k ∧ Own w wr 9 1 v (catF o.ownL ((o.kids.map Tm.labels).take k)).length (strs (catF o.ownL ((o.kids.map Tm.labels).take k))) ∧ Below w.heap.size w wr ∧ RowAt 26 wr A (Tm.vals o.kids)) (fun _ i _ => o.kids.length - (intOf i).toNat)
      case atStart => exact ⟨0, Nat.zero_le _, rfl, (by rw [HOWN.out]; exact Own.nil _ _ _ _), hB4, hrow⟩
      case round =>
        clear hrow
        obtain ⟨k, hk, rfl, HO, HB, hrow⟩ := hrel
        have hlm := catF_take_le o.ownL (o.kids.map Tm.labels) k
        rw [HCAT.out] at hlm
        by_cases hlt : k < o.kids.length
        · obtain ⟨ad, e1, hcell⟩ := hrow.rd k (o.kids[k].val) (by simp [Tm.vals, hlt])
          have hrow := Lib.hid hrow
          subst e1
          have hmem := List.getElem_mem hlt
          have hkm' := hkm.out _ hmem
          have hih := Lib.hid (ih o.kids[k] (by omega) (by omega) (hko.out _ hmem))
          have d1 := (o.kids[k]).labels_meas
          have HT := Lib.hid (take_snoc' (o.kids.map Tm.labels) k (by simpa using hlt))
          simp only [List.getElem_map] at HT
          generalize o.kids[k] = y at *
          generalize (o.kids.map Tm.labels).take k = L at *
          generalize hCL : catF o.ownL L = cl at *
          have H5 := Lib.hid hCL
          generalize hyl : y.labels = yl at *
          have H6 := Lib.hid hyl
          have hll := strs_length cl
          clear hCL hyl hmem
          obtain ⟨A0, c0, rfl, _, hc0, _⟩ := HO.read
          go_wp2_with fail
          refine (hih.out _).mono ?_
          intro e w5 hq
          obtain ⟨v5, rfl, HO5, HB5⟩ := hq
          have HOk := HO.below HB5
          have HBk := bl_step HB5 HB
          have hrow5 := hrow.out.below HB5
          obtain ⟨A5, c5, rfl, hrd5, _, hl5⟩ := HO5.read
          clear HO HO5
          go_wp2_with (at_builtin; refine append_any (w0 := w) rfl _ _ 23 9 _ 1 16 rfl Tryd.underlying23 info_str rfl (by decide) _ _ _ A5 _ c5 (strs yl) HOk HBk hrd5 rfl rfl (by omega) (strs_one yl) (by omega) (by omega) ?_; intro v6 w6 HO6 HB6 HG6)
          have hrow6 := hrow5.grown HG6 (fun g cs hb => HOk.ne_blk hb (by decide))
          go_roundw
          case rel =>
            refine ⟨k + 1, by omega, by go_num, ?_, HB6, hrow6⟩
            rw [HT.out, catF_snoc, H5.out, strs_append, List.length_append]
            exact HO6
          case measure => simp [intOf]; omega
        · obtain rfl : k = o.kids.length := by omega
          clear hlt
          have t1 := List.take_of_length_le (l := o.kids.map Tm.labels) (i := o.kids.length) (by simp)
          rw [t1, HCAT.out] at HO
          clear t1
          go_wp2
          go_ret
          exact ⟨_, rfl, HO, HB⟩
def strAt (l : List ByteArray) (j : Nat) : ByteArray := l.getD j ⟨#[]⟩
theorem strAt_val (l : List ByteArray) (j : Nat) (h : j < l.length) : (strs l)[j]? = some (.string (strAt l j)) := by
  rw [strs_get l j h]; simp [strAt, h]
def eqTo (l : List ByteArray) (s : ByteArray) (j : Nat) : Bool := s.toList == (strAt l j).toList
set_option maxRecDepth 100000 in
set_option maxHeartbeats 1000000 in
theorem sindex_calls (A : Option Addr) (n c : Nat) (l : List ByteArray) (s : ByteArray) (hx : n ≤ l.length) (w : World) (hr : Rd w A (strs l)) (hn : n ≤ 140737488355328) :
    Calls Tryd.prog 70 #[.slice A n c, .string s] w (RetIdx w (eqTo l s) n) := by
  have HR := Lib.hid hr
  clear hr
  go_enter Tryd.func70, Tryd.ntmps70
  go_wp2
  go_loopw [8] (fun i wr => ∃ k : Nat, k ≤ n ∧ i = .int .i64 k ∧ Hid (∀ j, j < k → eqTo l s j = false) ∧ Below w.heap.size w wr) (fun i _ => n - (intOf i).toNat)
  case atStart => exact ⟨0, Nat.zero_le _, rfl, Lib.hid (fun j hj => by omega), bl_refl w⟩
  case round =>
    obtain ⟨k, hk, rfl, hno, hb⟩ := hrel
    by_cases hlt : k < n
    · have hxk := strAt_val l k (by omega)
      obtain ⟨ad, rfl, hcell⟩ := HR.out k _ hxk
      have hc2 := cell_below hb hcell
      clear hxk hcell
      have HV : Hid (eqTo l s k = (s.toList == (strAt l k).toList)) := rfl
      generalize strAt l k = x at *
      cases hpv : (s.toList == x.toList) with
      | true =>
        have HP := Lib.hid hpv
        go_wp2
        go_ret
        exact RetIdx.yes hlt (HV.out.trans HP.out) hno.out hb
      | false =>
        have HP := Lib.hid hpv
        go_wp2
        go_roundw
        case rel =>
          refine ⟨k + 1, by omega, by go_num, Lib.hid (fun j hj => ?_), hb⟩
          by_cases e : j = k
          · subst e; exact HV.out.trans HP.out
          · exact hno.out j (by omega)
        case measure => simp [intOf]; omega
    · obtain rfl : k = n := by omega
      go_wp2
      go_ret
      exact RetIdx.no hno.out hb
set_option maxRecDepth 100000 in
set_option maxHeartbeats 1000000 in
theorem scontains_calls (A : Option Addr) (n c : Nat) (l : List ByteArray) (s : ByteArray) (hx : n ≤ l.length) (w : World) (hr : Rd w A (strs l)) (hn : n ≤ 140737488355328) :
    Calls Tryd.prog 46 #[.slice A n c, .string s] w fun e w' => e = .returned (.bool (anyTo (eqTo l s) n)) ∧ Below w.heap.size w w' := by
  have hi := sindex_calls A n c l s hx w hr hn
  have HI := Lib.hid hi
  clear hr hi hx
  go_enter Tryd.func46, Tryd.ntmps46
  go_wp2_with (refine HI.out.mono ?_; intro e w1 hq; obtain ⟨r, rfl, h0, h1, h2, hb⟩ := hq)
  have H1 := Lib.hid h1; have H2 := Lib.hid h2
  clear h1 h2 HI
  by_cases hr : 0 ≤ r
  · go_wp2
    go_ret
    obtain ⟨j, hj, _, hpj, _⟩ := H2.out hr
    refine ⟨ret_boolS ?_, hb⟩
    rw [anyTo_true hj hpj]
    simpa using hr
  · go_wp2
    go_ret
    refine ⟨ret_boolS ?_, hb⟩
    rw [H1.out (by omega)]
    simpa using hr
end Go.Proofs.YtapbkomicihkkaaDoor
