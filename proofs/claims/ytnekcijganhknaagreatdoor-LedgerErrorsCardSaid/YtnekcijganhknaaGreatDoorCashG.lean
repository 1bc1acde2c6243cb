/- What a contract pays, and waits for: cash.Of. -/
import Derived.Test.YtnekcijganhknaaGreatDoorLgG
import Derived.Test.YtnekcijganhknaaGreatDoorRw
import Derived.Test.YtnekcijganhknaaGreatDoorWldG
import Derived.Test.YtnekcijganhknaaGreatDoorObsG
import Derived.Laws.StructEq
import Derived.BigQuiet
import Derived.Test.YtnekcijganhknaaGreatDoorValG
import Derived.Test.YtnekcijganhknaaGreatDoorSpG1
namespace Go.Proofs.YtnekcijganhknaaGreatDoor
open Go.RowKit
set_option linter.unusedVariables false
set_option linter.unusedSimpArgs false

def zeroFl : Value := .agg #[.int .i64 0, .string ⟨#[]⟩, .int .i64 0]
def zeroWt : Value := .agg #[.bool false, .string ⟨#[]⟩, .string ⟨#[]⟩, .int .i64 0, .int .i64 0]
theorem info_fl : (Tryz.prog.info? 70).map (fun i => (i.zero, i.size, i.bytes)) = some (some zeroFl, 3, 32) := by kernel_rfl
theorem info_wt : (Tryz.prog.info? 82).map (fun i => (i.zero, i.size, i.bytes)) = some (some zeroWt, 5, 56) := by kernel_rfl
def Fl.row (f : Fl) : List Value := [.int .i64 f.day, .string f.cur, .int .i64 f.amount]
def Wt.row (y : Wt) : List Value := [.bool y.choice, .string y.name, .string y.label, .int .i64 y.day, .int .i64 y.side]
theorem Fl.row_length (f : Fl) : f.row.length = 3 := rfl
theorem Wt.row_length (f : Wt) : f.row.length = 5 := rfl
theorem Fl.row_one (f : Fl) : ∀ u ∈ f.row, u.oneCell' = true := by
  intro u hu
  simp only [Fl.row, List.mem_cons, List.not_mem_nil, or_false] at hu
  rcases hu with rfl | rfl | rfl <;> rfl
theorem Wt.row_one (f : Wt) : ∀ u ∈ f.row, u.oneCell' = true := by
  intro u hu
  simp only [Wt.row, List.mem_cons, List.not_mem_nil, or_false] at hu
  rcases hu with rfl | rfl | rfl | rfl | rfl <;> rfl
def rowsF (l : List Fl) : List Value := l.flatMap Fl.row
def rowsW (l : List Wt) : List Value := l.flatMap Wt.row
theorem rowsF_length (l : List Fl) : (rowsF l).length = l.length * 3 := rows_length Fl.row_length l
theorem rowsW_length (l : List Wt) : (rowsW l).length = l.length * 5 := rows_length Wt.row_length l
theorem rowsF_one (l : List Fl) : ∀ u ∈ rowsF l, u.oneCell' = true := rows_one (fun x _ => x.row_one)
theorem rowsW_one (l : List Wt) : ∀ u ∈ rowsW l, u.oneCell' = true := rows_one (fun x _ => x.row_one)
/-- Payments, what is waited for: slices of one's own. -/
def FlAt (w0 W : World) (v : Value) (l : List Fl) : Prop := Own w0 W 70 3 v l.length (rowsF l)
def WtAt (w0 W : World) (v : Value) (l : List Wt) : Prop := Own w0 W 82 5 v l.length (rowsW l)
/-- The walk over a contract, in memory. -/
structure WkAt (w0 W : World) (g bw : Nat) (id : ByteArray) (x : Wk) : Prop where
  at_ : ∃ vf vw, Blk W g #[.string id, .pointer (some ⟨bw, 0, none⟩), vf, vw] 215 ∧ FlAt w0 W vf x.flows ∧ WtAt w0 W vw x.waits
  new : w0.heap.size ≤ g
theorem WkAt.below {w0 W W1 : World} {g bw : Nat} {id : ByteArray} {x : Wk} (h : WkAt w0 W g bw id x) (hb : Below W.heap.size W W1) : WkAt w0 W1 g bw id x := by
  obtain ⟨⟨vf, vw, h1, h2, h3⟩, h4⟩ := h
  exact ⟨⟨vf, vw, h1.below hb, Own.below h2 hb, Own.below h3 hb⟩, h4⟩
theorem WkAt.lt {w0 W : World} {g bw : Nat} {id : ByteArray} {x : Wk} (h : WkAt w0 W g bw id x) : g < W.heap.size := by
  obtain ⟨⟨vf, vw, h1, h2, h3⟩, h4⟩ := h
  exact h1.lt
/-- A payment more: the slice has grown, its cell is set. -/
theorem WkAt.flow {w0 W W1 : World} {g bw : Nat} {id : ByteArray} {x : Wk} {vf vw v1 : Value} {l : List Fl} (h1 : Blk W g #[.string id, .pointer (some ⟨bw, 0, none⟩), vf, vw] 215) (h2 : FlAt w0 W vf x.flows) (h3 : WtAt w0 W vw x.waits) (h4 : w0.heap.size ≤ g)
    (ho : FlAt w0 W1 v1 l) (hg : W.grownBy W1 vf.ownBlock) : WkAt w0 (W1.setCell ⟨g, 2, none⟩ v1) g bw id ⟨l, x.waits⟩ := by
  have hb := h1.kept_own h2 (by decide) hg
  have hw := Own.kept_ty h3 h2 (by decide) hg
  have hs : W1.grownBy (W1.setCell ⟨g, 2, none⟩ v1) (some g) := gb_set 2 v1
  exact ⟨⟨v1, vw, hb.set 2 v1, Own.kept ho hs (.inr (Own.ne_blk ho hb (by decide))), Own.kept hw hs (.inr (Own.ne_blk hw hb (by decide)))⟩, h4⟩
theorem WkAt.wait {w0 W W1 : World} {g bw : Nat} {id : ByteArray} {x : Wk} {vf vw v1 : Value} {l : List Wt} (h1 : Blk W g #[.string id, .pointer (some ⟨bw, 0, none⟩), vf, vw] 215) (h2 : FlAt w0 W vf x.flows) (h3 : WtAt w0 W vw x.waits) (h4 : w0.heap.size ≤ g)
    (ho : WtAt w0 W1 v1 l) (hg : W.grownBy W1 vw.ownBlock) : WkAt w0 (W1.setCell ⟨g, 3, none⟩ v1) g bw id ⟨x.flows, l⟩ := by
  have hb := h1.kept_own h3 (by decide) hg
  have hw := Own.kept_ty h2 h3 (by decide) hg
  have hs : W1.grownBy (W1.setCell ⟨g, 3, none⟩ v1) (some g) := gb_set 3 v1
  exact ⟨⟨vf, v1, hb.set 3 v1, Own.kept hw hs (.inr (Own.ne_blk hw hb (by decide))), Own.kept ho hs (.inr (Own.ne_blk ho hb (by decide)))⟩, h4⟩
/-- What a walk's step leaves. -/
def IntoPost (w0 : World) (g bw : Nat) (id : ByteArray) (q : Wk × Int) (en : Ending) (w' : World) : Prop := en = .returned (.int .i64 q.2) ∧ WkAt w0 w' g bw id q.1 ∧ Below w0.heap.size w0 w'
end Go.Proofs.YtnekcijganhknaaGreatDoor
namespace Go.Proofs.YtnekcijganhknaaGreatDoor
open Go.RowKit
set_option linter.unusedVariables false
set_option linter.unusedSimpArgs false

def wtV (y : Wt) : Value := .agg #[.bool y.choice, .string y.name, .string y.label, .int .i64 y.day, .int .i64 y.side]
theorem Wt.same_comm (a b : Wt) : a.same b = b.same a := by
  unfold Wt.same
  rw [Bool.eq_iff_iff]
  simp only [Bool.and_eq_true, beq_iff_eq]
  constructor <;> rintro ⟨h1, h2, h3, h4, h5⟩ <;> exact ⟨h1.symm, h2.symm, h3.symm, h4.symm, h5.symm⟩
theorem under_wt : Tryz.prog.underlying 82 = some (.struct (Tryz.prog.fieldsOf 82)) := by kernel_rfl
theorem eql_wt (a b : Wt) (w : World) : (binOp .eql 82 (wtV a) (wtV b)).run Tryz.prog w = .ok (.bool (a.same b)) w := by
  unfold wtV
  rw [run_eql_struct, run_equalIn_agg w 9999 _ _ _ under_wt (by kernel_rfl)]
  unfold Program.fieldsOf
  rw [Tryz.underlying82]
  have u1 := Tryz.underlying4
  have u2 := Tryz.underlying9
  have u3 := Tryz.underlying3
  simp [Op.eqFields, go_sem]
  unfold Wt.same
  repeat' split
  all_goals simp [*]
def eqW (l : List Wt) (y : Wt) (j : Nat) : Bool := match l[j]? with
  | some x => y.same x
  | none => false
set_option maxRecDepth 100000 in
set_option maxHeartbeats 1000000 in
theorem windex_calls (A : Option Addr) (n c : Nat) (l : List Wt) (y : Wt) (hx : n = l.length) (w : World) (hr : Rd w A (rowsW l)) (hn : n ≤ 1000000) :
    Calls Tryz.prog 194 #[.slice A n c, wtV y] w (RetIdx w (eqW l y) n) := by
  have HR := Lib.hid hr
  have HY := Lib.hid (Blk.new w y.row.toArray 82)
  have heq := fun x w => eql_wt y x w
  clear hr
  unfold wtV at *
  unfold Wt.row at *
  go_enter Tryz.func194, Tryz.ntmps194
  go_wp2
  have hB0 := bl_alloc (bl_refl w) (.cells #[.bool y.choice, .string y.name, .string y.label, .int .i64 y.day, .int .i64 y.side] 82)
  generalize (w.alloc (.cells #[.bool y.choice, .string y.name, .string y.label, .int .i64 y.day, .int .i64 y.side] 82)) = W0 at *
  have HB0 := Lib.hid hB0
  clear hB0
  go_loopw [8] (fun i wr => ∃ k : Nat, k ≤ n ∧ i = .int .i64 k ∧ Hid (∀ j, j < k → eqW l y j = false) ∧ Below W0.heap.size W0 wr) (fun i _ => n - (intOf i).toNat)
  case atStart => exact ⟨0, Nat.zero_le _, rfl, Lib.hid (fun j hj => by omega), bl_refl _⟩
  case round =>
    obtain ⟨k, hk, rfl, hno, hb⟩ := hrel
    by_cases hlt : k < n
    · have hxk : l[k]? = some l[k] := List.getElem?_eq_getElem (by omega)
      obtain ⟨ad, rfl⟩ := rows_ad Wt.row_length (by omega) HR.out hxk
      have hrow := (rows_rd Wt.row_length HR.out hxk).below (bl_step hb HB0.out)
      have HV : Hid (eqW l y k = y.same l[k]) := by show _ = _; unfold eqW; rw [hxk]
      generalize l[k] = x at *
      have hex := heq x
      have hy := HY.out.below hb
      have y0 := hy.cell 0; have y1 := hy.cell 1; have y2 := hy.cell 2; have y3 := hy.cell 3; have y4 := hy.cell 4
      clear hxk hy heq
      have HRW := Lib.hid hrow
      clear hrow
      generalize y.same x = q at *
      cases q with
      | true =>
        go_wp2
        refine wp_region_quiet_lit (by kernel_rfl) (by kernel_rfl) ?_
        repeat (first | go_big_quiet_step (fail) | (refine wpQuiet_load_rd rfl 82 _ rfl (ad.add (k * 5)) rfl [.bool x.choice, .string x.name, .string x.label, .int .i64 x.day, .int .i64 x.side] _ (fun _ hw => by obtain ⟨m, rfl⟩ := hw; exact HRW.out) Tryz.underlying82 rfl (by kernel_rfl) ?_; simp only [Act.put, List.setIfInBounds_toArray, List.set_cons_zero, List.set_cons_succ]))
        refine wpQuiet_nil ?_
        intro _ hw'
        obtain ⟨nq, hw''⟩ := hw'
        subst hw''
        go_wp2
        go_ret
        exact RetIdx.yes hlt HV.out hno.out (bl_drewN (bl_step hb HB0.out) _)
      | false =>
        go_wp2
        refine wp_region_quiet_lit (by kernel_rfl) (by kernel_rfl) ?_
        repeat (first | go_big_quiet_step (fail) | (refine wpQuiet_load_rd rfl 82 _ rfl (ad.add (k * 5)) rfl [.bool x.choice, .string x.name, .string x.label, .int .i64 x.day, .int .i64 x.side] _ (fun _ hw => by obtain ⟨m, rfl⟩ := hw; exact HRW.out) Tryz.underlying82 rfl (by kernel_rfl) ?_; simp only [Act.put, List.setIfInBounds_toArray, List.set_cons_zero, List.set_cons_succ]))
        refine wpQuiet_nil ?_
        intro _ hw'
        obtain ⟨nq, hw''⟩ := hw'
        subst hw''
        go_wp2
        go_roundw
        case rel =>
          refine ⟨k + 1, by omega, by go_num, Lib.hid (fun j hj => ?_), bl_drewN hb _⟩
          by_cases e : j = k
          · subst e; exact HV.out
          · exact hno.out j (by omega)
        case measure => simp [intOf]; omega
    · obtain rfl : k = n := by omega
      go_wp2
      go_ret
      exact RetIdx.no hno.out (bl_step hb HB0.out)
theorem anyTo_wt (l : List Wt) (y : Wt) : anyTo (eqW l y) l.length = l.any (·.same y) := by
  rw [Bool.eq_iff_iff]
  unfold anyTo
  simp only [List.any_eq_true, List.mem_range]
  constructor
  · rintro ⟨j, hj, h⟩
    refine ⟨l[j], List.getElem_mem hj, ?_⟩
    unfold eqW at h
    rw [List.getElem?_eq_getElem hj] at h
    rw [Wt.same_comm]; exact h
  · rintro ⟨x, hx, h⟩
    obtain ⟨j, hj, rfl⟩ := List.getElem_of_mem hx
    refine ⟨j, hj, ?_⟩
    unfold eqW
    rw [List.getElem?_eq_getElem hj, Wt.same_comm] at *
    exact h
set_option maxRecDepth 100000 in
set_option maxHeartbeats 1000000 in
theorem wcontains_calls (A : Option Addr) (n c : Nat) (l : List Wt) (y : Wt) (hx : n = l.length) (w : World) (hr : Rd w A (rowsW l)) (hn : n ≤ 1000000) :
    Calls Tryz.prog 175 #[.slice A n c, wtV y] w fun e w' => e = .returned (.bool (l.any (·.same y))) ∧ Below w.heap.size w w' := by
  have hi := windex_calls A n c l y hx _ (hr.below (bl_alloc (bl_refl w) (.cells #[.bool y.choice, .string y.name, .string y.label, .int .i64 y.day, .int .i64 y.side] 82))) hn
  have HE : Hid (anyTo (eqW l y) n = l.any (·.same y)) := by show _ = _; rw [hx]; exact anyTo_wt l y
  have HI := Lib.hid hi
  clear hr hi hx
  unfold wtV at *
  go_enter Tryz.func175, Tryz.ntmps175
  go_wp2_with (refine HI.out.mono ?_; intro e w1 hq; obtain ⟨r, rfl, h0, h1, h2, hb⟩ := hq)
  have H1 := Lib.hid h1; have H2 := Lib.hid h2
  clear h1 h2 HI
  have hB := bl_step hb (bl_alloc (bl_refl w) _)
  rw [← HE.out]
  by_cases hr : 0 ≤ r
  · go_wp2
    go_ret
    obtain ⟨j, hj, _, hpj, _⟩ := H2.out hr
    refine ⟨ret_boolS ?_, hB⟩
    rw [anyTo_true hj hpj]
    simpa using hr
  · go_wp2
    go_ret
    refine ⟨ret_boolS ?_, hB⟩
    rw [H1.out (by omega)]
    simpa using hr
end Go.Proofs.YtnekcijganhknaaGreatDoor
namespace Go.Proofs.YtnekcijganhknaaGreatDoor
open Go.RowKit
set_option linter.unusedVariables false
set_option linter.unusedSimpArgs false

theorem bs_wt (y : Wt) (W : World) : (Instr.buildSlice 74 1 #[(0, .agg #[.bool y.choice, .string y.name, .string y.label, .int .i64 y.day, .int .i64 y.side])]).run Tryz.prog W = .ok (.slice (some ⟨W.heap.size, 0, none⟩) 1 1) (W.alloc (.cells #[.bool y.choice, .string y.name, .string y.label, .int .i64 y.day, .int .i64 y.side] 82)) := by kernel_rfl
theorem eval_get {A : Act} {k : Nat} {v : Value} {l : List (Nat × Value)} (hN : Kn A l) (h : atK k l = some v) : A.eval (.tmp k) = v := by
  have := hN.get k h
  show A.tmps.getD k undef = _
  simpa using this
theorem Blk.rd0 {w : World} {g : Nat} {cs : List Value} {t : TypeId} (h : Blk w g cs.toArray t) : Rd w (some ⟨g, 0, none⟩) cs := by have := h.rd; simpa using this
/-- A row that stands apart from a slice stays as the slice grows. -/
theorem Blk.kept_new {w0 W0 W W1 : World} {g : Nat} {cs : Array Value} {t e : TypeId} {size n : Nat} {v : Value} {xs : List Value} (h : Blk W g cs t) (ho : Own w0 W0 e size v n xs) (hg : W0.heap.size ≤ g) (hgr : W.grownBy W1 v.ownBlock) : Blk W1 g cs t :=
  h.grown hgr (fun e => by have := ho.lt e; omega)
/-- What holds neither a walk nor what is waited for stays. -/
def KeepC (w w' : World) : Prop := ∀ b cs t, t ≠ 215 → t ≠ 82 → Blk w b cs t → Blk w' b cs t
theorem KeepC.refl (w : World) : KeepC w w := fun _ _ _ _ _ h => h
theorem KeepC.below {w W W1 : World} (h : KeepC w W) (hb : Below W.heap.size W W1) : KeepC w W1 := fun b cs t h1 h2 hk => (h b cs t h1 h2 hk).below hb
theorem KeepC.own {w w0 W W1 : World} {n : Nat} {v : Value} {xs : List Value} (h : KeepC w W) (ho : Own w0 W 82 5 v n xs) (hg : W.grownBy W1 v.ownBlock) : KeepC w W1 := fun b cs t h1 h2 hk => (h b cs t h1 h2 hk).kept_own ho h2 hg
theorem KeepC.set {w W : World} {g : Nat} {cs : Array Value} (h : KeepC w W) (hg : Blk W g cs 215) (j : Nat) (v : Value) : KeepC w (W.setCell ⟨g, j, none⟩ v) := fun b cs' t h1 h2 hk => by
  have hb := h b cs' t h1 h2 hk
  refine hb.far _ (fun e => h1 ?_) _
  subst e
  unfold Blk at hb hg
  rw [hg] at hb
  injection hb with hb
  injection hb with _ e
  exact e.symm
theorem wait_len (x : Wk) (y : Wt) : (x.wait y).waits.length ≤ x.waits.length + 1 := by unfold Wk.wait; split <;> simp
theorem waitN_len (d : Int) : ∀ (l : List ByteArray) (x : Wk), (x.waitN d l).waits.length ≤ x.waits.length + l.length
  | [], x => Nat.le_refl _
  | s :: l, x => by
    have h1 := waitN_len d l (x.wait ⟨false, s, ⟨#[]⟩, d, 0⟩)
    have h2 := wait_len x ⟨false, s, ⟨#[]⟩, d, 0⟩
    rw [List.length_cons]
    show ((x.wait _).waitN d l).waits.length ≤ _
    omega
set_option maxRecDepth 100000 in
set_option maxHeartbeats 4000000 in
theorem wwait_calls (w0 : World) (g bw : Nat) (id : ByteArray) (x : Wk) (d : Int) (l : List ByteArray) (v : Value) (hl : l.length ≤ 1000) (hx : x.waits.length ≤ 1000) (w : World) (h : WkAt w0 w g bw id x) (hb : Below w0.heap.size w0 w) (ho : Own w0 w 9 1 v l.length (strs l)) :
    Calls Tryz.prog 162 #[.pointer (some ⟨g, 0, none⟩), .int .i64 d, v] w fun e w' => (∃ rv, e = .returned rv) ∧ WkAt w0 w' g bw id (x.waitN d l) ∧ Below w0.heap.size w0 w' ∧ KeepC w w' := by
  obtain ⟨A, c, rfl, hrd, -, -⟩ := ho.read
  have H := Lib.hid h; have HB := Lib.hid hb; have HO := Lib.hid ho; have HX := Lib.hid hx
  clear h hb ho hrd hx
  go_enter Tryz.func162, Tryz.ntmps162
  go_wp2_with fail
  go_loopw [7, 8, 11] (fun s y i wr => ∃ (j : Nat), j ≤ l.length ∧ i = .int .i64 j ∧ WkAt w0 wr g bw id (x.waitN d (l.take j)) ∧ Below w0.heap.size w0 wr ∧ Own w0 wr 9 1 (.slice A l.length c) l.length (strs l) ∧ KeepC w wr) (fun _ _ i _ => l.length - (intOf i).toNat)
  case atStart => exact ⟨0, Nat.zero_le _, rfl, H.out, HB.out, HO.out, KeepC.refl _⟩
  case round =>
    obtain ⟨j, hj, rfl, hW, hB, hO, hKC⟩ := hrel
    have HKC := Lib.hid hKC
    clear hKC
    by_cases hlt : j < l.length
    · obtain ⟨A', c', e', hrd, -, -⟩ := hO.read
      cases e'
      obtain ⟨ad, e1, hcell⟩ := hrd j _ (strs_get l j hlt)
      subst e1
      have HT := Lib.hid (take_snoc' l j hlt)
      have hsz : (x.waitN d (l.take j)).waits.length ≤ 2000 := by
        have h1 := waitN_len d (l.take j) x
        have h2 : (l.take j).length ≤ 1000 := by rw [List.length_take]; omega
        have h3 := HX.out
        omega
      generalize l[j] = s at *
      have HN : Hid (x.waitN d (l.take (j + 1)) = (x.waitN d (l.take j)).wait ⟨false, s, ⟨#[]⟩, d, 0⟩) := by
        show _ = _
        rw [HT.out]
        unfold Wk.waitN
        rw [List.foldl_append]
        rfl
      generalize x.waitN d (l.take j) = X at *
      obtain ⟨⟨vf, vw, hk, hf, hw⟩, hnew⟩ := hW
      obtain ⟨A2, c2, rfl, hrd2, hc2, -⟩ := Own.read hw
      have hgt := hk.lt
      have HR2 := Lib.hid hrd2; have HK := Lib.hid hk; have HF := Lib.hid hf; have HW := Lib.hid hw; have HBr := Lib.hid hB; have HOr := Lib.hid hO
      clear hk hf hw hrd hrd2 hB hO hc2
      go_wp2_with fail
      obtain ⟨W4, hW4⟩ : ∃ W4, wr.alloc (.cells #[.bool false, .string s, .string ⟨#[]⟩, .int .i64 d, .int .i64 0] 82) = W4 := ⟨_, rfl⟩
      have hb4 : Below wr.heap.size wr W4 := by rw [← hW4]; exact bl_alloc (bl_refl _) _
      have hk4 : Blk W4 wr.heap.size #[.bool false, .string s, .string ⟨#[]⟩, .int .i64 d, .int .i64 0] 82 := by rw [← hW4]; exact Blk.new _ _ _
      have hg4 := HK.out.below hb4
      rw [hW4]
      have HB4 := Lib.hid hb4; have HK4 := Lib.hid hk4; have HG4 := Lib.hid hg4
      clear hW4 hb4 hk4 hg4
      refine wp_region_noPanic ?_
      refine wp_region_held_drew (S := fun w' => w'.cell? ⟨g, 3, none⟩ = some (.slice A2 X.waits.length c2) ∧ Rd w' (some ⟨wr.heap.size, 0, none⟩) [.bool false, .string s, .string ⟨#[]⟩, .int .i64 d, .int .i64 0]) (by kernel_rfl) ⟨HG4.out.cell 3, HK4.out.rd0⟩ (fun hHeld => ?_)
      refine wpAnyH_world (fun W => Below W4.heap.size W4 W) (bl_drew (bl_refl _)) (fun W5 hb5 => ?_)
      refine wpAnyH_lst #[false, false, false, false, false, false, false] (by rfl) ?_
      clear hHeld
      refine wpAnyH_named (fun A0 hA0 => ?_)
      have HA0 := Lib.hid hA0
      refine sp_in A0 [18, 19, 20, 21, 22, 23, 24] 36 [(0, .pointer (some ⟨g, 0, none⟩)), (8, .pointer (some ⟨wr.heap.size, 0, none⟩))] (by rw [hA0]; rfl) ⟨(HG4.out.below hb5).cell 3, (HK4.out.below hb5).rd0⟩ (by rw [hA0]; exact ⟨rfl, rfl, trivial⟩) ?_
      clear hA0
      refine st 0 [0] rfl ?_
      refine slr 4 8 rfl ⟨wr.heap.size, 0, none⟩ [.bool false, .string s, .string ⟨#[]⟩, .int .i64 d, .int .i64 0] _ (fun _ h => h.2) Tryz.underlying82 (by kernel_rfl) ?_
      refine st 1 [18] rfl ?_
      refine st 2 [19] rfl ?_
      refine st 3 [20] rfl ?_
      refine sr 5 (sc 5 [21, 22] rfl (show Calls Tryz.prog 175 #[.slice A2 X.waits.length c2, .agg #[.bool false, .string s, .string ⟨#[]⟩, .int .i64 d, .int .i64 0]] W5 _ from wcontains_calls A2 X.waits.length c2 X.waits ⟨false, s, ⟨#[]⟩, d, 0⟩ rfl W5 (HR2.out.below (bl_step hb5 HB4.out)) (by omega)) ?_)
      rintro e W6 ⟨rfl, hb6⟩
      refine ⟨_, rfl, ⟨(HG4.out.below (bl_step hb6 hb5)).cell 3, (HK4.out.below (bl_step hb6 hb5)).rd0⟩, ?_⟩
      refine st (v := .bool (!X.waits.any (·.same ⟨false, s, ⟨#[]⟩, d, 0⟩))) 6 [23] rfl ?_
      refine sp_done (fun A hO hN hS => NoPanic.normal ?_)
      obtain ⟨fo, hfo⟩ := hO.lit HA0.out
      have g24 := hN.get 24 rfl
      clear hO hN
      dsimp only [putL, List.set_cons_zero, List.set_cons_succ] at hfo
      subst hfo
      have g24 : fo 24 = .bool (!X.waits.any (·.same ⟨false, s, ⟨#[]⟩, d, 0⟩)) := g24
      have HB6 := Lib.hid (bl_step hb6 (bl_step hb5 HB4.out)); have HB46 := Lib.hid (bl_step hb6 hb5)
      clear hb6 hb5 hS
      have HB6' := Lib.hid (bl_step HB6.out HBr.out)
      cases hq : X.waits.any (·.same ⟨false, s, ⟨#[]⟩, d, 0⟩) with
      | true =>
        have HN2 : Hid (x.waitN d (l.take (j + 1)) = X) := by show _ = _; rw [HN.out]; unfold Wk.wait; rw [hq]; rfl
        have h6 : WkAt w0 W6 g bw id X := ⟨⟨vf, _, HG4.out.below HB46.out, Own.below HF.out HB6.out, Own.below HW.out HB6.out⟩, hnew⟩
        have H6 := Lib.hid h6
        clear h6
        rw [hq] at g24
        clear hq
        go_wp2_with fail
        go_roundw
        case rel =>
          refine ⟨j + 1, by omega, by go_num, ?_, HB6'.out, HOr.out.below HB6.out, HKC.out.below HB6.out⟩
          rw [HN2.out]
          exact H6.out
        case measure => simp [intOf]; omega
      | false =>
        have HN2 : Hid (x.waitN d (l.take (j + 1)) = ⟨X.flows, X.waits ++ [⟨false, s, ⟨#[]⟩, d, 0⟩]⟩) := by show _ = _; rw [HN.out]; unfold Wk.wait; rw [hq]; rfl
        rw [hq] at g24
        clear hq
        have hg6 := HG4.out.below HB46.out
        have hk6 := HK4.out.below HB46.out
        have hbs := bs_wt ⟨false, s, ⟨#[]⟩, d, 0⟩
        have hl6 : W6.heap.size ≤ W6.heap.size := Nat.le_refl _
        go_upto_region 5 with fail
        refine wp_region_noPanic ?_
        refine gt_in 10 (fun w' => w'.cell? ⟨g, 3, none⟩ = some (.slice A2 X.waits.length c2) ∧ Rd w' (some ⟨wr.heap.size, 0, none⟩) [.bool false, .string s, .string ⟨#[]⟩, .int .i64 d, .int .i64 0]) [25, 26, 27, 28, 29, 30, 31, 32, 33, 34] 36 [(0, .pointer (some ⟨g, 0, none⟩)), (8, .pointer (some ⟨wr.heap.size, 0, none⟩))] (by kernel_rfl) ⟨hg6.cell 3, hk6.rd0⟩ (fun A0 hA0 => ⟨by rw [hA0]; rfl, by rw [hA0]; exact ⟨rfl, rfl, trivial⟩, fun W7 hbW hCW => ?_⟩)
        refine gt_lst (lst := #[false, false, false, false, false, false, false, false, false, false, false]) (by rfl) ?_
        have HA0 := Lib.hid hA0
        clear hA0
        refine gt 0 [0] rfl ?_
        refine gt 1 [0] rfl ?_
        refine gl 5 8 rfl ⟨wr.heap.size, 0, none⟩ [.bool false, .string s, .string ⟨#[]⟩, .int .i64 d, .int .i64 0] _ (fun _ h => h.2) Tryz.underlying82 (by kernel_rfl) ?_
        refine gt 2 [26] rfl ?_
        refine gt 3 [27] rfl ?_
        refine gt 4 [28] rfl ?_
        refine gr 6 (gx 6 [30] rfl (w' := W7.alloc (.cells #[.bool false, .string s, .string ⟨#[]⟩, .int .i64 d, .int .i64 0] 82)) (v := .slice (some ⟨W7.heap.size, 0, none⟩) 1 1) ⟨(hg6.below (bl_alloc hbW _)).cell 3, (hk6.below (bl_alloc hbW _)).rd0⟩ ?_)
        refine gr 7 (gop 7 rfl rfl (fun A hN hC K hK => ?_))
        refine append_anyW (w0 := w0) _ _ 74 82 _ 5 56 rfl Tryz.underlying74 info_wt rfl (by decide) _ X.waits.length (rowsW X.waits) (some ⟨W7.heap.size, 0, none⟩) 1 1 [.bool false, .string s, .string ⟨#[]⟩, .int .i64 d, .int .i64 0] ((Own.below HW.out HB6.out).below (bl_alloc hbW _)) (bl_alloc (bl_step hbW HB6'.out) _) (Blk.new W7 #[.bool false, .string s, .string ⟨#[]⟩, .int .i64 d, .int .i64 0] 82).rd0 (eval_get hN rfl) (eval_get hN rfl) rfl (Wt.row_one ⟨false, s, ⟨#[]⟩, d, 0⟩) (by omega) (by omega) ?_
        intro v1 W8 HO8 HB8 HG8
        obtain ⟨A8, c8, rfl, -, -, -⟩ := HO8.read
        have hg8 := (hg6.below (bl_alloc hbW _)).kept_own ((Own.below HW.out HB6.out).below (bl_alloc hbW _)) (by decide) HG8
        refine hK _ _ ⟨hg8.cell 3, ((hk6.below (bl_alloc hbW _)).kept_new HW.out (Nat.le_refl _) HG8).rd0⟩ ?_
        have g8c := hg8.cell 3; have g8f := hg8.frozen 3
        clear hK K hN hC
        refine gtp 8 [25] rfl ?_
        refine gt 9 [33] rfl ?_
        refine gr 10 (glast [34, 32] rfl (w' := W8.setCell ⟨g, 3, none⟩ (.slice A8 (X.waits.length + 1) c8)) (fun A hO hN => NoPanic.normal ?_))
        obtain ⟨fo, hfo⟩ := hO.lit HA0.out
        clear hO hN
        dsimp only [putL, List.set_cons_zero, List.set_cons_succ] at hfo
        subst hfo
        have h9 := WkAt.wait (l := X.waits ++ [⟨false, s, ⟨#[]⟩, d, 0⟩]) (hg6.below (bl_alloc hbW (.cells #[.bool false, .string s, .string ⟨#[]⟩, .int .i64 d, .int .i64 0] 82))) ((Own.below HF.out HB6.out).below (bl_alloc hbW _)) ((Own.below HW.out HB6.out).below (bl_alloc hbW _)) hnew (by have h := HO8; unfold WtAt rowsW at *; rw [List.length_append]; rw [rows_snoc]; exact h) HG8
        have hO8 := Own.kept_ty ((HOr.out.below HB6.out).below (bl_alloc hbW _)) ((Own.below HW.out HB6.out).below (bl_alloc hbW (.cells #[.bool false, .string s, .string ⟨#[]⟩, .int .i64 d, .int .i64 0] 82))) (by decide) HG8
        have hO9 : Own w0 (W8.setCell ⟨g, 3, none⟩ (.slice A8 (X.waits.length + 1) c8)) 9 1 (.slice (some ad) l.length c) l.length (strs l) := Own.kept hO8 (gb_set 3 _) (.inr (hO8.ne_blk hg8 (by decide)))
        have hB9 : Below w0.heap.size w0 (W8.setCell ⟨g, 3, none⟩ (.slice A8 (X.waits.length + 1) c8)) := bl_grown HB8 (gb_set 3 _) hnew
        have HK9 := Lib.hid ((((HKC.out.below HB6.out).below (bl_alloc hbW (.cells #[.bool false, .string s, .string ⟨#[]⟩, .int .i64 d, .int .i64 0] 82))).own ((Own.below HW.out HB6.out).below (bl_alloc hbW (.cells #[.bool false, .string s, .string ⟨#[]⟩, .int .i64 d, .int .i64 0] 82))) HG8).set hg8 3 (.slice A8 (X.waits.length + 1) c8))
        have H9 := Lib.hid h9; have HB9 := Lib.hid hB9; have HO9 := Lib.hid hO9
        clear hO8 hB9 g8c g8f hg8
        clear h9 hO9 HO8 HB8 HG8 hbW hCW hbs
        go_wp2_with fail
        go_roundw
        case rel =>
          refine ⟨j + 1, by omega, by go_num, ?_, HB9.out, HO9.out, HK9.out⟩
          rw [HN2.out]
          exact H9.out
        case measure => simp [intOf]; omega
    · obtain rfl : j = l.length := by omega
      rw [List.take_length] at hW
      go_wp2
      go_end0
      exact ⟨⟨_, rfl⟩, hW, hB, HKC.out⟩
end Go.Proofs.YtnekcijganhknaaGreatDoor
namespace Go.Proofs.YtnekcijganhknaaGreatDoor
open Go.RowKit
set_option linter.unusedVariables false
set_option linter.unusedSimpArgs false

theorem In64.of_day {d : Int} (h : dayB d = true) : In64 d := by unfold dayB at h; unfold In64; simp at h; omega
theorem In64.of_valid {d : Int} (h : validB d = true) : In64 d := by unfold validB at h; unfold In64; simp at h; omega
/-- What is known, as the walk over a contract finds it. -/
structure Known (wz w0 : World) (bw g1 g2 : Nat) (D : Wd) : Prop where
  at_ : WdAt wz w0 bw g1 g2 D
  ok : D.ok2
def NumPost (w0 w : World) (g bw : Nat) (id : ByteArray) (p : Wk × (Option Int × Int)) (en : Ending) (w' : World) : Prop := en = .returned (.tuple #[.int .i64 (knN p.2.1), .bool p.2.1.isSome, .int .i64 p.2.2]) ∧ WkAt w0 w' g bw id p.1 ∧ Below w0.heap.size w0 w' ∧ KeepC w w'
set_option maxRecDepth 100000 in
set_option maxHeartbeats 4000000 in
theorem cnum_calls {wz w0 : World} {bw g1 g2 : Nat} {D : Wd} (hD : Known wz w0 bw g1 g2 D) (g : Nat) (id : ByteArray) (x : Wk) (m : Nat) (hx : x.ok m) (hm : m ≤ 900) (o : Ob) (hf : o.fits) (ho : o.ok) (d : Int) (hd : dayB d = true) (w : World) (h : WkAt w0 w g bw id x) (hb : Below w0.heap.size w0 w) :
    Calls Tryz.prog 152 #[.pointer (some ⟨g, 0, none⟩), o.val, .int .i64 d] w (NumPost w0 w g bw id (x.number D o d)) := by
  have hv := fun W (hW : Below w0.heap.size w0 W) => vOf_calls wz bw g1 g2 D d (In64.of_day hd) o hf ho W (hD.at_.below hW)
  have hn := fun W (hW : Below w0.heap.size w0 W) => needs_calls wz bw g1 g2 D d (In64.of_day hd) o hf ho W (hD.at_.below hW)
  have hln : (o.needs D d).length ≤ 60 := Nat.le_trans (o.needs_len D d) hf.2.1
  have HN : Hid (x.number D o d = if (o.value D d).2 = 0 ∧ (o.value D d).1 = none then (x.waitN d (o.needs D d), (none, 0)) else (x, o.value D d)) := rfl
  have hwt := hx.wt
  generalize x.number D o d = p at *
  generalize o.value D d = q at *
  generalize o.needs D d = nd at *
  unfold RetN at hv
  unfold NumPost
  have HV := Lib.hid hv; have HNC := Lib.hid hn; have H := Lib.hid h; have HB := Lib.hid hb
  obtain ⟨⟨vf, vw, hk, hfl, hw⟩, hnew⟩ := h
  have c1 := hk.cell 1
  have HK := Lib.hid hk
  clear hv hn hfl hw hk hf hx hb
  obtain ⟨qo, qe⟩ := q
  by_cases hq : qe = 0 ∧ qo = none
  · obtain ⟨rfl, rfl⟩ := hq
    have HP : Hid (p = (x.waitN d nd, (none, 0))) := HN.out.trans (if_pos ⟨rfl, rfl⟩)
    rw [HP.out]
    clear HN HP
    have hkn : knN none = 0 := rfl
    have hiS : (none : Option Int).isSome = false := rfl
    simp only [hkn, hiS] at HV ⊢
    clear hkn hiS
    go_enter Tryz.func152, Tryz.ntmps152
    go_wp2_with fail
    refine (HV.out _ HB.out).mono ?_
    rintro e w1 ⟨rfl, hb1⟩
    have hB1 := bl_step hb1 HB.out
    have c12 := (HK.out.below hb1).cell 1
    have HB1 := Lib.hid hB1; have HH1 := Lib.hid (H.out.below hb1); have HBL1 := Lib.hid hb1
    clear hB1 hb1
    go_wp2_with fail
    refine (HNC.out _ HB1.out).mono ?_
    intro e w2 hs; obtain ⟨v, rfl, hO, hb2⟩ := hs
    go_wp2_with fail
    refine (wwait_calls w0 g bw id x d nd v (by omega) (by omega) _ (HH1.out.below hb2) (bl_step hb2 HB1.out) (hO.rebase HB1.out.size)).mono ?_
    rintro e w3 ⟨⟨rv, rfl⟩, hw3, hb3, hk3⟩
    have HK3 := Lib.hid (fun b cs t (h1 : t ≠ _) (h2 : t ≠ _) (hk : Blk w b cs t) => hk3 b cs t h1 h2 (((KeepC.refl w).below HBL1.out |>.below hb2) b cs t h1 h2 hk))
    have HW3 := Lib.hid hw3; have HB3 := Lib.hid hb3
    clear hw3 hb3 hO hb2 hk3
    go_wp2_with fail
    go_ret3
    exact ⟨rfl, HW3.out, HB3.out, HK3.out⟩
  · have HP : Hid (p = (x, (qo, qe))) := HN.out.trans (if_neg hq)
    rw [HP.out]
    clear HN HP
    dsimp only at HV ⊢
    by_cases he : qe = 0
    · subst he
      cases qo with
      | none => exact absurd ⟨rfl, rfl⟩ hq
      | some z =>
        clear hq
        have hiS : (some z).isSome = true := rfl
        rw [hiS] at HV ⊢
        generalize knN (some z) = n at *
        clear hiS
        go_enter Tryz.func152, Tryz.ntmps152
        go_wp2_with fail
        refine (HV.out _ HB.out).mono ?_
        rintro e w1 ⟨rfl, hb1⟩
        have HB1 := Lib.hid hb1
        clear hb1
        go_wp2_with fail
        go_ret3
        exact ⟨rfl, H.out.below HB1.out, bl_step HB1.out HB.out, (KeepC.refl w).below HB1.out⟩
    · have heb : (qe == 0) = false := by simp [he]
      generalize knN qo = n at *
      generalize qo.isSome = b at *
      clear hq he
      go_enter Tryz.func152, Tryz.ntmps152
      go_wp2_with fail
      refine (HV.out _ HB.out).mono ?_
      rintro e w1 ⟨rfl, hb1⟩
      have HB1 := Lib.hid hb1
      clear hb1
      go_wp2_with fail
      go_ret3
      exact ⟨rfl, H.out.below HB1.out, bl_step HB1.out HB.out, (KeepC.refl w).below HB1.out⟩
/-- A contract's part is walked as the model says. -/
def IntoOk (w0 : World) (bw : Nat) (D : Wd) (g : Nat) (id : ByteArray) (t : Tm) : Prop := ∀ (d k : Int) (x : Wk) (m : Nat) (w : World), dayB d = true → validB k = true → x.ok m → m + t.nodes ≤ 900 → WkAt w0 w g bw id x → Below w0.heap.size w0 w →
  Calls Tryz.prog 118 #[.pointer (some ⟨g, 0, none⟩), t.val, .int .i64 d, .int .i64 k] w (IntoPost w0 g bw id (t.into id D d k x))
section
variable {wz w0 : World} {bw g1 g2 g : Nat} {D : Wd} {id : ByteArray}
set_option maxRecDepth 100000 in
set_option maxHeartbeats 4000000 in
theorem both_calls (hD : Known wz w0 bw g1 g2 D) (l r : Tm) (hl : IntoOk w0 bw D g id l) (hr : IntoOk w0 bw D g id r) (hfl : l.fits) (d k : Int) (x : Wk) (m : Nat) (w : World) (hd : dayB d = true) (hk : validB k = true) (hx : x.ok m) (hm : m + (l.nodes + r.nodes) ≤ 900) (h : WkAt w0 w g bw id x) (hb : Below w0.heap.size w0 w) :
    Calls Tryz.prog 135 #[.pointer (some ⟨g, 0, none⟩), l.val, r.val, .int .i64 d, .int .i64 k] w (IntoPost w0 g bw id (Tm.into id D (.and l r) d k x)) := by
  have h1 := hl d k x m w hd hk hx (by omega) h hb
  have hx1 := Tm.into_ok id hD.ok l hfl.1 d k x m hd hk hx
  have HA : Hid (Tm.into id D (.and l r) d k x = if (l.into id D d k x).2 ≠ 0 then l.into id D d k x else r.into id D d k (l.into id D d k x).1) := rfl
  have hr1 := hr d k (l.into id D d k x).1 (m + l.nodes)
  generalize Tm.into id D (.and l r) d k x = p at *
  generalize l.into id D d k x = q at *
  unfold IntoPost at *
  by_cases hq : q.2 = 0
  · have HP : Hid (p = r.into id D d k q.1) := HA.out.trans (if_neg (by simp [hq]))
    rw [HP.out]
    rw [hq] at h1
    have H1 := Lib.hid h1; have HR := Lib.hid hr1; have HXX := Lib.hid hx1; have HM := Lib.hid hm; have HDK := Lib.hid (And.intro hd hk)
    clear h1 hr1 hx1 HP HA hq hl hr h hb hm hfl hx hd hk
    go_enter Tryz.func135, Tryz.ntmps135
    go_wp2_with fail
    refine (H1.out).mono ?_
    rintro e w1 ⟨rfl, hw1, hb1⟩
    go_wp2_with fail
    refine (HR.out w1 HDK.out.1 HDK.out.2 HXX.out (by have := HM.out; omega) hw1 hb1).mono ?_
    rintro e w2 ⟨rfl, hw2, hb2⟩
    have HW2 := Lib.hid hw2; have HB2 := Lib.hid hb2
    clear hw2 hb2 hw1 hb1
    go_wp2_with fail
    go_ret
    exact ⟨rfl, HW2.out, HB2.out⟩
  · have HP : Hid (p = q) := HA.out.trans (if_pos hq)
    rw [HP.out]
    have hqb : (q.2 != 0) = true := by simp [hq]
    have H1 := Lib.hid h1
    clear h1 hr1 hx1 HP HA hq hl hr h hb hm hfl hx hd hk
    obtain ⟨q1, q2⟩ := q
    dsimp only at *
    go_enter Tryz.func135, Tryz.ntmps135
    go_wp2_with fail
    refine (H1.out).mono ?_
    rintro e w1 ⟨rfl, hw1, hb1⟩
    have HW1 := Lib.hid hw1; have HB1 := Lib.hid hb1
    clear hw1 hb1
    go_wp2_with fail
    go_ret
    exact ⟨rfl, HW1.out, HB1.out⟩
end
end Go.Proofs.YtnekcijganhknaaGreatDoor
namespace Go.Proofs.YtnekcijganhknaaGreatDoor
open Go.RowKit
set_option linter.unusedVariables false
set_option linter.unusedSimpArgs false

def scaleF (id : ByteArray) (D : Wd) (t : Tm) (d k : Int) : Wk × (Option Int × Int) → Wk × Int
  | (y, (some n, 0)) => match mulC k n with
    | none => (y, 6)
    | some m => if m = 0 then (y, 0) else t.into id D d m y
  | (y, (_, e)) => (y, e)
def testF (id : ByteArray) (D : Wd) (l r : Tm) (d k : Int) : Wk × (Option Int × Int) → Wk × Int
  | (y, (some n, 0)) => if 0 < n then l.into id D d k y else r.into id D d k y
  | (y, (_, e)) => (y, e)
section
variable {id : ByteArray} {D : Wd} {l r t : Tm} {d k e : Int} {y : Wk} {q : Option Int}
theorem scaleF_err (he : e ≠ 0) : scaleF id D t d k (y, (q, e)) = (y, e) := by
  unfold scaleF
  split
  · rename_i h; cases h; exact absurd rfl he
  · rename_i h; cases h; rfl
theorem testF_err (he : e ≠ 0) : testF id D l r d k (y, (q, e)) = (y, e) := by
  unfold testF
  split
  · rename_i h; cases h; exact absurd rfl he
  · rename_i h; cases h; rfl
end
section
variable {wz w0 : World} {bw g1 g2 g : Nat} {D : Wd} {id : ByteArray}
set_option maxRecDepth 100000 in
set_option maxHeartbeats 4000000 in
theorem scale_calls (hD : Known wz w0 bw g1 g2 D) (o : Ob) (t : Tm) (ho : o.ok) (hto : t.ok) (hfo : o.fits) (ht : IntoOk w0 bw D g id t) (d k : Int) (x : Wk) (m : Nat) (w : World) (hd : dayB d = true) (hk : validB k = true) (hx : x.ok m) (hm : m + (o.nodes + t.nodes) ≤ 900) (h : WkAt w0 w g bw id x) (hb : Below w0.heap.size w0 w) :
    Calls Tryz.prog 136 #[.pointer (some ⟨g, 0, none⟩), .agg #[o.val, t.val], .int .i64 d, .int .i64 k] w (IntoPost w0 g bw id (Tm.into id D (.scale o t) d k x)) := by
  have el1 := o.cells_ ho; have er1 := t.cells_ hto; have el2 := o.one_ ho; have er2 := t.one_ hto
  obtain ⟨W1, hW1⟩ : ∃ W1, w.alloc (.cells #[o.val, t.val] 32) = W1 := ⟨_, rfl⟩
  have hb1 : Below w.heap.size w W1 := by rw [← hW1]; exact bl_alloc (bl_refl w) _
  have hk1 : Blk W1 w.heap.size #[o.val, t.val] 32 := by rw [← hW1]; exact Blk.new w _ _
  have hn := cnum_calls hD g id x m hx (by omega) o hfo ho d hd W1 (h.below hb1) (bl_step hb1 hb)
  have hnv := fun y n e => Wk.number_valid hD.ok.1 (x := x) (y := y) hfo.1 (d := d) (n := n) (e := e)
  have hxo := Wk.number_ok (W := D) hx o d
  have HA : Hid (Tm.into id D (.scale o t) d k x = scaleF id D t d k (x.number D o d)) := rfl
  have htd := fun k' y w' => ht d k' y (m + o.nodes) w' hd
  generalize Tm.into id D (.scale o t) d k x = p at *
  generalize x.number D o d = q at *
  have c0 := hk1.cell 0; have c1 := hk1.cell 1; have f0 := hk1.frozen 0; have f1 := hk1.frozen 1
  unfold IntoPost NumPost at *
  have HN := Lib.hid hn; have HT := Lib.hid htd; have HXO := Lib.hid hxo; have HM := Lib.hid hm; have HW1 := Lib.hid hW1; have HK1 := Lib.hid hk1; have HKV := Lib.hid hk; have HNV := Lib.hid hnv
  clear hn ht htd hxo hm hW1 hk1 hb1 hk hnv h hb hx
  obtain ⟨y, qo, qe⟩ := q
  by_cases he : qe = 0
  · subst he
    cases qo with
    | none =>
      have HP : Hid (p = (y, 0)) := HA.out
      rw [HP.out]
      have hkn : knN none = 0 := rfl
      simp only [hkn, Option.isSome_none] at HN ⊢
      clear HA HP hkn HNV
      go_enter Tryz.func136, Tryz.ntmps136
      go_upto_region 1 with fail
      rw [HW1.out]
      go_wp2_with fail
      refine (HN.out).mono ?_
      rintro e w2 ⟨rfl, hw2, hb2, hk2⟩
      have hk4 := hk2 _ _ _ (by decide) (by decide) HK1.out
      have HW2 := Lib.hid hw2; have HB2 := Lib.hid hb2; have HK4 := Lib.hid hk4
      clear hw2 hb2 hk2 hk4
      go_wp2_with fail
      go_ret
      exact ⟨rfl, HW2.out, HB2.out⟩
    | some n =>
      have hnn : validB n = true := HNV.out y n 0 rfl
      have hkn : knN (some n) = n := rfl
      simp only [hkn, Option.isSome_some] at HN
      obtain ⟨z, hz⟩ : ∃ z, mulC k n = z := ⟨_, rfl⟩
      have hcm := fun w => cmul_calls k n w
      rw [hz] at hcm
      have HCM := Lib.hid hcm
      clear hkn HNV hcm
      cases z with
      | none =>
        have HP : Hid (p = (y, 6)) := HA.out.trans (by show (match mulC k n with | none => (y, 6) | some m => if m = 0 then (y, 0) else t.into id D d m y) = _; rw [hz])
        rw [HP.out]
        unfold optV at HCM
        clear HA HP hz hnn
        go_enter Tryz.func136, Tryz.ntmps136
        go_upto_region 1 with fail
        rw [HW1.out]
        go_wp2_with fail
        refine (HN.out).mono ?_
        rintro e w2 ⟨rfl, hw2, hb2, hk2⟩
        have hk4 := hk2 _ _ _ (by decide) (by decide) HK1.out
        have HW2 := Lib.hid hw2; have HB2 := Lib.hid hb2; have HK4 := Lib.hid hk4
        clear hw2 hb2 hk2 hk4
        go_wp2_with fail
        refine (HCM.out _).mono ?_
        rintro e w3 ⟨rfl, rfl⟩
        go_wp2_with fail
        go_ret
        exact ⟨rfl, HW2.out, HB2.out⟩
      | some mm =>
        have HMV := Lib.hid (mulC_valid hz)
        unfold optV at HCM
        by_cases h0 : mm = 0
        · subst h0
          have HP : Hid (p = (y, 0)) := HA.out.trans (by show (match mulC k n with | none => (y, 6) | some m => if m = 0 then (y, 0) else t.into id D d m y) = _; rw [hz]; rfl)
          rw [HP.out]
          clear HA HP hz hnn
          go_enter Tryz.func136, Tryz.ntmps136
          go_upto_region 1 with fail
          rw [HW1.out]
          go_wp2_with fail
          refine (HN.out).mono ?_
          rintro e w2 ⟨rfl, hw2, hb2, hk2⟩
          have hk4 := hk2 _ _ _ (by decide) (by decide) HK1.out
          have HW2 := Lib.hid hw2; have HB2 := Lib.hid hb2; have HK4 := Lib.hid hk4
          clear hw2 hb2 hk2 hk4
          go_wp2_with fail
          refine (HCM.out _).mono ?_
          rintro e w3 ⟨rfl, rfl⟩
          go_wp2_with fail
          go_ret
          exact ⟨rfl, HW2.out, HB2.out⟩
        · have HP : Hid (p = t.into id D d mm y) := HA.out.trans (by show (match mulC k n with | none => (y, 6) | some m => if m = 0 then (y, 0) else t.into id D d m y) = _; rw [hz]; exact if_neg h0)
          rw [HP.out]
          have h0b : (mm == 0) = false := by simp [h0]
          have ht3 := fun w' => HT.out mm y w' HMV.out HXO.out (by have := HM.out; omega)
          generalize t.into id D d mm y = r at *
          have HT3 := Lib.hid ht3
          clear HA HP hz hnn h0 ht3 HT
          go_enter Tryz.func136, Tryz.ntmps136
          go_upto_region 1 with fail
          rw [HW1.out]
          go_wp2_with fail
          refine (HN.out).mono ?_
          rintro e w2 ⟨rfl, hw2, hb2, hk2⟩
          have hk4 := hk2 _ _ _ (by decide) (by decide) HK1.out
          have HW2 := Lib.hid hw2; have HB2 := Lib.hid hb2; have HK4 := Lib.hid hk4
          clear hw2 hb2 hk2 hk4
          have d1 := HK4.out.cell 1
          go_wp2_with fail
          refine (HCM.out _).mono ?_
          rintro e w3 ⟨rfl, hw3⟩
          subst hw3
          go_wp2_with fail
          refine (HT3.out _ HW2.out HB2.out).mono ?_
          rintro e w5 ⟨rfl, hw5, hb5⟩
          have HW5 := Lib.hid hw5; have HB5 := Lib.hid hb5
          clear hw5 hb5
          go_wp2_with fail
          go_ret
          exact ⟨rfl, HW5.out, HB5.out⟩
  · have HP : Hid (p = (y, qe)) := HA.out.trans (scaleF_err he)
    rw [HP.out]
    have heb : (qe != 0) = true := by simp [he]
    generalize knN qo = n at *
    generalize qo.isSome = b at *
    clear HA HP he HNV
    dsimp only at HN ⊢
    go_enter Tryz.func136, Tryz.ntmps136
    go_upto_region 1 with fail
    rw [HW1.out]
    go_wp2_with fail
    refine (HN.out).mono ?_
    rintro e w2 ⟨rfl, hw2, hb2, hk2⟩
    have hk4 := hk2 _ _ _ (by decide) (by decide) HK1.out
    have HW2 := Lib.hid hw2; have HB2 := Lib.hid hb2; have HK4 := Lib.hid hk4
    clear hw2 hb2 hk2 hk4
    go_wp2_with fail
    go_ret
    exact ⟨rfl, HW2.out, HB2.out⟩
set_option maxRecDepth 100000 in
set_option maxHeartbeats 4000000 in
theorem test_calls (hD : Known wz w0 bw g1 g2 D) (o : Ob) (l r : Tm) (ho : o.ok) (hlo : l.ok) (hro : r.ok) (hfo : o.fits) (hl : IntoOk w0 bw D g id l) (hr : IntoOk w0 bw D g id r) (d k : Int) (x : Wk) (m : Nat) (w : World) (hd : dayB d = true) (hk : validB k = true) (hx : x.ok m) (hm : m + (o.nodes + l.nodes + r.nodes) ≤ 900) (h : WkAt w0 w g bw id x) (hb : Below w0.heap.size w0 w) :
    Calls Tryz.prog 137 #[.pointer (some ⟨g, 0, none⟩), .agg #[o.val, l.val, r.val], .int .i64 d, .int .i64 k] w (IntoPost w0 g bw id (Tm.into id D (.if_ o l r) d k x)) := by
  have el1 := o.cells_ ho; have er1 := l.cells_ hlo; have el2 := o.one_ ho; have er2 := l.one_ hlo; have es1 := r.cells_ hro; have es2 := r.one_ hro
  obtain ⟨W1, hW1⟩ : ∃ W1, w.alloc (.cells #[o.val, l.val, r.val] 129) = W1 := ⟨_, rfl⟩
  have hb1 : Below w.heap.size w W1 := by rw [← hW1]; exact bl_alloc (bl_refl w) _
  have hk1 : Blk W1 w.heap.size #[o.val, l.val, r.val] 129 := by rw [← hW1]; exact Blk.new w _ _
  have hn := cnum_calls hD g id x m hx (by omega) o hfo ho d hd W1 (h.below hb1) (bl_step hb1 hb)
  have hxo := Wk.number_ok (W := D) hx o d
  have HA : Hid (Tm.into id D (.if_ o l r) d k x = testF id D l r d k (x.number D o d)) := rfl
  have hld := fun y w' => hl d k y (m + o.nodes) w' hd hk
  have hrd := fun y w' => hr d k y (m + o.nodes) w' hd hk
  generalize Tm.into id D (.if_ o l r) d k x = p at *
  generalize x.number D o d = q at *
  have c0 := hk1.cell 0; have c1 := hk1.cell 1; have c2 := hk1.cell 2; have f0 := hk1.frozen 0
  unfold IntoPost NumPost at *
  have HN := Lib.hid hn; have HL := Lib.hid hld; have HR := Lib.hid hrd; have HXO := Lib.hid hxo; have HM := Lib.hid hm; have HW1 := Lib.hid hW1; have HK1 := Lib.hid hk1
  clear hn hl hr hld hrd hxo hm hW1 hk1 hb1 hk h hb hx
  obtain ⟨y, qo, qe⟩ := q
  by_cases he : qe = 0
  · subst he
    cases qo with
    | none =>
      have HP : Hid (p = (y, 0)) := HA.out
      rw [HP.out]
      have hkn : knN none = 0 := rfl
      simp only [hkn, Option.isSome_none] at HN ⊢
      clear HA HP hkn
      go_enter Tryz.func137, Tryz.ntmps137
      go_upto_region 1 with fail
      rw [HW1.out]
      go_wp2_with fail
      refine (HN.out).mono ?_
      rintro e w2 ⟨rfl, hw2, hb2, hk2⟩
      have hk4 := hk2 _ _ _ (by decide) (by decide) HK1.out
      have HW2 := Lib.hid hw2; have HB2 := Lib.hid hb2; have HK4 := Lib.hid hk4
      clear hw2 hb2 hk2 hk4
      go_wp2_with fail
      go_ret
      exact ⟨rfl, HW2.out, HB2.out⟩
    | some n =>
      have hkn : knN (some n) = n := rfl
      simp only [hkn, Option.isSome_some] at HN
      clear hkn
      by_cases h0 : 0 < n
      · have HP : Hid (p = l.into id D d k y) := HA.out.trans (if_pos h0)
        rw [HP.out]
        have ht3 := fun w' => HL.out y w' HXO.out (by have := HM.out; omega)
        generalize l.into id D d k y = z at *
        have HT3 := Lib.hid ht3
        clear HA HP ht3 HL HR
        go_enter Tryz.func137, Tryz.ntmps137
        go_upto_region 1 with fail
        rw [HW1.out]
        go_wp2_with fail
        refine (HN.out).mono ?_
        rintro e w2 ⟨rfl, hw2, hb2, hk2⟩
        have hk4 := hk2 _ _ _ (by decide) (by decide) HK1.out
        have HW2 := Lib.hid hw2; have HB2 := Lib.hid hb2; have HK4 := Lib.hid hk4
        clear hw2 hb2 hk2 hk4
        have d1 := HK4.out.cell 1
        go_wp2_with fail
        refine (HT3.out _ HW2.out HB2.out).mono ?_
        rintro e w5 ⟨rfl, hw5, hb5⟩
        have HW5 := Lib.hid hw5; have HB5 := Lib.hid hb5
        clear hw5 hb5
        go_wp2_with fail
        go_ret
        exact ⟨rfl, HW5.out, HB5.out⟩
      · have HP : Hid (p = r.into id D d k y) := HA.out.trans (if_neg h0)
        rw [HP.out]
        have ht3 := fun w' => HR.out y w' HXO.out (by have := HM.out; omega)
        generalize r.into id D d k y = z at *
        have HT3 := Lib.hid ht3
        clear HA HP ht3 HL HR
        go_enter Tryz.func137, Tryz.ntmps137
        go_upto_region 1 with fail
        rw [HW1.out]
        go_wp2_with fail
        refine (HN.out).mono ?_
        rintro e w2 ⟨rfl, hw2, hb2, hk2⟩
        have hk4 := hk2 _ _ _ (by decide) (by decide) HK1.out
        have HW2 := Lib.hid hw2; have HB2 := Lib.hid hb2; have HK4 := Lib.hid hk4
        clear hw2 hb2 hk2 hk4
        have d1 := HK4.out.cell 2
        go_wp2_with fail
        refine (HT3.out _ HW2.out HB2.out).mono ?_
        rintro e w5 ⟨rfl, hw5, hb5⟩
        have HW5 := Lib.hid hw5; have HB5 := Lib.hid hb5
        clear hw5 hb5
        go_wp2_with fail
        go_ret
        exact ⟨rfl, HW5.out, HB5.out⟩
  · have HP : Hid (p = (y, qe)) := HA.out.trans (testF_err he)
    rw [HP.out]
    have heb : (qe != 0) = true := by simp [he]
    generalize knN qo = n at *
    generalize qo.isSome = b at *
    clear HA HP he
    dsimp only at HN ⊢
    go_enter Tryz.func137, Tryz.ntmps137
    go_upto_region 1 with fail
    rw [HW1.out]
    go_wp2_with fail
    refine (HN.out).mono ?_
    rintro e w2 ⟨rfl, hw2, hb2, hk2⟩
    have hk4 := hk2 _ _ _ (by decide) (by decide) HK1.out
    have HW2 := Lib.hid hw2; have HB2 := Lib.hid hb2; have HK4 := Lib.hid hk4
    clear hw2 hb2 hk2 hk4
    go_wp2_with fail
    go_ret
    exact ⟨rfl, HW2.out, HB2.out⟩
end
end Go.Proofs.YtnekcijganhknaaGreatDoor
namespace Go.Proofs.YtnekcijganhknaaGreatDoor
open Go.RowKit
set_option linter.unusedVariables false
set_option linter.unusedSimpArgs false

/-- A wait more, at the end. -/
def Wk.more (x : Wk) (y : Wt) : Wk := ⟨x.flows, x.waits ++ [y]⟩
def orF (id : ByteArray) (D : Wd) (s : ByteArray) (l r : Tm) (d k : Int) (x : Wk) : Option (Int × Int) → Wk × Int
  | none => (x.more ⟨true, ⟨#[]⟩, s, d, if 0 < k then 0 else 1⟩, 0)
  | some (p, since) => if p = 0 then l.into id D (Max.max d since) k x else r.into id D (Max.max d since) k x
set_option maxRecDepth 100000 in
set_option maxHeartbeats 4000000 in
theorem choice_calls {wz w0 : World} {bw g1 g2 g : Nat} {D : Wd} {id : ByteArray} (hid : id.size ≤ 1000000) (hD : Known wz w0 bw g1 g2 D) (s : ByteArray) (l r : Tm) (hs : nameB s = true) (hlo : l.ok) (hro : r.ok) (hl : IntoOk w0 bw D g id l) (hr : IntoOk w0 bw D g id r) (d k : Int) (x : Wk) (m : Nat) (w : World) (hd : dayB d = true) (hk : validB k = true) (hx : x.ok m) (hm : m + (l.nodes + r.nodes) ≤ 900) (h : WkAt w0 w g bw id x) (hb : Below w0.heap.size w0 w) :
    Calls Tryz.prog 138 #[.pointer (some ⟨g, 0, none⟩), .agg #[.string s, l.val, r.val], .int .i64 d, .int .i64 k] w (IntoPost w0 g bw id (Tm.into id D (.or s l r) d k x)) := by
  have er1 := l.cells_ hlo; have er2 := l.one_ hlo; have es1 := r.cells_ hro; have es2 := r.one_ hro
  obtain ⟨W1, hW1⟩ : ∃ W1, w.alloc (.cells #[.string s, l.val, r.val] 78) = W1 := ⟨_, rfl⟩
  have hb1 : Below w.heap.size w W1 := by rw [← hW1]; exact bl_alloc (bl_refl w) _
  have hk1 : Blk W1 w.heap.size #[.string s, l.val, r.val] 78 := by rw [← hW1]; exact Blk.new w _ _
  have hcc := fun W (hW : Below w0.heap.size w0 W) => chosen_calls wz bw g1 g2 D id s (by unfold maxLen; omega) (by have := name_size s hs; unfold maxLen; omega) W (hD.at_.below hW)
  have HA : Hid (Tm.into id D (.or s l r) d k x = orF id D s l r d k x (D.chosen id s)) := by show _ = _; show (match D.chosen id s with | none => _ | some (p, since) => _) = _; cases D.chosen id s <;> rfl
  have hpv : ∀ p since, D.chosen id s = some (p, since) → dayB since = true := fun p since e => by
    obtain ⟨q, hq⟩ := lookup_mem _ _ _ e
    exact hD.ok.2 _ hq
  have hwt := hx.wt
  have hm9 : m ≤ 900 := by omega
  have hB := bl_step hb1 hb
  have hW := h.below hb1
  have HX := Lib.hid hx
  clear hx h hb
  obtain ⟨⟨vf, vw, hg, hf, hw⟩, hnew⟩ := hW
  obtain ⟨A2, c2, rfl, hrd2, hc2, -⟩ := Own.read hw
  have hgt := hg.lt
  have c0 := hk1.cell 0; have c1 := hk1.cell 1; have c2' := hk1.cell 2; have f0 := hk1.frozen 0
  have HCC := Lib.hid hcc; have HG := Lib.hid hg; have HF := Lib.hid hf; have HW := Lib.hid hw; have HB := Lib.hid hB; have HW1 := Lib.hid hW1; have HK1 := Lib.hid hk1; have HDK := Lib.hid (And.intro hd hk); have HM := Lib.hid hm; have HL := Lib.hid hl; have HR := Lib.hid hr; have HPV := Lib.hid hpv
  clear hcc hg hf hw hB hW1 hk1 hd hk hm hl hr hpv hc2 hrd2 hs
  generalize Tm.into id D (.or s l r) d k x = p at *
  generalize D.chosen id s = q at *
  unfold IntoPost
  cases q with
  | none =>
    have e1 : ((none : Option (Int × Int)).getD (0, 0)) = (0, 0) := rfl
    simp only [e1, Option.isSome_none] at HCC
    clear e1
    by_cases h0 : 0 < k
    · have HP : Hid (p = (x.more ⟨true, ⟨#[]⟩, s, d, 0⟩, 0)) := by show _ = _; rw [HA.out]; unfold orF; rw [if_pos h0]
      rw [HP.out]
      clear HA HP HL HR HM HPV HDK
      go_enter Tryz.func138, Tryz.ntmps138
      go_upto_region 1 with fail
      rw [HW1.out]
      refine wp_region_noPanic ?_
      refine wp_region_held_drew (S := fun w' => w'.cell? ⟨g, 1, none⟩ = some (.pointer (some ⟨bw, 0, none⟩)) ∧ w'.cell? ⟨g, 0, none⟩ = some (.string id) ∧ w'.cell? ⟨w.heap.size, 0, none⟩ = some (.string s)) (by kernel_rfl) ⟨HG.out.cell 1, HG.out.cell 0, HK1.out.cell 0⟩ (fun hHeld => ?_)
      refine wpAnyH_world (fun W => Below W1.heap.size W1 W) (bl_drew (bl_refl _)) (fun W2 hb2 => ?_)
      refine wpAnyH_lst #[false, false, false, false, false, false, false, false, false, false, false, false, false, false, false, false, false, false] (by rfl) ?_
      clear hHeld
      refine wpAnyH_named (fun A0 hA0 => ?_)
      have HA0 := Lib.hid hA0
      refine sp_in A0 [13, 14, 15, 16, 17, 18, 19, 20, 21, 22, 23, 12, 24, 25, 26, 9, 10, 11] 82 [(0, .pointer (some ⟨g, 0, none⟩)), (5, .pointer (some ⟨w.heap.size, 0, none⟩))] (by rw [hA0]; rfl) ⟨(HG.out.below hb2).cell 1, (HG.out.below hb2).cell 0, (HK1.out.below hb2).cell 0⟩ (by rw [hA0]; exact ⟨rfl, rfl, trivial⟩) ?_
      clear hA0
      refine st 0 [0] rfl ?_
      refine st 4 [0] rfl ?_
      refine st 8 [5] rfl ?_
      refine st 1 [13] rfl ?_
      refine st 5 [17] rfl ?_
      refine st 9 [21] rfl ?_
      refine st 2 [14] rfl ?_
      refine st 6 [18] rfl ?_
      refine st 3 [15] rfl ?_
      refine st 7 [19] rfl ?_
      refine sr 10 (sc 10 [16, 20, 22] rfl (HCC.out W2 (bl_step hb2 HB.out)) ?_)
      rintro e W3 ⟨rfl, hb3⟩
      refine ⟨_, rfl, ⟨(HG.out.below (bl_step hb3 hb2)).cell 1, (HG.out.below (bl_step hb3 hb2)).cell 0, (HK1.out.below (bl_step hb3 hb2)).cell 0⟩, ?_⟩
      refine st 11 [23] rfl ?_
      refine st 12 [12] rfl ?_
      refine st 13 [12] rfl ?_
      refine st 14 [12] rfl ?_
      refine st 15 [24] rfl ?_
      refine st 16 [25] rfl ?_
      refine st 17 [26] rfl ?_
      refine sp_done (fun A hO hN hS => NoPanic.normal ?_)
      obtain ⟨fo, hfo⟩ := hO.lit HA0.out
      have g9 := hN.get 9 rfl
      have g10 := hN.get 10 rfl
      have g11 := hN.get 11 rfl
      clear hO hN
      dsimp only [putL, List.set_cons_zero, List.set_cons_succ] at hfo
      subst hfo
      have g9 : fo 9 = .int .i64 0 := g9
      have g10 : fo 10 = .int .i64 0 := g10
      have g11 : fo 11 = .bool false := g11
      have HB13 := Lib.hid (bl_step hb3 hb2)
      have HB3 := Lib.hid (bl_step HB13.out HB.out)
      clear hb2 hb3 hS
      have hg3 := HG.out.below HB13.out
      have hk3 := HK1.out.below HB13.out
      have hbs := bs_wt ⟨true, ⟨#[]⟩, s, d, 0⟩
      have c03 := hk3.cell 0
      have hw3 : WtAt w0 W3 (.slice A2 x.waits.length c2) x.waits := Own.below HW.out HB13.out
      have HW3 := Lib.hid hw3
      clear hw3
      go_upto_region 3 with fail
      refine wp_region_noPanic ?_
      refine gt_in 13 (fun w' => w'.cell? ⟨g, 3, none⟩ = some (.slice A2 x.waits.length c2) ∧ w'.cell? ⟨w.heap.size, 0, none⟩ = some (.string s)) [34, 35, 36, 37, 38, 39, 40, 41, 42, 43, 44, 45, 46] 82 [(0, .pointer (some ⟨g, 0, none⟩)), (2, .int .i64 d), (5, .pointer (some ⟨w.heap.size, 0, none⟩))] (by kernel_rfl) ⟨hg3.cell 3, c03⟩ (fun A0 hA0 => ⟨by rw [hA0]; rfl, by rw [hA0]; exact ⟨rfl, rfl, rfl, trivial⟩, fun W7 hbW hCW => ?_⟩)
      refine gt_lst (lst := #[false, false, false, false, false, false, false, false, false, false, false, false, false, false]) (by rfl) ?_
      have HA0 := Lib.hid hA0
      clear hA0
      refine gt 0 [0] rfl ?_
      refine gt 1 [0] rfl ?_
      refine gt 5 [5] rfl ?_
      refine gt 7 [2] rfl ?_
      refine gt 2 [35] rfl ?_
      refine gt 6 [39] rfl ?_
      refine gt 3 [36] rfl ?_
      refine gt (v := .agg #[.bool true, .string ⟨#[]⟩, .string s, .int .i64 d, .int .i64 0]) 8 [40, 41] rfl ?_
      refine gt 4 [37] rfl ?_
      refine gr 9 (gx 9 [42] rfl (w' := W7.alloc (.cells #[.bool true, .string ⟨#[]⟩, .string s, .int .i64 d, .int .i64 0] 82)) (v := .slice (some ⟨W7.heap.size, 0, none⟩) 1 1) ⟨(hg3.below (bl_alloc hbW _)).cell 3, (hk3.below (bl_alloc hbW _)).cell 0⟩ ?_)
      refine gr 10 (gop 10 rfl rfl (fun A hN hC K hK => ?_))
      refine append_anyW (w0 := w0) _ _ 74 82 _ 5 56 rfl Tryz.underlying74 info_wt rfl (by decide) _ x.waits.length (rowsW x.waits) (some ⟨W7.heap.size, 0, none⟩) 1 1 [.bool true, .string ⟨#[]⟩, .string s, .int .i64 d, .int .i64 0] (Own.below HW3.out (bl_alloc hbW _)) (bl_alloc (bl_step hbW HB3.out) _) (Blk.new W7 #[.bool true, .string ⟨#[]⟩, .string s, .int .i64 d, .int .i64 0] 82).rd0 (eval_get hN rfl) (eval_get hN rfl) rfl (Wt.row_one ⟨true, ⟨#[]⟩, s, d, 0⟩) (by omega) (by omega) ?_
      intro v1 W8 HO8 HB8 HG8
      obtain ⟨A8, c8, rfl, -, -, -⟩ := HO8.read
      have hg8 := (hg3.below (bl_alloc hbW (.cells #[.bool true, .string ⟨#[]⟩, .string s, .int .i64 d, .int .i64 0] 82))).kept_own (Own.below HW3.out (bl_alloc hbW (.cells #[.bool true, .string ⟨#[]⟩, .string s, .int .i64 d, .int .i64 0] 82))) (by decide) HG8
      have hk8 := (hk3.below (bl_alloc hbW (.cells #[.bool true, .string ⟨#[]⟩, .string s, .int .i64 d, .int .i64 0] 82))).kept_own (Own.below HW3.out (bl_alloc hbW (.cells #[.bool true, .string ⟨#[]⟩, .string s, .int .i64 d, .int .i64 0] 82))) (by decide) HG8
      refine hK _ _ ⟨hg8.cell 3, hk8.cell 0⟩ ?_
      have g8c := hg8.cell 3; have g8f := hg8.frozen 3
      clear hK K hN hC
      refine gtp 11 [34] rfl ?_
      refine gt 12 [45] rfl ?_
      refine gr 13 (glast [46, 44] rfl (w' := W8.setCell ⟨g, 3, none⟩ (.slice A8 (x.waits.length + 1) c8)) (fun A hO hN => NoPanic.normal ?_))
      obtain ⟨fo, hfo⟩ := hO.lit HA0.out
      clear hO hN
      dsimp only [putL, List.set_cons_zero, List.set_cons_succ] at hfo
      subst hfo
      have h9 := WkAt.wait (l := x.waits ++ [⟨true, ⟨#[]⟩, s, d, 0⟩]) (hg3.below (bl_alloc hbW (.cells #[.bool true, .string ⟨#[]⟩, .string s, .int .i64 d, .int .i64 0] 82))) (Own.below (Own.below HF.out HB13.out) (bl_alloc hbW _)) (Own.below HW3.out (bl_alloc hbW _)) hnew (by have h := HO8; unfold WtAt rowsW at *; rw [List.length_append]; rw [rows_snoc]; exact h) HG8
      have hB9 : Below w0.heap.size w0 (W8.setCell ⟨g, 3, none⟩ (.slice A8 (x.waits.length + 1) c8)) := bl_grown HB8 (gb_set 3 _) hnew
      have H9 := Lib.hid h9; have HB9 := Lib.hid hB9
      clear h9 hB9 g8c g8f hg8 hk8 HO8 HB8 HG8 hbW hCW hbs c03
      go_wp2_with fail
      go_ret
      exact ⟨rfl, H9.out, HB9.out⟩
    · have HP : Hid (p = (x.more ⟨true, ⟨#[]⟩, s, d, 1⟩, 0)) := by show _ = _; rw [HA.out]; unfold orF; rw [if_neg h0]
      rw [HP.out]
      clear HA HP HL HR HM HPV HDK
      go_enter Tryz.func138, Tryz.ntmps138
      go_upto_region 1 with fail
      rw [HW1.out]
      refine wp_region_noPanic ?_
      refine wp_region_held_drew (S := fun w' => w'.cell? ⟨g, 1, none⟩ = some (.pointer (some ⟨bw, 0, none⟩)) ∧ w'.cell? ⟨g, 0, none⟩ = some (.string id) ∧ w'.cell? ⟨w.heap.size, 0, none⟩ = some (.string s)) (by kernel_rfl) ⟨HG.out.cell 1, HG.out.cell 0, HK1.out.cell 0⟩ (fun hHeld => ?_)
      refine wpAnyH_world (fun W => Below W1.heap.size W1 W) (bl_drew (bl_refl _)) (fun W2 hb2 => ?_)
      refine wpAnyH_lst #[false, false, false, false, false, false, false, false, false, false, false, false, false, false, false, false, false, false] (by rfl) ?_
      clear hHeld
      refine wpAnyH_named (fun A0 hA0 => ?_)
      have HA0 := Lib.hid hA0
      refine sp_in A0 [13, 14, 15, 16, 17, 18, 19, 20, 21, 22, 23, 12, 24, 25, 26, 9, 10, 11] 82 [(0, .pointer (some ⟨g, 0, none⟩)), (5, .pointer (some ⟨w.heap.size, 0, none⟩))] (by rw [hA0]; rfl) ⟨(HG.out.below hb2).cell 1, (HG.out.below hb2).cell 0, (HK1.out.below hb2).cell 0⟩ (by rw [hA0]; exact ⟨rfl, rfl, trivial⟩) ?_
      clear hA0
      refine st 0 [0] rfl ?_
      refine st 4 [0] rfl ?_
      refine st 8 [5] rfl ?_
      refine st 1 [13] rfl ?_
      refine st 5 [17] rfl ?_
      refine st 9 [21] rfl ?_
      refine st 2 [14] rfl ?_
      refine st 6 [18] rfl ?_
      refine st 3 [15] rfl ?_
      refine st 7 [19] rfl ?_
      refine sr 10 (sc 10 [16, 20, 22] rfl (HCC.out W2 (bl_step hb2 HB.out)) ?_)
      rintro e W3 ⟨rfl, hb3⟩
      refine ⟨_, rfl, ⟨(HG.out.below (bl_step hb3 hb2)).cell 1, (HG.out.below (bl_step hb3 hb2)).cell 0, (HK1.out.below (bl_step hb3 hb2)).cell 0⟩, ?_⟩
      refine st 11 [23] rfl ?_
      refine st 12 [12] rfl ?_
      refine st 13 [12] rfl ?_
      refine st 14 [12] rfl ?_
      refine st 15 [24] rfl ?_
      refine st 16 [25] rfl ?_
      refine st 17 [26] rfl ?_
      refine sp_done (fun A hO hN hS => NoPanic.normal ?_)
      obtain ⟨fo, hfo⟩ := hO.lit HA0.out
      have g9 := hN.get 9 rfl
      have g10 := hN.get 10 rfl
      have g11 := hN.get 11 rfl
      clear hO hN
      dsimp only [putL, List.set_cons_zero, List.set_cons_succ] at hfo
      subst hfo
      have g9 : fo 9 = .int .i64 0 := g9
      have g10 : fo 10 = .int .i64 0 := g10
      have g11 : fo 11 = .bool false := g11
      have HB13 := Lib.hid (bl_step hb3 hb2)
      have HB3 := Lib.hid (bl_step HB13.out HB.out)
      clear hb2 hb3 hS
      have hg3 := HG.out.below HB13.out
      have hk3 := HK1.out.below HB13.out
      have hbs := bs_wt ⟨true, ⟨#[]⟩, s, d, 1⟩
      have c03 := hk3.cell 0
      have hw3 : WtAt w0 W3 (.slice A2 x.waits.length c2) x.waits := Own.below HW.out HB13.out
      have HW3 := Lib.hid hw3
      clear hw3
      go_upto_region 6 with fail
      refine wp_region_noPanic ?_
      refine gt_in 13 (fun w' => w'.cell? ⟨g, 3, none⟩ = some (.slice A2 x.waits.length c2) ∧ w'.cell? ⟨w.heap.size, 0, none⟩ = some (.string s)) [50, 51, 52, 53, 54, 55, 56, 57, 58, 59, 60, 61, 62] 82 [(0, .pointer (some ⟨g, 0, none⟩)), (2, .int .i64 d), (5, .pointer (some ⟨w.heap.size, 0, none⟩))] (by kernel_rfl) ⟨hg3.cell 3, c03⟩ (fun A0 hA0 => ⟨by rw [hA0]; rfl, by rw [hA0]; exact ⟨rfl, rfl, rfl, trivial⟩, fun W7 hbW hCW => ?_⟩)
      refine gt_lst (lst := #[false, false, false, false, false, false, false, false, false, false, false, false, false, false]) (by rfl) ?_
      have HA0 := Lib.hid hA0
      clear hA0
      refine gt 0 [0] rfl ?_
      refine gt 1 [0] rfl ?_
      refine gt 5 [5] rfl ?_
      refine gt 7 [2] rfl ?_
      refine gt 2 [51] rfl ?_
      refine gt 6 [55] rfl ?_
      refine gt 3 [52] rfl ?_
      refine gt (v := .agg #[.bool true, .string ⟨#[]⟩, .string s, .int .i64 d, .int .i64 1]) 8 [56, 57] rfl ?_
      refine gt 4 [53] rfl ?_
      refine gr 9 (gx 9 [58] rfl (w' := W7.alloc (.cells #[.bool true, .string ⟨#[]⟩, .string s, .int .i64 d, .int .i64 1] 82)) (v := .slice (some ⟨W7.heap.size, 0, none⟩) 1 1) ⟨(hg3.below (bl_alloc hbW _)).cell 3, (hk3.below (bl_alloc hbW _)).cell 0⟩ ?_)
      refine gr 10 (gop 10 rfl rfl (fun A hN hC K hK => ?_))
      refine append_anyW (w0 := w0) _ _ 74 82 _ 5 56 rfl Tryz.underlying74 info_wt rfl (by decide) _ x.waits.length (rowsW x.waits) (some ⟨W7.heap.size, 0, none⟩) 1 1 [.bool true, .string ⟨#[]⟩, .string s, .int .i64 d, .int .i64 1] (Own.below HW3.out (bl_alloc hbW _)) (bl_alloc (bl_step hbW HB3.out) _) (Blk.new W7 #[.bool true, .string ⟨#[]⟩, .string s, .int .i64 d, .int .i64 1] 82).rd0 (eval_get hN rfl) (eval_get hN rfl) rfl (Wt.row_one ⟨true, ⟨#[]⟩, s, d, 1⟩) (by omega) (by omega) ?_
      intro v1 W8 HO8 HB8 HG8
      obtain ⟨A8, c8, rfl, -, -, -⟩ := HO8.read
      have hg8 := (hg3.below (bl_alloc hbW (.cells #[.bool true, .string ⟨#[]⟩, .string s, .int .i64 d, .int .i64 1] 82))).kept_own (Own.below HW3.out (bl_alloc hbW (.cells #[.bool true, .string ⟨#[]⟩, .string s, .int .i64 d, .int .i64 1] 82))) (by decide) HG8
      have hk8 := (hk3.below (bl_alloc hbW (.cells #[.bool true, .string ⟨#[]⟩, .string s, .int .i64 d, .int .i64 1] 82))).kept_own (Own.below HW3.out (bl_alloc hbW (.cells #[.bool true, .string ⟨#[]⟩, .string s, .int .i64 d, .int .i64 1] 82))) (by decide) HG8
      refine hK _ _ ⟨hg8.cell 3, hk8.cell 0⟩ ?_
      have g8c := hg8.cell 3; have g8f := hg8.frozen 3
      clear hK K hN hC
      refine gtp 11 [50] rfl ?_
      refine gt 12 [61] rfl ?_
      refine gr 13 (glast [62, 60] rfl (w' := W8.setCell ⟨g, 3, none⟩ (.slice A8 (x.waits.length + 1) c8)) (fun A hO hN => NoPanic.normal ?_))
      obtain ⟨fo, hfo⟩ := hO.lit HA0.out
      clear hO hN
      dsimp only [putL, List.set_cons_zero, List.set_cons_succ] at hfo
      subst hfo
      have h9 := WkAt.wait (l := x.waits ++ [⟨true, ⟨#[]⟩, s, d, 1⟩]) (hg3.below (bl_alloc hbW (.cells #[.bool true, .string ⟨#[]⟩, .string s, .int .i64 d, .int .i64 1] 82))) (Own.below (Own.below HF.out HB13.out) (bl_alloc hbW _)) (Own.below HW3.out (bl_alloc hbW _)) hnew (by have h := HO8; unfold WtAt rowsW at *; rw [List.length_append]; rw [rows_snoc]; exact h) HG8
      have hB9 : Below w0.heap.size w0 (W8.setCell ⟨g, 3, none⟩ (.slice A8 (x.waits.length + 1) c8)) := bl_grown HB8 (gb_set 3 _) hnew
      have H9 := Lib.hid h9; have HB9 := Lib.hid hB9
      clear h9 hB9 g8c g8f hg8 hk8 HO8 HB8 HG8 hbW hCW hbs c03
      go_wp2_with fail
      go_ret
      exact ⟨rfl, H9.out, HB9.out⟩
  | some z =>
    obtain ⟨pk, since⟩ := z
    have e1 : ((some (pk, since) : Option (Int × Int)).getD (0, 0)) = (pk, since) := rfl
    simp only [e1, Option.isSome_some] at HCC
    clear e1
    have hsd := dayB_max HDK.out.1 (HPV.out pk since rfl)
    by_cases h0 : pk = 0
    · have HP : Hid (p = l.into id D (Max.max d since) k x) := HA.out.trans (if_pos h0)
      rw [HP.out]
      have hin := fun w' => HL.out (Max.max d since) k x m w' hsd HDK.out.2 HX.out (by have := HM.out; omega)
      generalize l.into id D (Max.max d since) k x = z at *
      unfold IntoPost at hin
      have HIN := Lib.hid hin
      subst h0
      clear HA HP HL HR HM HPV hin hsd
      go_enter Tryz.func138, Tryz.ntmps138
      go_upto_region 1 with fail
      rw [HW1.out]
      refine wp_region_noPanic ?_
      refine wp_region_held_drew (S := fun w' => w'.cell? ⟨g, 1, none⟩ = some (.pointer (some ⟨bw, 0, none⟩)) ∧ w'.cell? ⟨g, 0, none⟩ = some (.string id) ∧ w'.cell? ⟨w.heap.size, 0, none⟩ = some (.string s)) (by kernel_rfl) ⟨HG.out.cell 1, HG.out.cell 0, HK1.out.cell 0⟩ (fun hHeld => ?_)
      refine wpAnyH_world (fun W => Below W1.heap.size W1 W) (bl_drew (bl_refl _)) (fun W2 hb2 => ?_)
      refine wpAnyH_lst #[false, false, false, false, false, false, false, false, false, false, false, false, false, false, false, false, false, false] (by rfl) ?_
      clear hHeld
      refine wpAnyH_named (fun A0 hA0 => ?_)
      have HA0 := Lib.hid hA0
      refine sp_in A0 [13, 14, 15, 16, 17, 18, 19, 20, 21, 22, 23, 12, 24, 25, 26, 9, 10, 11] 82 [(0, .pointer (some ⟨g, 0, none⟩)), (5, .pointer (some ⟨w.heap.size, 0, none⟩))] (by rw [hA0]; rfl) ⟨(HG.out.below hb2).cell 1, (HG.out.below hb2).cell 0, (HK1.out.below hb2).cell 0⟩ (by rw [hA0]; exact ⟨rfl, rfl, trivial⟩) ?_
      clear hA0
      refine st 0 [0] rfl ?_
      refine st 4 [0] rfl ?_
      refine st 8 [5] rfl ?_
      refine st 1 [13] rfl ?_
      refine st 5 [17] rfl ?_
      refine st 9 [21] rfl ?_
      refine st 2 [14] rfl ?_
      refine st 6 [18] rfl ?_
      refine st 3 [15] rfl ?_
      refine st 7 [19] rfl ?_
      refine sr 10 (sc 10 [16, 20, 22] rfl (HCC.out W2 (bl_step hb2 HB.out)) ?_)
      rintro e W3 ⟨rfl, hb3⟩
      refine ⟨_, rfl, ⟨(HG.out.below (bl_step hb3 hb2)).cell 1, (HG.out.below (bl_step hb3 hb2)).cell 0, (HK1.out.below (bl_step hb3 hb2)).cell 0⟩, ?_⟩
      refine st 11 [23] rfl ?_
      refine st 12 [12] rfl ?_
      refine st 13 [12] rfl ?_
      refine st 14 [12] rfl ?_
      refine st 15 [24] rfl ?_
      refine st 16 [25] rfl ?_
      refine st 17 [26] rfl ?_
      refine sp_done (fun A hO hN hS => NoPanic.normal ?_)
      obtain ⟨fo, hfo⟩ := hO.lit HA0.out
      have g9 := hN.get 9 rfl
      have g10 := hN.get 10 rfl
      have g11 := hN.get 11 rfl
      clear hO hN
      dsimp only [putL, List.set_cons_zero, List.set_cons_succ] at hfo
      subst hfo
      have g9 : fo 9 = .int .i64 0 := g9
      have g10 : fo 10 = .int .i64 since := g10
      have g11 : fo 11 = .bool true := g11
      have HB13 := Lib.hid (bl_step hb3 hb2)
      have HB3 := Lib.hid (bl_step HB13.out HB.out)
      clear hb2 hb3 hS
      have h3 : WkAt w0 W3 g bw id x := ⟨⟨vf, _, HG.out.below HB13.out, Own.below HF.out HB13.out, Own.below HW.out HB13.out⟩, hnew⟩
      have hk3 := HK1.out.below HB13.out
      have d1 := hk3.cell 1; have d2 := hk3.cell 2
      have hmx : (if d ≤ since then since else d) = Max.max d since := rfl
      have H3 := Lib.hid h3
      clear h3 hk3
      go_wp2_with fail
      refine (HIN.out _ H3.out HB3.out).mono ?_
      rintro e w5 ⟨rfl, hw5, hb5⟩
      have HW5 := Lib.hid hw5; have HB5 := Lib.hid hb5
      clear hw5 hb5
      go_wp2_with fail
      go_ret
      exact ⟨rfl, HW5.out, HB5.out⟩
    · have HP : Hid (p = r.into id D (Max.max d since) k x) := HA.out.trans (if_neg h0)
      rw [HP.out]
      have hin := fun w' => HR.out (Max.max d since) k x m w' hsd HDK.out.2 HX.out (by have := HM.out; omega)
      generalize r.into id D (Max.max d since) k x = z at *
      unfold IntoPost at hin
      have HIN := Lib.hid hin
      have h0b : (pk == 0) = false := by simp [h0]
      clear HA HP HL HR HM HPV hin hsd h0
      go_enter Tryz.func138, Tryz.ntmps138
      go_upto_region 1 with fail
      rw [HW1.out]
      refine wp_region_noPanic ?_
      refine wp_region_held_drew (S := fun w' => w'.cell? ⟨g, 1, none⟩ = some (.pointer (some ⟨bw, 0, none⟩)) ∧ w'.cell? ⟨g, 0, none⟩ = some (.string id) ∧ w'.cell? ⟨w.heap.size, 0, none⟩ = some (.string s)) (by kernel_rfl) ⟨HG.out.cell 1, HG.out.cell 0, HK1.out.cell 0⟩ (fun hHeld => ?_)
      refine wpAnyH_world (fun W => Below W1.heap.size W1 W) (bl_drew (bl_refl _)) (fun W2 hb2 => ?_)
      refine wpAnyH_lst #[false, false, false, false, false, false, false, false, false, false, false, false, false, false, false, false, false, false] (by rfl) ?_
      clear hHeld
      refine wpAnyH_named (fun A0 hA0 => ?_)
      have HA0 := Lib.hid hA0
      refine sp_in A0 [13, 14, 15, 16, 17, 18, 19, 20, 21, 22, 23, 12, 24, 25, 26, 9, 10, 11] 82 [(0, .pointer (some ⟨g, 0, none⟩)), (5, .pointer (some ⟨w.heap.size, 0, none⟩))] (by rw [hA0]; rfl) ⟨(HG.out.below hb2).cell 1, (HG.out.below hb2).cell 0, (HK1.out.below hb2).cell 0⟩ (by rw [hA0]; exact ⟨rfl, rfl, trivial⟩) ?_
      clear hA0
      refine st 0 [0] rfl ?_
      refine st 4 [0] rfl ?_
      refine st 8 [5] rfl ?_
      refine st 1 [13] rfl ?_
      refine st 5 [17] rfl ?_
      refine st 9 [21] rfl ?_
      refine st 2 [14] rfl ?_
      refine st 6 [18] rfl ?_
      refine st 3 [15] rfl ?_
      refine st 7 [19] rfl ?_
      refine sr 10 (sc 10 [16, 20, 22] rfl (HCC.out W2 (bl_step hb2 HB.out)) ?_)
      rintro e W3 ⟨rfl, hb3⟩
      refine ⟨_, rfl, ⟨(HG.out.below (bl_step hb3 hb2)).cell 1, (HG.out.below (bl_step hb3 hb2)).cell 0, (HK1.out.below (bl_step hb3 hb2)).cell 0⟩, ?_⟩
      refine st 11 [23] rfl ?_
      refine st 12 [12] rfl ?_
      refine st 13 [12] rfl ?_
      refine st 14 [12] rfl ?_
      refine st 15 [24] rfl ?_
      refine st 16 [25] rfl ?_
      refine st 17 [26] rfl ?_
      refine sp_done (fun A hO hN hS => NoPanic.normal ?_)
      obtain ⟨fo, hfo⟩ := hO.lit HA0.out
      have g9 := hN.get 9 rfl
      have g10 := hN.get 10 rfl
      have g11 := hN.get 11 rfl
      clear hO hN
      dsimp only [putL, List.set_cons_zero, List.set_cons_succ] at hfo
      subst hfo
      have g9 : fo 9 = .int .i64 pk := g9
      have g10 : fo 10 = .int .i64 since := g10
      have g11 : fo 11 = .bool true := g11
      have HB13 := Lib.hid (bl_step hb3 hb2)
      have HB3 := Lib.hid (bl_step HB13.out HB.out)
      clear hb2 hb3 hS
      have h3 : WkAt w0 W3 g bw id x := ⟨⟨vf, _, HG.out.below HB13.out, Own.below HF.out HB13.out, Own.below HW.out HB13.out⟩, hnew⟩
      have hk3 := HK1.out.below HB13.out
      have d1 := hk3.cell 1; have d2 := hk3.cell 2
      have hmx : (if d ≤ since then since else d) = Max.max d since := rfl
      have H3 := Lib.hid h3
      clear h3 hk3
      go_wp2_with fail
      refine (HIN.out _ H3.out HB3.out).mono ?_
      rintro e w5 ⟨rfl, hw5, hb5⟩
      have HW5 := Lib.hid hw5; have HB5 := Lib.hid hb5
      clear hw5 hb5
      go_wp2_with fail
      go_ret
      exact ⟨rfl, HW5.out, HB5.out⟩
end Go.Proofs.YtnekcijganhknaaGreatDoor
namespace Go.Proofs.YtnekcijganhknaaGreatDoor
open Go.RowKit
set_option linter.unusedVariables false
set_option linter.unusedSimpArgs false

theorem bs_fl (y : Fl) (W : World) : (Instr.buildSlice 64 1 #[(0, .agg #[.int .i64 y.day, .string y.cur, .int .i64 y.amount])]).run Tryz.prog W = .ok (.slice (some ⟨W.heap.size, 0, none⟩) 1 1) (W.alloc (.cells #[.int .i64 y.day, .string y.cur, .int .i64 y.amount] 70)) := by kernel_rfl
theorem wrap_neg {k : Int} (h : validB k = true) : IntKind.i64.wrap (-k) = -k := by
  unfold validB at h
  simp at h
  exact IntWalk.i64_in _ (by omega)
set_option maxRecDepth 100000 in
set_option maxHeartbeats 4000000 in
theorem into_all {wz w0 : World} {bw g1 g2 g : Nat} {D : Wd} {id : ByteArray} (hid : id.size ≤ 1000000) (hD : Known wz w0 bw g1 g2 D) : ∀ t : Tm, t.ok → t.fits → IntoOk w0 bw D g id t := by
  intro t
  induction t with
  | odd v => intro _ hf; exact absurd hf.1 (by simp [Tm.form])
  | zero =>
    intro _ _ d k x m w hd hk hx hm h hb
    unfold IntoPost Tm.val
    have HH := Lib.hid h; have HB := Lib.hid hb
    clear h hb
    go_enter Tryz.func118, Tryz.ntmps118
    go_wp2_with fail
    go_ret
    exact ⟨rfl, HH.out, HB.out⟩
  | give t ih =>
    intro ho hf d k x m w hd hk hx hm h hb
    have ho1 : t.ok := ho; have el1 := t.cells_ ho1; have el2 := t.one_ ho1
    have hin := fun W => ih ho hf.give d (-k) x m W hd (validB_neg hk) hx (by simp only [Tm.nodes] at hm; omega)
    have hwr := wrap_neg hk
    show Calls _ _ _ _ (IntoPost w0 g bw id (t.into id D d (-k) x))
    generalize t.into id D d (-k) x = z at *
    clear hx hm ih hf
    unfold IntoPost
    have HIN := Lib.hid hin; have HH := Lib.hid h; have HB := Lib.hid hb
    clear hin h hb
    unfold Tm.val
    go_enter Tryz.func118, Tryz.ntmps118
    go_wp2_with fail
    refine (HIN.out _ (HH.out.below (bl_alloc (bl_refl _) _)) (bl_alloc HB.out _)).mono ?_
    rintro e w5 ⟨rfl, hw5, hb5⟩
    have HW5 := Lib.hid hw5; have HB5 := Lib.hid hb5
    clear hw5 hb5
    go_wp2_with fail
    go_ret
    exact ⟨rfl, HW5.out, HB5.out⟩
  | and l r ihl ihr =>
    intro ho hf d k x m w hd hk hx hm h hb
    have ho1 : l.ok := ho.1; have el1 := l.cells_ ho1; have el2 := l.one_ ho1
    have ho2 : r.ok := ho.2; have er1 := r.cells_ ho2; have er2 := r.one_ ho2
    have hin := fun W => both_calls hD l r (ihl ho.1 hf.and.1) (ihr ho.2 hf.and.2) hf.and.1 d k x m W hd hk hx (by simp only [Tm.nodes] at hm; omega)
    generalize Tm.into id D (.and l r) d k x = z at *
    clear hx hm ihl ihr hf
    unfold IntoPost
    have HIN := Lib.hid hin; have HH := Lib.hid h; have HB := Lib.hid hb
    clear hin h hb
    unfold Tm.val
    go_enter Tryz.func118, Tryz.ntmps118
    go_wp2_with fail
    refine (HIN.out _ (HH.out.below (bl_alloc (bl_refl _) _)) (bl_alloc HB.out _)).mono ?_
    rintro e w5 ⟨rfl, hw5, hb5⟩
    have HW5 := Lib.hid hw5; have HB5 := Lib.hid hb5
    clear hw5 hb5
    go_wp2_with fail
    go_ret
    exact ⟨rfl, HW5.out, HB5.out⟩
  | when_ n t ih =>
    intro ho hf d k x m w hd hk hx hm h hb
    have ho1 : t.ok := ho.2; have el1 := t.cells_ ho1; have el2 := t.one_ ho1
    have hin := fun W => ih ho.2 hf.when.2 (Max.max d n) k x m W (dayB_max hd hf.when.1) hk hx (by simp only [Tm.nodes] at hm; omega)
    have hmx : (if d ≤ n then n else d) = Max.max d n := rfl
    show Calls _ _ _ _ (IntoPost w0 g bw id (t.into id D (Max.max d n) k x))
    generalize t.into id D (Max.max d n) k x = z at *
    clear hx hm ih hf
    unfold IntoPost
    have HIN := Lib.hid hin; have HH := Lib.hid h; have HB := Lib.hid hb
    clear hin h hb
    unfold Tm.val
    go_enter Tryz.func118, Tryz.ntmps118
    go_wp2_with fail
    refine (HIN.out _ (HH.out.below (bl_alloc (bl_refl _) _)) (bl_alloc HB.out _)).mono ?_
    rintro e w5 ⟨rfl, hw5, hb5⟩
    have HW5 := Lib.hid hw5; have HB5 := Lib.hid hb5
    clear hw5 hb5
    go_wp2_with fail
    go_ret
    exact ⟨rfl, HW5.out, HB5.out⟩
  | scale o t ih =>
    intro ho hf d k x m w hd hk hx hm h hb
    have ho1 : o.ok := ho.1; have el1 := o.cells_ ho1; have el2 := o.one_ ho1
    have ho2 : t.ok := ho.2; have er1 := t.cells_ ho2; have er2 := t.one_ ho2
    have hin := fun W => scale_calls hD o t ho.1 ho.2 hf.scale.1 (ih ho.2 hf.scale.2) d k x m W hd hk hx (by simp only [Tm.nodes] at hm; omega)
    generalize Tm.into id D (.scale o t) d k x = z at *
    clear hx hm ih hf
    unfold IntoPost
    have HIN := Lib.hid hin; have HH := Lib.hid h; have HB := Lib.hid hb
    clear hin h hb
    unfold Tm.val
    go_enter Tryz.func118, Tryz.ntmps118
    go_wp2_with fail
    refine (HIN.out _ (HH.out.below (bl_alloc (bl_refl _) _)) (bl_alloc HB.out _)).mono ?_
    rintro e w5 ⟨rfl, hw5, hb5⟩
    have HW5 := Lib.hid hw5; have HB5 := Lib.hid hb5
    clear hw5 hb5
    go_wp2_with fail
    go_ret
    exact ⟨rfl, HW5.out, HB5.out⟩
  | if_ o l r ihl ihr =>
    intro ho hf d k x m w hd hk hx hm h hb
    have ho1 : o.ok := ho.1; have el1 := o.cells_ ho1; have el2 := o.one_ ho1
    have ho2 : l.ok := ho.2.1; have er1 := l.cells_ ho2; have er2 := l.one_ ho2
    have ho3 : r.ok := ho.2.2; have es1 := r.cells_ ho3; have es2 := r.one_ ho3
    have hin := fun W => test_calls hD o l r ho1 ho2 ho3 hf.if_.1 (ihl ho2 hf.if_.2.1) (ihr ho3 hf.if_.2.2) d k x m W hd hk hx (by simp only [Tm.nodes] at hm; omega)
    generalize Tm.into id D (.if_ o l r) d k x = z at *
    clear hx hm ihl ihr hf
    unfold IntoPost
    have HIN := Lib.hid hin; have HH := Lib.hid h; have HB := Lib.hid hb
    clear hin h hb
    unfold Tm.val
    go_enter Tryz.func118, Tryz.ntmps118
    go_wp2_with fail
    refine (HIN.out _ (HH.out.below (bl_alloc (bl_refl _) _)) (bl_alloc HB.out _)).mono ?_
    rintro e w5 ⟨rfl, hw5, hb5⟩
    have HW5 := Lib.hid hw5; have HB5 := Lib.hid hb5
    clear hw5 hb5
    go_wp2_with fail
    go_ret
    exact ⟨rfl, HW5.out, HB5.out⟩
  | or s l r ihl ihr =>
    intro ho hf d k x m w hd hk hx hm h hb
    have ho2 : l.ok := ho.2.1; have er1 := l.cells_ ho2; have er2 := l.one_ ho2
    have ho3 : r.ok := ho.2.2; have es1 := r.cells_ ho3; have es2 := r.one_ ho3
    have hin := fun W => choice_calls hid hD s l r hf.or.1 ho2 ho3 (ihl ho2 hf.or.2.1) (ihr ho3 hf.or.2.2) d k x m W hd hk hx (by simp only [Tm.nodes] at hm; omega)
    generalize Tm.into id D (.or s l r) d k x = z at *
    clear hx hm ihl ihr hf
    unfold IntoPost
    have HIN := Lib.hid hin; have HH := Lib.hid h; have HB := Lib.hid hb
    clear hin h hb
    unfold Tm.val
    go_enter Tryz.func118, Tryz.ntmps118
    go_wp2_with fail
    refine (HIN.out _ (HH.out.below (bl_alloc (bl_refl _) _)) (bl_alloc HB.out _)).mono ?_
    rintro e w5 ⟨rfl, hw5, hb5⟩
    have HW5 := Lib.hid hw5; have HB5 := Lib.hid hb5
    clear hw5 hb5
    go_wp2_with fail
    go_ret
    exact ⟨rfl, HW5.out, HB5.out⟩
  | one c =>
    intro ho hf d k x m w hd hk hx hm h hb
    have hbs := bs_fl ⟨d, c, k⟩
    have hfl := hx.fl
    have hm9 : m ≤ 900 := by omega
    obtain ⟨⟨vf, vw, hg, hfa, hw⟩, hnew⟩ := h
    obtain ⟨A2, c2, rfl, hrd2, hc2, -⟩ := Own.read hfa
    obtain ⟨W1, hW1⟩ : ∃ W1, w.alloc (.cells #[.string c] 28) = W1 := ⟨_, rfl⟩
    have hb1 : Below w.heap.size w W1 := by rw [← hW1]; exact bl_alloc (bl_refl w) _
    have hk1 : Blk W1 w.heap.size #[.string c] 28 := by rw [← hW1]; exact Blk.new w _ _
    have hg3 := hg.below hb1
    have hf3 : FlAt w0 W1 (.slice A2 x.flows.length c2) x.flows := Own.below hfa hb1
    have HF3 := Lib.hid hf3; have HB3 := Lib.hid (bl_step hb1 hb); have HW3 := Lib.hid (Own.below hw hb1); have HW1 := Lib.hid hW1
    have hgt := hg3.lt
    clear hfa hw hb hb1 hx hrd2 hc2 hm hW1 hg hf3
    unfold Tm.val
    show Calls _ _ _ _ (IntoPost w0 g bw id (⟨x.flows ++ [⟨d, c, k⟩], x.waits⟩, 0))
    unfold IntoPost
    go_enter Tryz.func118, Tryz.ntmps118
    go_upto_region 4 with fail
    rw [HW1.out]
    refine wp_region_noPanic ?_
    refine gt_in 14 (fun w' => w'.cell? ⟨g, 2, none⟩ = some (.slice A2 x.flows.length c2) ∧ w'.cell? ⟨w.heap.size, 0, none⟩ = some (.string c)) [20, 21, 22, 23, 24, 25, 26, 27, 28, 29, 30, 31, 32, 33] 91 [(0, .pointer (some ⟨g, 0, none⟩)), (2, .int .i64 d), (3, .int .i64 k), (9, .pointer (some ⟨w.heap.size, 0, none⟩))] (by kernel_rfl) ⟨hg3.cell 2, hk1.cell 0⟩ (fun A0 hA0 => ⟨by rw [hA0]; rfl, by rw [hA0]; exact ⟨rfl, rfl, rfl, rfl, trivial⟩, fun W7 hbW hCW => ?_⟩)
    refine gt_lst (lst := #[false, false, false, false, false, false, false, false, false, false, false, false, false, false, false]) (by rfl) ?_
    have HA0 := Lib.hid hA0
    clear hA0
    refine gt 0 [0] rfl ?_
    refine gt 1 [0] rfl ?_
    refine gt 5 [2] rfl ?_
    refine gt 6 [9] rfl ?_
    refine gt 8 [3] rfl ?_
    refine gt 2 [21] rfl ?_
    refine gt 7 [26] rfl ?_
    refine gt 3 [22] rfl ?_
    refine gt (v := .agg #[.int .i64 d, .string c, .int .i64 k]) 9 [25, 27, 28] rfl ?_
    refine gt 4 [23] rfl ?_
    refine gr 10 (gx 10 [29] rfl (w' := W7.alloc (.cells #[.int .i64 d, .string c, .int .i64 k] 70)) (v := .slice (some ⟨W7.heap.size, 0, none⟩) 1 1) ⟨(hg3.below (bl_alloc hbW _)).cell 2, (hk1.below (bl_alloc hbW _)).cell 0⟩ ?_)
    refine gr 11 (gop 11 rfl rfl (fun A hN hC K hK => ?_))
    refine append_anyW (w0 := w0) _ _ 64 70 _ 3 32 rfl Tryz.underlying64 info_fl rfl (by decide) _ x.flows.length (rowsF x.flows) (some ⟨W7.heap.size, 0, none⟩) 1 1 [.int .i64 d, .string c, .int .i64 k] (Own.below HF3.out (bl_alloc hbW _)) (bl_alloc (bl_step hbW HB3.out) _) (Blk.new W7 #[.int .i64 d, .string c, .int .i64 k] 70).rd0 (eval_get hN rfl) (eval_get hN rfl) rfl (Fl.row_one ⟨d, c, k⟩) (by omega) (by omega) ?_
    intro v1 W8 HO8 HB8 HG8
    obtain ⟨A8, c8, rfl, -, -, -⟩ := HO8.read
    have hg8 := (hg3.below (bl_alloc hbW (.cells #[.int .i64 d, .string c, .int .i64 k] 70))).kept_own (Own.below HF3.out (bl_alloc hbW (.cells #[.int .i64 d, .string c, .int .i64 k] 70))) (by decide) HG8
    have hk8 := (hk1.below (bl_alloc hbW (.cells #[.int .i64 d, .string c, .int .i64 k] 70))).kept_own (Own.below HF3.out (bl_alloc hbW (.cells #[.int .i64 d, .string c, .int .i64 k] 70))) (by decide) HG8
    refine hK _ _ ⟨hg8.cell 2, hk8.cell 0⟩ ?_
    have g8c := hg8.cell 2; have g8f := hg8.frozen 2
    clear hK K hN hC
    refine gtp 12 [20] rfl ?_
    refine gt 13 [32] rfl ?_
    refine gr 14 (glast [33, 31] rfl (w' := W8.setCell ⟨g, 2, none⟩ (.slice A8 (x.flows.length + 1) c8)) (fun A hO hN => NoPanic.normal ?_))
    obtain ⟨fo, hfo⟩ := hO.lit HA0.out
    clear hO hN
    dsimp only [putL, List.set_cons_zero, List.set_cons_succ] at hfo
    subst hfo
    have h9 := WkAt.flow (l := x.flows ++ [⟨d, c, k⟩]) (hg3.below (bl_alloc hbW (.cells #[.int .i64 d, .string c, .int .i64 k] 70))) (Own.below HF3.out (bl_alloc hbW _)) (Own.below HW3.out (bl_alloc hbW _)) hnew (by have h := HO8; unfold FlAt rowsF at *; rw [List.length_append]; rw [rows_snoc]; exact h) HG8
    have hB9 : Below w0.heap.size w0 (W8.setCell ⟨g, 2, none⟩ (.slice A8 (x.flows.length + 1) c8)) := bl_grown HB8 (gb_set 2 _) hnew
    have H9 := Lib.hid h9; have HB9 := Lib.hid hB9
    clear h9 hB9 g8c g8f hg8 hk8 HO8 HB8 HG8 hbW hCW hbs
    go_wp2_with fail
    go_ret
    exact ⟨rfl, H9.out, HB9.out⟩
end Go.Proofs.YtnekcijganhknaaGreatDoor
namespace Go.Proofs.YtnekcijganhknaaGreatDoor
open Go.RowKit
set_option linter.unusedVariables false
set_option linter.unusedSimpArgs false

/-- It returns payments, what is waited for, an error. -/
def CashPost (w : World) (q : Wk × Int) (en : Ending) (w' : World) : Prop := ∃ vf vw, en = .returned (.tuple #[vf, vw, .int .i64 q.2]) ∧ FlAt w w' vf q.1.flows ∧ WtAt w w' vw q.1.waits ∧ Below w.heap.size w w'
theorem CashPost.none {w w' : World} {k : Int} (hb : Below w.heap.size w w') : CashPost w (⟨[], []⟩, k) (.returned (.tuple #[.slice none 0 0, .slice none 0 0, .int .i64 k])) w' := ⟨_, _, rfl, Own.nil _ _ _ _, Own.nil _ _ _ _, hb⟩
set_option maxRecDepth 100000 in
set_option maxHeartbeats 4000000 in
theorem cash_calls (wz : World) (bw g1 g2 : Nat) (D : Wd) (id : ByteArray) (hid : id.size ≤ 1000000) (hok : D.ok2) (t : Tm) (ht : t.ok) (hm : t.meas ≤ 1099511627776) (d : Int) (w : World) (h : WdAt wz w bw g1 g2 D) :
    Calls Tryz.prog 72 #[.string id, t.val, .int .i64 d, .pointer (some ⟨bw, 0, none⟩)] w (CashPost w (t.cash id d D)) := by
  have hck := tcheck_calls t ht hm w
  have HCK := Lib.hid hck
  have HA : Hid (t.cash id d D = if t.check ≠ 0 ∨ dayB d = false then (⟨[], []⟩, 1) else if (t.into id D d 1 ⟨[], []⟩).2 ≠ 0 then (⟨[], []⟩, (t.into id D d 1 ⟨[], []⟩).2) else ((t.into id D d 1 ⟨[], []⟩).1, 0)) := rfl
  by_cases hc : t.check = 0
  · rw [hc] at HCK
    cases hd : dayB d with
    | false =>
      have HP : Hid (t.cash id d D = (⟨[], []⟩, 1)) := HA.out.trans (if_pos (Or.inr hd))
      rw [HP.out]
      clear HA HP hck h ht hm
      by_cases h1 : d < 0
      · clear hd
        unfold CashPost
        go_enter Tryz.func72, Tryz.ntmps72
        go_wp2_with fail
        refine (HCK.out).mono ?_
        rintro e w1 ⟨rfl, hb1⟩
        go_wp2_with fail
        go_ret3
        exact CashPost.none hb1
      · have h2 : 10000 < d := by
          unfold dayB at hd
          simp at hd
          omega
        clear hd
        unfold CashPost
        go_enter Tryz.func72, Tryz.ntmps72
        go_wp2_with fail
        refine (HCK.out).mono ?_
        rintro e w1 ⟨rfl, hb1⟩
        go_wp2_with fail
        go_ret3
        exact CashPost.none hb1
    | true =>
      have hd2 : 0 ≤ d ∧ d ≤ 10000 := by
        unfold dayB at hd
        simpa using hd
      have hf := Tm.check_fits hc
      have hin := fun w1 (hb : Below w.heap.size w w1) g => into_all (g := g) hid (⟨h.below hb, hok⟩ : Known wz w1 bw g1 g2 D) t ht hf d 1 ⟨[], []⟩ 0
      have HA2 : Hid (t.cash id d D = if (t.into id D d 1 ⟨[], []⟩).2 ≠ 0 then (⟨[], []⟩, (t.into id D d 1 ⟨[], []⟩).2) else ((t.into id D d 1 ⟨[], []⟩).1, 0)) := HA.out.trans (if_neg (by rw [hc, hd]; simp))
      have hfn := hf.2.1
      have hx0 : (⟨[], []⟩ : Wk).ok 0 := ⟨fun f hf => (by cases hf), Nat.le_refl _, Nat.le_refl _⟩
      have HIN := Lib.hid (fun w1 (hb : Below w.heap.size w w1) g w2 => hin w1 hb g w2 hd (by decide) hx0 (by omega))
      clear hin HA hck h hc ht hm hd hf hx0
      generalize t.cash id d D = p at *
      generalize t.into id D d 1 ⟨[], []⟩ = q at *
      obtain ⟨x, qe⟩ := q
      unfold IntoPost at HIN
      by_cases he : qe = 0
      · subst he
        have HP : Hid (p = (x, 0)) := HA2.out
        rw [HP.out]
        clear HA2 HP
        unfold CashPost
        go_enter Tryz.func72, Tryz.ntmps72
        go_wp2_with fail
        refine (HCK.out).mono ?_
        rintro e w1 ⟨rfl, hb1⟩
        go_upto_region 4 with fail
        obtain ⟨W2, hW2⟩ : ∃ W2, w1.alloc (.cells #[.string id, .pointer (some ⟨bw, 0, none⟩), .slice none 0 0, .slice none 0 0] 215) = W2 := ⟨_, rfl⟩
        have hb2 : Below w1.heap.size w1 W2 := by rw [← hW2]; exact bl_alloc (bl_refl _) _
        have hk2 : Blk W2 w1.heap.size #[.string id, .pointer (some ⟨bw, 0, none⟩), .slice none 0 0, .slice none 0 0] 215 := by rw [← hW2]; exact Blk.new _ _ _
        rw [hW2]
        clear hW2
        go_wp2_with fail
        refine (HIN.out w1 hb1 w1.heap.size W2 ⟨⟨_, _, hk2, Own.nil _ _ _ _, Own.nil _ _ _ _⟩, Nat.le_refl _⟩ hb2).mono ?_
        rintro e w5 ⟨rfl, hw5, hb5⟩
        obtain ⟨⟨vf, vw, hg, hfa, hwa⟩, hnew⟩ := hw5
        have c2 := hg.cell 2; have c3 := hg.cell 3
        have HF := Lib.hid hfa; have HW := Lib.hid hwa; have HB5 := Lib.hid (bl_step hb5 hb1); have HS := Lib.hid hb1.size
        clear hg hfa hwa hb5 hk2 hb2
        go_wp2_with fail
        go_quiet (fail)
        go_wp2_with fail
        go_ret3
        exact ⟨_, _, rfl, Own.rebase (Own.below HF.out (bl_drewN (bl_refl _) _)) HS.out, Own.rebase (Own.below HW.out (bl_drewN (bl_refl _) _)) HS.out, bl_drewN HB5.out _⟩
      · have HP : Hid (p = (⟨[], []⟩, qe)) := HA2.out.trans (if_pos he)
        rw [HP.out]
        have heb : (qe != 0) = true := by simp [he]
        clear HA2 HP he
        unfold CashPost
        go_enter Tryz.func72, Tryz.ntmps72
        go_wp2_with fail
        refine (HCK.out).mono ?_
        rintro e w1 ⟨rfl, hb1⟩
        go_upto_region 4 with fail
        obtain ⟨W2, hW2⟩ : ∃ W2, w1.alloc (.cells #[.string id, .pointer (some ⟨bw, 0, none⟩), .slice none 0 0, .slice none 0 0] 215) = W2 := ⟨_, rfl⟩
        have hb2 : Below w1.heap.size w1 W2 := by rw [← hW2]; exact bl_alloc (bl_refl _) _
        have hk2 : Blk W2 w1.heap.size #[.string id, .pointer (some ⟨bw, 0, none⟩), .slice none 0 0, .slice none 0 0] 215 := by rw [← hW2]; exact Blk.new _ _ _
        rw [hW2]
        clear hW2
        go_wp2_with fail
        refine (HIN.out w1 hb1 w1.heap.size W2 ⟨⟨_, _, hk2, Own.nil _ _ _ _, Own.nil _ _ _ _⟩, Nat.le_refl _⟩ hb2).mono ?_
        rintro e w5 ⟨rfl, hw5, hb5⟩
        have HB5 := Lib.hid (bl_step hb5 hb1)
        clear hb5 hw5 hk2 hb2
        go_wp2_with fail
        go_ret3
        exact CashPost.none HB5.out
  · have HP : Hid (t.cash id d D = (⟨[], []⟩, 1)) := HA.out.trans (if_pos (Or.inl hc))
    rw [HP.out]
    have hcb : (t.check != 0) = true := by simp [hc]
    generalize t.check = ck at *
    clear HA HP hck h ht hm hc
    unfold CashPost
    go_enter Tryz.func72, Tryz.ntmps72
    go_wp2_with fail
    refine (HCK.out).mono ?_
    rintro e w1 ⟨rfl, hb1⟩
    go_wp2_with fail
    go_ret3
    exact CashPost.none hb1
end Go.Proofs.YtnekcijganhknaaGreatDoor
