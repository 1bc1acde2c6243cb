/- Searches through a ledger's contracts, and through what is waited for. -/
import Derived.Test.YtnekcijganhknaaGreatDoorLgG
import Derived.Test.YtnekcijganhknaaGreatDoorEventG
import Derived.Test.YtnekcijganhknaaGreatDoorCashG
import Derived.Test.YtnekcijganhknaaGreatDoorWldG
import Derived.Test.YtnekcijganhknaaGreatDoorValG
import Derived.Test.YtnekcijganhknaaGreatDoorSpG1
namespace Go.Proofs.YtnekcijganhknaaGreatDoor
open Go.RowKit
set_option linter.unusedVariables false
set_option linter.unusedSimpArgs false

def Lg.trade (l : Lg) (e : Ev) : Lg × Int :=
  if l.deals.any (·.id.toList == e.id.toList) then (l, 4) else if 8 ≤ l.deals.length then (l, 5)
  else if (e.term.cash e.id l.day l.w).2 ≠ 0 then (l, (e.term.cash e.id l.day l.w).2) else (⟨l.day, l.deals ++ [⟨e.id, l.day, e.term⟩], l.w, l.paid⟩, 0)
def Lg.fixing (l : Lg) (e : Ev) : Lg × Int :=
  if l.day < e.day then (l, 7) else if (l.w.fix e.name e.day e.value).2 ≠ 0 then (l, (l.w.fix e.name e.day e.value).2)
  else (⟨l.day, l.deals, (l.w.fix e.name e.day e.value).1, l.paid⟩, (Lg.mk l.day l.deals (l.w.fix e.name e.day e.value).1 l.paid).all.2)
def Lg.choice (l : Lg) (e : Ev) (by_ : Int) : Lg × Int := match l.deals.find? (·.id.toList == e.id.toList) with
  | .none => (l, 3)
  | some d => match (d.term.cash d.id d.day l.w).1.waits.find? (fun w => w.choice && w.label.toList == e.label.toList) with
    | .none => (l, 3)
    | some w => if l.day < w.day then (l, 7) else if w.side ≠ by_ then (l, 8)
      else if (l.w.choose e.id e.label e.value l.day).2 ≠ 0 then (l, (l.w.choose e.id e.label e.value l.day).2)
      else (⟨l.day, l.deals, (l.w.choose e.id e.label e.value l.day).1, l.paid⟩, (d.term.cash d.id d.day (l.w.choose e.id e.label e.value l.day).1).2)
/-- What was paid on a day, in a currency: more. -/
def payMore (k : Int × List UInt8) (n : Int) : List ((Int × List UInt8) × Int) → List ((Int × List UInt8) × Int)
  | [] => [(k, n)]
  | (a, m) :: l => if k == a then (a, m + n) :: l else (a, m) :: payMore k n l
def Lg.settle (l : Lg) (e : Ev) : Lg × Int :=
  if l.day < e.day then (l, 7) else if l.owed e.day e.cur = 0 then (l, 3) else if l.owed e.day e.cur ≠ e.value then (l, 1)
  else (⟨l.day, l.deals, l.w, payMore (e.day, e.cur.toList) (l.owed e.day e.cur) l.paid⟩, 0)
/-- An event, on a ledger that is given up if it has an error. -/
def Lg.try_ (l : Lg) (e : Ev) (by_ : Int) : Lg × Int :=
  if by_ ≠ 0 ∧ by_ ≠ 1 then (l, 1) else if e.check ≠ 0 then (l, e.check)
  else if e.kind = 2 then l.trade e else if e.kind = 3 then l.fixing e else if e.kind = 4 then l.choice e by_ else if e.kind = 6 then l.settle e
  else if e.kind = 5 then (if e.day ≤ l.day then (l, 7) else (⟨e.day, l.deals, l.w, l.paid⟩, 0)) else (l, 0)
def Lg.done (l : Lg) (e : Ev) (by_ : Int) : Lg × Int := if (l.try_ e by_).2 = 0 then l.try_ e by_ else (l, (l.try_ e by_).2)
end Go.Proofs.YtnekcijganhknaaGreatDoor
namespace Go.Proofs.YtnekcijganhknaaGreatDoor
open Go.RowKit
open Go.Maps (Keyed)
set_option linter.unusedVariables false
set_option linter.unusedSimpArgs false

def zeroDl : Value := .agg #[.string ⟨#[]⟩, .int .i64 0, .nilIface]
theorem info_dl : (Tryz.prog.info? 133).map (fun i => (i.zero, i.size, i.bytes)) = some (some zeroDl, 3, 40) := by kernel_rfl
def Dl.row (d : Dl) : List Value := [.string d.id, .int .i64 d.day, d.term.val]
theorem Dl.row_length (d : Dl) : d.row.length = 3 := rfl
def rowsD (l : List Dl) : List Value := l.flatMap Dl.row
theorem rowsD_length (l : List Dl) : (rowsD l).length = l.length * 3 := rows_length Dl.row_length l
theorem Dl.row_one (d : Dl) (h : d.term.ok) : ∀ u ∈ d.row, u.oneCell' = true := by
  intro u hu
  have ho := d.term.one_ h
  simp only [Dl.row, List.mem_cons, List.not_mem_nil, or_false] at hu
  rcases hu with rfl | rfl | rfl
  · rfl
  · rfl
  · exact ho
/-- What was paid, by day and currency. -/
theorem moneyKK : Keyed Tryz.prog 108 := Keyed.of_law (deep_law_laid laidMp (m := 2) (by omega) (of_decide_eq_true (by kernel_rfl)) (by kernel_rfl) (by kernel_rfl))
def moneyV (k : Int × List UInt8) : Value := .agg #[.int .i64 k.1, .string ⟨k.2.toArray⟩]
theorem moneyV_inj (k k' : Int × List UInt8) (h : moneyV k = moneyV k') : k = k' := by
  obtain ⟨a, b⟩ := k; obtain ⟨c, d⟩ := k'
  simp [moneyV] at h
  rw [h.1, h.2]
theorem money_key (d : Int) (s : ByteArray) (hs : s.size ≤ maxLen) (hd : (Lit.int .i64 d).wf = true) : ∃ kl, keyOf Tryz.prog 108 (moneyV (d, s.toList)) = some kl := by
  have hk : Tryz.prog.keyType 108 = true := by kernel_rfl
  have hc : Tryz.prog.cellsOf 108 = 2 := by kernel_rfl
  have hc1 : Tryz.prog.cellsOf 9 = 1 := by kernel_rfl
  have hc2 : Tryz.prog.cellsOf 3 = 1 := by kernel_rfl
  have hu := Tryz.underlying108
  have hf : (Value.agg #[.int .i64 d, .string s]).formed Tryz.prog 108 = true := by simp [Value.formed, hu, hc]
  obtain ⟨m, hm⟩ := typesL
  have hl : Tryz.prog.keyLits (m + 2) 108 [.int .i64 d, .string s] = some ([.int .i64 d, .string s.data.toList]) := by
    simp [Program.keyLits, hu, hc, hc1, hc2, Tryz.underlying9, Tryz.underlying3, *]
  unfold moneyV
  rw [ba_back]
  unfold keyOf
  rw [hu]
  dsimp only
  rw [hm, hk, hf]
  rw [if_pos (show (true && true) = true from rfl), show (Value.agg #[.int .i64 d, .string s]).cells.toList = [.int .i64 d, .string s] from rfl, hl]
  exact ⟨_, rfl⟩
def PaidAt (W : World) (b : Nat) (l : List ((Int × List UInt8) × Int)) : Prop := MapAt Tryz.prog 108 intR moneyV intD W b l
theorem PaidAt.look {W : World} {g : Nat} {l : List ((Int × List UInt8) × Int)} (h : PaidAt W g l) (d : Int) (s : ByteArray) (hs : s.size ≤ maxLen) (hd : In64 d) :
    (Instr.lookup 104 (.map (some g)) (.agg #[.int .i64 d, .string s]) false).run Tryz.prog W = .ok (.int .i64 ((l.lookup (d, s.toList)).getD 0)) W := by
  obtain ⟨kl, hk⟩ := money_key d s hs (by unfold In64 at hd; exact wf64 hd)
  obtain ⟨D, h1, h2, h3⟩ := h
  obtain ⟨v, ps, hrun, hv⟩ := h1.lookup moneyKK Tryz.underlying104 (z := .int .i64 0) (by kernel_rfl) (zd := intD 0) (zp := []) rfl hk
  have e : moneyV (d, s.toList) = .agg #[.int .i64 d, .string s] := by unfold moneyV; rw [ba_back]
  rw [e] at hrun
  rw [(h3 _ kl hk).1] at hv
  unfold atL at hv
  cases hq : l.lookup (d, s.toList) with
  | none =>
    rw [hq] at hv
    rw [intR_inv hv] at hrun
    exact hrun
  | some n =>
    rw [hq] at hv
    rw [intR_inv hv] at hrun
    exact hrun
theorem payMore_lookup (k : Int × List UInt8) (n : Int) : ∀ l : List ((Int × List UInt8) × Int), (payMore k n l).lookup k = some ((l.lookup k).getD 0 + n) ∧ (∀ k', k' ≠ k → (payMore k n l).lookup k' = l.lookup k') ∧ (payMore k n l).length = if (l.lookup k).isSome then l.length else l.length + 1
  | [] => by
    refine ⟨by simp [payMore, List.lookup], fun k' hne => ?_, rfl⟩
    have : (k' == k) = false := by rw [beq_eq_false_iff_ne]; exact hne
    simp [payMore, List.lookup, this]
  | (a, m) :: l => by
    obtain ⟨h1, h2, h3⟩ := payMore_lookup k n l
    by_cases e : k = a
    · subst e
      refine ⟨by simp [payMore, List.lookup], fun k' hne => ?_, by simp [payMore, List.lookup]⟩
      have : (k' == k) = false := by rw [beq_eq_false_iff_ne]; exact hne
      simp [payMore, List.lookup, this]
    · have e1 : (k == a) = false := by rw [beq_eq_false_iff_ne]; exact e
      refine ⟨by simp [payMore, List.lookup, e1, h1], fun k' hne => ?_, ?_⟩
      · simp only [payMore, e1, Bool.false_eq_true, if_false, List.lookup]
        split
        · rfl
        · exact h2 k' hne
      · simp only [payMore, e1, Bool.false_eq_true, if_false, List.lookup, List.length_cons, h3]
        split <;> rfl
theorem PaidAt.store {W : World} {g : Nat} {l : List ((Int × List UInt8) × Int)} (h : PaidAt W g l) (d : Int) (s : ByteArray) (n v : Int) (hs : s.size ≤ maxLen) (hd : In64 d) (hn : l.length < maxLen) (hv : v = (l.lookup (d, s.toList)).getD 0 + n) :
    ∃ W', (Instr.mapUpdate 104 (.map (some g)) (.agg #[.int .i64 d, .string s]) (.int .i64 v)).run Tryz.prog W = .ok () W' ∧ PaidAt W' g (payMore (d, s.toList) n l) ∧ W.grownBy W' (some g) := by
  obtain ⟨kl, hk⟩ := money_key d s hs (by unfold In64 at hd; exact wf64 hd)
  have e : moneyV (d, s.toList) = .agg #[.int .i64 d, .string s] := by unfold moneyV; rw [ba_back]
  obtain ⟨h1, h2, h3⟩ := payMore_lookup (d, s.toList) n l
  rw [← e]
  exact MapAt.store (ps := []) h moneyKK Tryz.underlying104 hn hk rfl moneyV_inj _ (x := v) (by rw [hv]; exact h1) h2 h3
theorem moneyKL : WideMaps.KeyLaw Tryz.prog 108 := deep_law_laid laidMp (m := 2) (by omega) (of_decide_eq_true (by kernel_rfl)) (by kernel_rfl) (by kernel_rfl)
theorem zero_int (u : World) : (zeroValue 3).run Tryz.prog u = .ok (.int .i64 0) u := by kernel_rfl
/-- paid[..] += n: the entry, then the store. -/
theorem PaidAt.entry {W : World} {g : Nat} {l : List ((Int × List UInt8) × Int)} (h : PaidAt W g l) (d : Int) (s : ByteArray) (n : Int) (hs : s.size ≤ maxLen) (hd : In64 d) (hn : l.length < maxLen) :
    ∃ (v0 : Value) (st : Nat) (W1 : World), (Instr.mapEntry 104 (.map (some g)) (.agg #[.int .i64 d, .string s])).run Tryz.prog W = .ok (.tuple #[v0, goInt st]) W1 ∧ W.grownBy W1 (some g) ∧
      (∀ W2 : World, W2.heap[g]? = W1.heap[g]? → (Instr.lookup 104 (.map (some g)) (.agg #[.int .i64 d, .string s]) false).run Tryz.prog W2 = .ok (.int .i64 ((l.lookup (d, s.toList)).getD 0)) W2) ∧
      ∀ (W2 : World), W2.heap[g]? = W1.heap[g]? → ∃ W3, (Instr.entryStore 104 (.map (some g)) (goInt st) (.int .i64 ((l.lookup (d, s.toList)).getD 0 + n))).run Tryz.prog W2 = .ok () W3 ∧ PaidAt W3 g (payMore (d, s.toList) n l) ∧ W2.grownBy W3 (some g) := by
  obtain ⟨kl, hk⟩ := money_key d s hs (by unfold In64 at hd; exact wf64 hd)
  have e : moneyV (d, s.toList) = .agg #[.int .i64 d, .string s] := by unfold moneyV; rw [ba_back]
  have hl := PaidAt.look h d s hs hd
  obtain ⟨W', hst, hp, hg⟩ := PaidAt.store h d s n _ hs hd hn rfl
  obtain ⟨v0, st, W1, hrun, hgr, hlk, hes⟩ := MapAt.entry h moneyKL Tryz.underlying104 zero_int hk
  rw [e] at hrun hlk hes
  refine ⟨v0, st, W1, hrun, hgr, fun W2 h2 => hlk _ hl W2 h2, fun W2 h2 => ?_⟩
  obtain ⟨es', clock', h3, h4⟩ := hes W2 (.int .i64 ((l.lookup (d, s.toList)).getD 0 + n)) h2
  have hlt : g < W.heap.size := MapAt.lt h
  have hlt2 : g < W2.heap.size := by
    have h5 : (W1.heap[g]?).isSome = true := by
      have := hgr.size
      rw [Array.getElem?_eq_getElem (by omega)]; rfl
    rw [← h2] at h5
    cases h6 : W2.heap[g]? with
    | none => rw [h6] at h5; cases h5
    | some o => exact (Array.getElem?_eq_some_iff.1 h6).1
  have h7 : W' = ChangeMaps.setBlock W g (.map es' clock') := ok_inj2 (hst.symm.trans h4)
  obtain ⟨es, clock, h8, h9⟩ := MapAt.obj hp
  rw [h7, heap_setB (o := W.heap[g]) (Array.getElem?_eq_getElem hlt)] at h8
  simp only [Option.some.injEq, Obj.map.injEq] at h8
  obtain ⟨rfl, rfl⟩ := h8
  exact ⟨_, h3, h9 _ _ (heap_setB (o := W2.heap[g]) (Array.getElem?_eq_getElem hlt2)), gb_setB W2 g _⟩
/-- A ledger within bounds. -/
structure Lg.ok (l : Lg) (m : Nat) : Prop where
  day : dayB l.day = true
  deals : ∀ d ∈ l.deals, d.term.ok ∧ d.term.fits ∧ dayB d.day = true ∧ d.id.size ≤ 48
  max : l.deals.length ≤ 8
  w : l.w.ok2
  fx : l.w.fixes.length ≤ 32
  pk : l.w.picks.length ≤ m
  pd : l.paid.length ≤ m
  amt : ∀ p ∈ l.paid, -500000000000000 ≤ p.2 ∧ p.2 ≤ 500000000000000
theorem Lg.none_ok : Lg.none.ok 0 := ⟨by decide, fun _ h => (by cases h), by decide, ⟨Wd.ok_none, fun _ h => (by cases h)⟩, by decide, by decide, by decide, fun _ h => (by cases h)⟩
/-- A ledger in memory, of what is newer than w0. -/
structure LgIn (w0 W : World) (b : Nat) (l : Lg) (vd : Value) (bw g1 g2 gp : Nat) : Prop where
  blk : Blk W b #[.int .i64 l.day, vd, .pointer (some ⟨bw, 0, none⟩), .map (some gp)] 106
  dl : Own w0 W 133 3 vd l.deals.length (rowsD l.deals)
  wd : WdAt w0 W bw g1 g2 l.w
  pd : PaidAt W gp l.paid
  n1 : gp ≠ g1
  n2 : gp ≠ g2
  ng : w0.heap.size ≤ gp
  nb : w0.heap.size ≤ b
def LgAt (w0 W : World) (b : Nat) (l : Lg) : Prop := ∃ vd bw g1 g2 gp, LgIn w0 W b l vd bw g1 g2 gp
theorem Blk.no_map {W : World} {b g : Nat} {cs : Array Value} {t : TypeId} {es : Array MapEntry} {clock : Nat} (h : Blk W b cs t) (hm : W.heap[g]? = some (.map es clock)) : b ≠ g := by
  rintro rfl
  unfold Blk at h
  rw [h] at hm
  cases hm
theorem Blk.no_ty {W : World} {b g : Nat} {cs cs' : Array Value} {t t' : TypeId} (h : Blk W b cs t) (h' : Blk W g cs' t') (hne : t ≠ t') : b ≠ g := by
  rintro rfl
  unfold Blk at h h'
  rw [h] at h'
  injection h' with h'
  injection h' with _ e
  exact hne e
theorem MapAt.no_blk {P : Program} {K : TypeId} {R : Value → Option (DataW Unit × List MemPlace)} {κ ν : Type} [BEq κ] {kf : κ → Value} {vf : ν → DataW Unit} {W : World} {b g : Nat} {l : List (κ × ν)} {cs : Array Value} {t : TypeId} (h : MapAt P K R kf vf W g l) (hb : Blk W b cs t) : b ≠ g := by
  obtain ⟨es, clock, hm, -⟩ := MapAt.obj h
  exact hb.no_map hm
section
variable {w0 W W1 : World} {b : Nat} {l : Lg} {vd : Value} {bw g1 g2 gp : Nat}
theorem LgIn.below (h : LgIn w0 W b l vd bw g1 g2 gp) (hb : Below W.heap.size W W1) : LgIn w0 W1 b l vd bw g1 g2 gp :=
  ⟨h.blk.below hb, h.dl.below hb, h.wd.below hb, MapAt.below h.pd hb, h.n1, h.n2, h.ng, h.nb⟩
theorem LgIn.mono {w1 : World} (h : LgIn w1 W b l vd bw g1 g2 gp) (hs : w0.heap.size ≤ w1.heap.size) : LgIn w0 W b l vd bw g1 g2 gp :=
  ⟨h.blk, h.dl.rebase hs, h.wd.mono hs, h.pd, h.n1, h.n2, Nat.le_trans hs h.ng, Nat.le_trans hs h.nb⟩
theorem LgIn.grown {r : Nat} {cs : Array Value} (h : LgIn w0 W b l vd bw g1 g2 gp) (hg : W.grownBy W1 (some r)) (hr : Blk W r cs 106) (hne : r ≠ b) : LgIn w0 W1 b l vd bw g1 g2 gp :=
  ⟨h.blk.grown hg (fun e => hne (by injection e)), h.dl.kept hg (.inr (h.dl.ne_blk hr (by decide))), h.wd.grown hg (fun e => by injection e with e; exact hr.no_ty h.wd.blk (by decide) e) (fun e => by injection e with e; exact MapAt.no_blk h.wd.fx hr e) (fun e => by injection e with e; exact MapAt.no_blk h.wd.pk hr e), MapAt.kept h.pd hg (fun e => by injection e with e; exact MapAt.no_blk h.pd hr e.symm), h.n1, h.n2, h.ng, h.nb⟩
theorem LgAt.below (h : LgAt w0 W b l) (hb : Below W.heap.size W W1) : LgAt w0 W1 b l := by
  obtain ⟨vd, bw, g1, g2, gp, h⟩ := h
  exact ⟨_, _, _, _, _, h.below hb⟩
theorem LgAt.mono {w1 : World} (h : LgAt w1 W b l) (hs : w0.heap.size ≤ w1.heap.size) : LgAt w0 W b l := by
  obtain ⟨vd, bw, g1, g2, gp, h⟩ := h
  exact ⟨_, _, _, _, _, h.mono hs⟩
theorem LgAt.blk (h : LgAt w0 W b l) : ∃ cs, Blk W b cs 106 := by
  obtain ⟨vd, bw, g1, g2, gp, h⟩ := h
  exact ⟨_, h.blk⟩
theorem LgAt.other {w1 : World} {r : Nat} {l' : Lg} (h : LgAt w0 W b l) (hr : LgAt w1 W r l') (hg : W.grownBy W1 (some r)) (hne : r ≠ b) : LgAt w0 W1 b l := by
  obtain ⟨cs, hr⟩ := hr.blk
  obtain ⟨vd, bw, g1, g2, gp, h⟩ := h
  exact ⟨_, _, _, _, _, h.grown hg hr hne⟩
theorem LgAt.lt (h : LgAt w0 W b l) : b < W.heap.size := by
  obtain ⟨cs, h⟩ := h.blk
  exact h.lt
theorem LgAt.base (h : LgAt w0 W b l) : w0.heap.size ≤ b := by
  obtain ⟨vd, bw, g1, g2, gp, h⟩ := h
  exact h.nb
end
/-- It returns a new ledger. -/
def LgNew (w : World) (l : Lg) (e : Ending) (w' : World) : Prop := ∃ b, e = .returned (.pointer (some ⟨b, 0, none⟩)) ∧ LgAt w w' b l ∧ Below w.heap.size w w'
end Go.Proofs.YtnekcijganhknaaGreatDoor
namespace Go.Proofs.YtnekcijganhknaaGreatDoor
open Go.RowKit
set_option linter.unusedVariables false
set_option linter.unusedSimpArgs false

/-- It returns a slice of its own. -/
def RetOwnL (w : World) (e : TypeId) (size n : Nat) (xs : List Value) (en : Ending) (w' : World) : Prop := ∃ v, en = .returned v ∧ Own w w' e size v n xs ∧ Below w.heap.size w w'
set_option maxRecDepth 100000 in
set_option maxHeartbeats 2000000 in
theorem sclone_d (A : Option Addr) (n c : Nat) (xs : List Value) (hl : xs.length = n * 3) (h1 : ∀ u ∈ xs, u.oneCell' = true) (hn : n ≤ 1000000) (w : World) (hr : Rd w A xs) :
    Calls Tryz.prog 53 #[.slice A n c] w (RetOwnL w 133 3 n xs) := by
  have HR := Lib.hid hr; have HL := Lib.hid hl; have H1 := Lib.hid h1
  clear hr hl h1
  cases A with
  | none =>
    have hx : xs = [] := by
      cases hxs : xs with
      | nil => rfl
      | cons y ys => obtain ⟨_, e, _⟩ := HR.out 0 y (by simp [hxs]); cases e
    have hn0 : n = 0 := by have := HL.out; rw [hx] at this; simp at this; omega
    have q22 : ∀ (w : World) (n c n' c' : Nat), (binOp .eql 87 (.slice none n c) (.slice none n' c')).run Tryz.prog w = .ok (.bool true) w := fun w n c n' c' => Lib.run_eql_slice_nil w _ _ none n c n' c' Tryz.underlying87
    subst hn0
    rw [hx]
    go_enter Tryz.func53, Tryz.ntmps53
    go_wp2_with fail
    go_ret
    exact ⟨_, rfl, Own.nil _ _ _ _, bl_refl _⟩
  | some ad =>
    have q22 : ∀ (w : World) (n c n' c' : Nat), (binOp .eql 87 (.slice (some ad) n c) (.slice none n' c')).run Tryz.prog w = .ok (.bool false) w := fun w n c n' c' => Lib.run_eql_slice_nil w _ _ (some ad) n c n' c' Tryz.underlying87
    have hO0 : Own w (w.alloc (.cells #[] 133)) 133 3 (.slice (some ⟨w.heap.size, 0, none⟩) 0 0) 0 [] := World.ownsRow_made w #[] 0 (Nat.le_refl _) (Nat.zero_le _) (by simp)
    have hR0 := HR.out.below (bl_alloc (bl_refl w) (.cells #[] 133))
    have hB0 := bl_alloc (bl_refl w) (.cells #[] 133)
    go_enter Tryz.func53, Tryz.ntmps53
    go_wp2_with (at_builtin; refine append_any (w0 := w) rfl _ _ 87 133 _ 3 40 rfl Tryz.underlying87 info_dl rfl (by decide) _ 0 _ (some ad) n c xs hO0 hB0 hR0 rfl rfl HL.out H1.out (by omega) (by omega) ?_; intro v1 w6 HO6 HB6 HG6)
    go_ret
    exact ⟨_, rfl, by simpa using HO6, HB6⟩
theorem rowsD_one {l : List Dl} (h : ∀ d ∈ l, d.term.ok) : ∀ u ∈ rowsD l, u.oneCell' = true := rows_one (fun d hd => d.row_one (h d hd))
set_option maxRecDepth 100000 in
set_option maxHeartbeats 1000000 in
theorem lnew_calls (w : World) : Calls Tryz.prog 11 #[] w (LgNew w Lg.none) := by
  have hmm := @run_makeMap Tryz.prog
  have hwn := wnew_calls
  have HWN := Lib.hid hwn
  clear hwn
  unfold LgNew
  go_enter Tryz.func11, Tryz.ntmps11
  go_wp2_with fail
  refine (HWN.out _).mono ?_
  rintro e w1 ⟨b, g1, g2, rfl, hW, hb1⟩
  have HW := Lib.hid hW; have HB := Lib.hid hb1
  clear hW hb1
  go_wp2_with fail
  go_ret
  have hz := HB.out.size
  have hl1 : g1 < w1.heap.size := MapAt.lt HW.out.fx
  have hl2 : g2 < w1.heap.size := MapAt.lt HW.out.pk
  have hbb : Below w1.heap.size w1 ((w1.alloc (.map #[] 0)).alloc (.cells #[.int .i64 0, .slice none 0 0, .pointer (some ⟨b, 0, none⟩), .map (some w1.heap.size)] 106)) := bl_alloc (bl_alloc (bl_refl _) _) _
  refine ⟨w1.heap.size + 1, rfl, ⟨_, b, g1, g2, w1.heap.size, ⟨?_, Own.nil _ _ _ _, HW.out.below hbb, ?_, by omega, by omega, hz, by omega⟩⟩, bl_step hbb HB.out⟩
  · exact Blk_new _ _ _ _ (by simp)
  · exact (MapAt.made w1).below (bl_alloc (bl_refl _) _)
section
variable {w0 w : World} {b : Nat} {l : Lg}
theorem lday_calls (h : LgAt w0 w b l) : Calls Tryz.prog 26 #[.pointer (some ⟨b, 0, none⟩)] w fun e w' => e = .returned (.int .i64 l.day) ∧ w' = w := by
  obtain ⟨vd, bw, g1, g2, gp, h⟩ := h
  have c0 := h.blk.cell 0
  clear h
  go_enter Tryz.func26, Tryz.ntmps26
  go_wp2_with fail
  go_ret
  exact ⟨rfl, rfl⟩
set_option maxRecDepth 100000 in
set_option maxHeartbeats 1000000 in
theorem lpaid_calls (d : Int) (c : ByteArray) (hd : In64 d) (hc : c.size ≤ maxLen) (h : LgAt w0 w b l) : Calls Tryz.prog 15 #[.pointer (some ⟨b, 0, none⟩), .int .i64 d, .string c] w fun e w' => e = .returned (.int .i64 (l.paidOn d c)) ∧ w' = w := by
  obtain ⟨vd, bw, g1, g2, gp, h⟩ := h
  have c3 := h.blk.cell 3
  have hl := PaidAt.look h.pd d c hc hd
  show Calls _ _ _ _ fun e w' => e = .returned (.int .i64 ((l.paid.lookup (d, c.toList)).getD 0)) ∧ w' = w
  generalize (l.paid.lookup (d, c.toList)).getD 0 = n at *
  clear h
  go_enter Tryz.func15, Tryz.ntmps15
  go_wp2_with fail
  go_ret
  exact ⟨rfl, rfl⟩
set_option maxRecDepth 100000 in
set_option maxHeartbeats 1000000 in
theorem ldeals_calls {m : Nat} (ho : l.ok m) (h : LgAt w0 w b l) : Calls Tryz.prog 29 #[.pointer (some ⟨b, 0, none⟩)] w (RetOwnL w 133 3 l.deals.length (rowsD l.deals)) := by
  obtain ⟨vd, bw, g1, g2, gp, h⟩ := h
  obtain ⟨A, c, rfl, hA, -, -⟩ := h.dl.read
  have c1 := h.blk.cell 1
  have hcl := fun W hW => sclone_d A l.deals.length c (rowsD l.deals) (rowsD_length _) (rowsD_one (fun d hd => (ho.deals d hd).1)) (by have := ho.max; omega) W hW
  unfold RetOwnL at hcl ⊢
  have HCL := Lib.hid hcl; have HA := Lib.hid hA
  clear hcl hA h ho
  generalize rowsD l.deals = xs at *
  generalize l.deals.length = n at *
  go_enter Tryz.func29, Tryz.ntmps29
  go_wp2_with fail
  refine (HCL.out _ HA.out).mono ?_
  rintro en w2 ⟨v, rfl, hO, hB⟩
  go_wp2_with fail
  go_ret
  exact ⟨_, rfl, hO, hB⟩
set_option maxRecDepth 100000 in
set_option maxHeartbeats 1000000 in
theorem lworld_calls (h : LgAt w0 w b l) : Calls Tryz.prog 33 #[.pointer (some ⟨b, 0, none⟩)] w (WdNew w l.w) := by
  obtain ⟨vd, bw, g1, g2, gp, h⟩ := h
  have c2 := h.blk.cell 2
  have HC := Lib.hid (wclone_calls w0 bw g1 g2 l.w w h.wd)
  unfold WdNew at *
  clear h
  go_enter Tryz.func33, Tryz.ntmps33
  go_wp2_with fail
  refine (HC.out).mono ?_
  rintro en w2 ⟨b', g1', g2', rfl, hW, hB⟩
  go_wp2_with fail
  go_ret
  exact ⟨_, _, _, rfl, hW, hB⟩
theorem wfixes_calls {bw g1 g2 : Nat} {D : Wd} (h : WdAt w0 w bw g1 g2 D) : Calls Tryz.prog 34 #[.pointer (some ⟨bw, 0, none⟩)] w fun e w' => e = .returned (.int .i64 D.fixes.length) ∧ w' = w := by
  have c0 := h.blk.cell 0
  have hl := MapAt.len h.fx Tryz.underlying137 3
  clear h
  go_enter Tryz.func34, Tryz.ntmps34
  go_wp2_with fail
  go_ret
  exact ⟨rfl, rfl⟩
set_option maxRecDepth 100000 in
set_option maxHeartbeats 4000000 in
theorem lclone_calls {m : Nat} (ho : l.ok m) (h : LgAt w0 w b l) : Calls Tryz.prog 31 #[.pointer (some ⟨b, 0, none⟩)] w (LgNew w l) := by
  obtain ⟨vd, bw, g1, g2, gp, h⟩ := h
  obtain ⟨A, c, rfl, hA, -, -⟩ := h.dl.read
  obtain ⟨es, clock, hm, hx⟩ := MapAt.obj h.pd
  have hcl := fun W hW => sclone_d A l.deals.length c (rowsD l.deals) (rowsD_length _) (rowsD_one (fun d hd => (ho.deals d hd).1)) (by have := ho.max; omega) W hW
  have HCL := Lib.hid hcl; have HA := Lib.hid hA; have HK := Lib.hid h.blk; have HWD := Lib.hid h.wd; have HM := Lib.hid hm; have HX := Lib.hid hx
  have hgp : gp < w.heap.size := MapAt.lt h.pd
  have HDL : Hid (l.deals.length = l.deals.length) := rfl
  clear hcl hA h hm hx ho
  unfold LgNew
  go_enter Tryz.func31, Tryz.ntmps31
  go_upto_region 1 with fail
  refine wp_region_noPanic ?_
  refine wp_region_held_drew (S := fun w' => w'.cell? ⟨b, 0, none⟩ = some (.int .i64 l.day) ∧ w'.cell? ⟨b, 1, none⟩ = some (.slice A l.deals.length c) ∧ w'.cell? ⟨b, 2, none⟩ = some (.pointer (some ⟨bw, 0, none⟩)) ∧ w'.cell? ⟨b, 3, none⟩ = some (.map (some gp))) (by kernel_rfl) ⟨(HK.out.below (bl_refl _)).cell 0, (HK.out.below (bl_refl _)).cell 1, (HK.out.below (bl_refl _)).cell 2, (HK.out.below (bl_refl _)).cell 3⟩ (fun hHeld => ?_)
  refine wpAnyH_world (fun W => Below w.heap.size w W) (bl_drew (bl_refl _)) (fun W2 hb2 => ?_)
  refine wpAnyH_lst #[false, false, false, false, false, false, false, false, false, false, false, false, false, false, false, false, false, false, false, false, false, false] (by rfl) ?_
  clear hHeld
  refine wpAnyH_named (fun A0 hA0 => ?_)
  have HA0 := Lib.hid hA0
  refine sp_in A0 [3, 4, 5, 6, 7, 8, 9, 10, 11, 12, 13, 14, 15, 16, 17, 18, 19, 20, 21, 22, 23, 2] 24 [(0, .pointer (some ⟨b, 0, none⟩))] (by rw [hA0]; rfl) ⟨(HK.out.below hb2).cell 0, (HK.out.below hb2).cell 1, (HK.out.below hb2).cell 2, (HK.out.below hb2).cell 3⟩ (by rw [hA0]; exact ⟨rfl, trivial⟩) ?_
  clear hA0
  refine st 0 [0] rfl ?_
  refine st 4 [0] rfl ?_
  refine st 9 [0] rfl ?_
  refine st 14 [0] rfl ?_
  refine st 1 [3] rfl ?_
  refine st 5 [7] rfl ?_
  refine st 10 [12] rfl ?_
  refine st 15 [17] rfl ?_
  refine st 2 [4] rfl ?_
  refine st 6 [8] rfl ?_
  refine st 11 [13] rfl ?_
  refine st 16 [18] rfl ?_
  refine st 3 [5] rfl ?_
  refine st 7 [9] rfl ?_
  refine st 12 [14] rfl ?_
  refine st 17 [19] rfl ?_
  refine sr 8 (sc 8 [10] rfl (HCL.out W2 (HA.out.below hb2)) ?_)
  rintro e W3 ⟨v3, rfl, hO3, hb3⟩
  refine ⟨_, rfl, ⟨(HK.out.below (bl_step hb3 hb2)).cell 0, (HK.out.below (bl_step hb3 hb2)).cell 1, (HK.out.below (bl_step hb3 hb2)).cell 2, (HK.out.below (bl_step hb3 hb2)).cell 3⟩, ?_⟩
  obtain ⟨A3, c3, rfl, -, -, -⟩ := hO3.read
  refine sr 13 (sc 13 [15] rfl (wclone_calls w0 bw g1 g2 l.w W3 (HWD.out.below (bl_step hb3 hb2))) ?_)
  rintro e W4 ⟨b4, g14, g24, rfl, hW4, hb4⟩
  refine ⟨_, rfl, ⟨(HK.out.below (bl_step hb4 (bl_step hb3 hb2))).cell 0, (HK.out.below (bl_step hb4 (bl_step hb3 hb2))).cell 1, (HK.out.below (bl_step hb4 (bl_step hb3 hb2))).cell 2, (HK.out.below (bl_step hb4 (bl_step hb3 hb2))).cell 3⟩, ?_⟩
  refine sr 18 (sc 18 [20] rfl (mclone_M gp es clock W4 (((bl_step hb4 (bl_step hb3 hb2)).block gp hgp).trans HM.out)) ?_)
  rintro e W5 ⟨rfl, rfl⟩
  refine ⟨_, rfl, ⟨(HK.out.below (bl_alloc (bl_step hb4 (bl_step hb3 hb2)) _)).cell 0, (HK.out.below (bl_alloc (bl_step hb4 (bl_step hb3 hb2)) _)).cell 1, (HK.out.below (bl_alloc (bl_step hb4 (bl_step hb3 hb2)) _)).cell 2, (HK.out.below (bl_alloc (bl_step hb4 (bl_step hb3 hb2)) _)).cell 3⟩, ?_⟩
  refine st (v := .agg #[.int .i64 l.day, .slice A3 l.deals.length c3, .pointer (some ⟨b4, 0, none⟩), .map (some W4.heap.size)]) 19 [6, 11, 16, 21] rfl ?_
  refine sr 20 (sx 20 [22] rfl (w' := (W4.alloc (.map es clock)).alloc (.cells #[.int .i64 l.day, .slice A3 l.deals.length c3, .pointer (some ⟨b4, 0, none⟩), .map (some W4.heap.size)] 106)) (v := .pointer (some ⟨W4.heap.size + 1, 0, none⟩)) ⟨(HK.out.below (bl_alloc (bl_alloc (bl_step hb4 (bl_step hb3 hb2)) _) _)).cell 0, (HK.out.below (bl_alloc (bl_alloc (bl_step hb4 (bl_step hb3 hb2)) _) _)).cell 1, (HK.out.below (bl_alloc (bl_alloc (bl_step hb4 (bl_step hb3 hb2)) _) _)).cell 2, (HK.out.below (bl_alloc (bl_alloc (bl_step hb4 (bl_step hb3 hb2)) _) _)).cell 3⟩ ?_)
  refine st 21 [23] rfl ?_
  refine sp_done (fun A hO hN hS => NoPanic.normal ?_)
  obtain ⟨fo, hfo⟩ := hO.lit HA0.out
  have g2 := hN.get 2 rfl
  clear hO hN
  dsimp only [putL, List.set_cons_zero, List.set_cons_succ] at hfo
  subst hfo
  have g2 : fo 2 = .pointer (some ⟨W4.heap.size + 1, 0, none⟩) := g2
  have hB := bl_step hb4 (bl_step hb3 hb2)
  have hz := hB.size
  have hz3 := (bl_step hb3 hb2).size
  have hz2 := hb2.size
  have hl1 : g14 < W4.heap.size := MapAt.lt hW4.fx
  have hl2 : g24 < W4.heap.size := MapAt.lt hW4.pk
  have hbb : Below W4.heap.size W4 ((W4.alloc (.map es clock)).alloc (.cells #[.int .i64 l.day, .slice A3 l.deals.length c3, .pointer (some ⟨b4, 0, none⟩), .map (some W4.heap.size)] 106)) := bl_alloc (bl_alloc (bl_refl _) _) _
  have HO3 := Lib.hid (((hO3.below hb4).below hbb).rebase hz2); have HW4 := Lib.hid ((hW4.below hbb).mono hz3); have HBB := Lib.hid (bl_step hbb hB)
  have HP : Hid (PaidAt ((W4.alloc (.map es clock)).alloc (.cells #[.int .i64 l.day, .slice A3 l.deals.length c3, .pointer (some ⟨b4, 0, none⟩), .map (some W4.heap.size)] 106)) W4.heap.size l.paid) := HX.out _ _ (heap_keep (MapKept.heap_alloc W4 _).1 _)
  have HBK : Hid (Blk ((W4.alloc (.map es clock)).alloc (.cells #[.int .i64 l.day, .slice A3 l.deals.length c3, .pointer (some ⟨b4, 0, none⟩), .map (some W4.heap.size)] 106)) (W4.heap.size + 1) #[.int .i64 l.day, .slice A3 l.deals.length c3, .pointer (some ⟨b4, 0, none⟩), .map (some W4.heap.size)] 106) := Blk_new _ _ _ _ (by simp)
  clear hO3 hW4 hb4 hb3 hb2 hbb hB hS
  go_wp2_with fail
  go_ret
  exact ⟨_, rfl, ⟨_, _, _, _, _, ⟨HBK.out, HO3.out, HW4.out, HP.out, by omega, by omega, by omega, by omega⟩⟩, HBB.out⟩
end
end Go.Proofs.YtnekcijganhknaaGreatDoor
namespace Go.Proofs.YtnekcijganhknaaGreatDoor
open Go.RowKit
set_option linter.unusedVariables false
set_option linter.unusedSimpArgs false

theorem Wk.nil_ok (m : Nat) : (⟨[], []⟩ : Wk).ok m := ⟨fun f hf => (by cases hf), Nat.zero_le _, Nat.zero_le _⟩
theorem cash_ok {W : Wd} (hW : W.ok2) (id : ByteArray) (t : Tm) (d : Int) : (t.cash id d W).1.ok 60 := by
  unfold Tm.cash
  split
  · exact Wk.nil_ok _
  · rename_i h
    have h1 : t.check = 0 := Decidable.byContradiction fun e => h (Or.inl e)
    have h2 : dayB d = true := by
      cases e : dayB d with
      | true => rfl
      | false => exact absurd (Or.inr e) h
    split
    · exact Wk.nil_ok _
    · have hf := Tm.check_fits h1
      have := Tm.into_ok id hW t hf.1 d 1 ⟨[], []⟩ 0 h2 (by decide) (Wk.nil_ok 0)
      exact this.mono (by have := hf.2.1; omega)
theorem Wk.ok.join {x y : Wk} {m n : Nat} (hx : x.ok m) (hy : y.ok n) : (⟨x.flows ++ y.flows, x.waits ++ y.waits⟩ : Wk).ok (m + n) := by
  refine ⟨fun f hf => ?_, by have := hx.fl; have := hy.fl; simp; omega, by have := hx.wt; have := hy.wt; simp; omega⟩
  rcases List.mem_append.1 hf with hf | hf
  · exact hx.amt f hf
  · exact hy.amt f hf
theorem allOf_ok {W : Wd} (hW : W.ok2) : ∀ (l : List Dl) (x : Wk) (m : Nat), x.ok m → (allOf W l x).1.ok (m + 60 * l.length)
  | [], x, m, h => h
  | d :: l, x, m, h => by
    unfold allOf
    split
    · exact Wk.nil_ok _
    · have := allOf_ok hW l _ _ (h.join (cash_ok hW d.id d.term d.day))
      exact this.mono (by simp only [List.length_cons]; omega)
theorem Lg.all_ok {l : Lg} {m : Nat} (h : l.ok m) : l.all.1.ok 480 := (allOf_ok h.w l.deals ⟨[], []⟩ 0 (Wk.nil_ok 0)).mono (by have := h.max; omega)
set_option maxRecDepth 100000 in
set_option maxHeartbeats 4000000 in
theorem lall_calls {w0 w : World} {b : Nat} {l : Lg} {m : Nat} (ho : l.ok m) (h : LgAt w0 w b l) : Calls Tryz.prog 48 #[.pointer (some ⟨b, 0, none⟩)] w (CashPost w l.all) := by
  obtain ⟨vd, bw, g1, g2, gp, h⟩ := h
  obtain ⟨A, c, rfl, hA, -, -⟩ := h.dl.read
  have c1 := h.blk.cell 1
  have HK := Lib.hid h.blk; have HA := Lib.hid hA; have HWD := Lib.hid h.wd; have HOK := Lib.hid ho
  have hmx := ho.max
  have HALL : Hid (l.all = allOf l.w l.deals ⟨[], []⟩) := rfl
  generalize l.all = q at *
  clear h hA ho
  unfold CashPost
  go_enter Tryz.func48, Tryz.ntmps48
  go_wp2_with fail
  go_loopw [5, 6, 8, 9, 10, 11, 17] (fun vf vw s8 s9 s10 s11 i wr => ∃ (j : Nat) (x : Wk), j ≤ l.deals.length ∧ i = .int .i64 j ∧ Hid (q = allOf l.w (l.deals.drop j) x) ∧ FlAt w wr vf x.flows ∧ WtAt w wr vw x.waits ∧ Below w.heap.size w wr ∧ x.flows.length ≤ 60 * j ∧ x.waits.length ≤ 60 * j) (fun _ _ _ _ _ _ i _ => l.deals.length - (intOf i).toNat)
  case atStart => exact ⟨0, ⟨[], []⟩, Nat.zero_le _, rfl, HALL, Own.nil _ _ _ _, Own.nil _ _ _ _, bl_refl _, Nat.zero_le _, Nat.zero_le _⟩
  case round =>
    obtain ⟨j, x, hj, rfl, HQ, hF, hW, hB, hlf, hlw⟩ := hrel
    by_cases hlt : j < l.deals.length
    · have hd : l.deals[j]? = some l.deals[j] := List.getElem?_eq_getElem hlt
      have HDR : Hid (l.deals.drop j = l.deals[j] :: l.deals.drop (j + 1)) := List.drop_eq_getElem_cons hlt
      have hdo := HOK.out.deals _ (List.getElem_mem hlt)
      generalize l.deals[j] = d at *
      obtain ⟨hd1, hd2, hd3, hd4⟩ := hdo
      obtain ⟨ad, rfl⟩ := rows_ad Dl.row_length (by omega) HA.out hd
      have hrow := (rows_rd Dl.row_length HA.out hd).below hB
      have hco := cash_ok HOK.out.w d.id d.term d.day
      have hcf := hco.fl
      have hcw := hco.wt
      have e1 := d.term.cells_ hd1; have e2 := d.term.one_ hd1
      obtain ⟨AF, cF, rfl, -, -, -⟩ := Own.read hF
      obtain ⟨AW, cW, rfl, -, -, -⟩ := Own.read hW
      have HROW := Lib.hid hrow; have HFA := Lib.hid hF; have HWA := Lib.hid hW; have HB := Lib.hid hB
      clear hrow hF hW hB hd hco
      go_wp2_with (refine wpList_load_rd rfl 133 _ rfl (ad.add (j * 3)) rfl [.string d.id, .int .i64 d.day, d.term.val] _ HROW.out Tryz.underlying133 rfl (by kernel_rfl) ?_; simp only [Act.put, List.setIfInBounds_toArray, List.set_cons_zero, List.set_cons_succ])
      obtain ⟨W4, hW4⟩ : ∃ W4, wr.alloc (.cells #[.string d.id, .int .i64 d.day, d.term.val] 133) = W4 := ⟨_, rfl⟩
      have hb4 : Below wr.heap.size wr W4 := by rw [← hW4]; exact bl_alloc (bl_refl _) _
      have hk4 : Blk W4 wr.heap.size #[.string d.id, .int .i64 d.day, d.term.val] 133 := by rw [← hW4]; exact Blk.new _ _ _
      rw [hW4]
      have hg4 := (HK.out.below HB.out).below hb4
      have HB4 := Lib.hid hb4; have HK4 := Lib.hid hk4; have HG4 := Lib.hid hg4
      clear hW4 hb4 hk4 hg4
      refine wp_region_noPanic ?_
      refine wp_region_held_drew (S := fun w' => w'.cell? ⟨b, 2, none⟩ = some (.pointer (some ⟨bw, 0, none⟩)) ∧ w'.cell? ⟨wr.heap.size, 0, none⟩ = some (.string d.id) ∧ w'.cell? ⟨wr.heap.size, 1, none⟩ = some (.int .i64 d.day) ∧ w'.cell? ⟨wr.heap.size, 2, none⟩ = some d.term.val) (by kernel_rfl) ⟨(HG4.out.below (bl_refl _)).cell 2, (HK4.out.below (bl_refl _)).cell 0, (HK4.out.below (bl_refl _)).cell 1, (HK4.out.below (bl_refl _)).cell 2⟩ (fun hHeld => ?_)
      refine wpAnyH_world (fun W => Below W4.heap.size W4 W) (bl_drew (bl_refl _)) (fun W5 hb5 => ?_)
      refine wpAnyH_lst #[false, false, false, false, false, false, false, false, false, false, false, false, false, false, false, false, false, false] (by rfl) ?_
      clear hHeld
      refine wpAnyH_named (fun A0 hA0 => ?_)
      have HA0 := Lib.hid hA0
      refine sp_in A0 [22, 23, 24, 25, 26, 27, 28, 29, 30, 31, 32, 21, 33, 34, 35, 9, 10, 11] 48 [(0, .pointer (some ⟨b, 0, none⟩)), (8, .pointer (some ⟨wr.heap.size, 0, none⟩))] (by rw [hA0]; rfl) ⟨(HG4.out.below hb5).cell 2, (HK4.out.below hb5).cell 0, (HK4.out.below hb5).cell 1, (HK4.out.below hb5).cell 2⟩ (by rw [hA0]; exact ⟨rfl, rfl, trivial⟩) ?_
      clear hA0
      refine st 0 [8] rfl ?_
      refine st 2 [8] rfl ?_
      refine st 4 [8] rfl ?_
      refine st 6 [0] rfl ?_
      refine st 1 [22] rfl ?_
      refine st 3 [24] rfl ?_
      refine st 5 [26] rfl ?_
      refine st 7 [28] rfl ?_
      refine st 8 [29] rfl ?_
      refine st 9 [30] rfl ?_
      refine sr 10 (sc 10 [23, 25, 27, 31] rfl (cash_calls w0 bw g1 g2 l.w d.id (by omega) HOK.out.w d.term hd1 (by have := hd2.meas; omega) d.day W5 (HWD.out.below (bl_step hb5 (bl_step HB4.out HB.out)))) ?_)
      rintro e W6 ⟨vf6, vw6, rfl, hf6, hw6, hb6⟩
      refine ⟨_, rfl, ⟨(HG4.out.below (bl_step hb6 hb5)).cell 2, (HK4.out.below (bl_step hb6 hb5)).cell 0, (HK4.out.below (bl_step hb6 hb5)).cell 1, (HK4.out.below (bl_step hb6 hb5)).cell 2⟩, ?_⟩
      refine st 11 [32] rfl ?_
      refine st 12 [21] rfl ?_
      refine st 13 [21] rfl ?_
      refine st 14 [21] rfl ?_
      refine st 15 [33] rfl ?_
      refine st 16 [34] rfl ?_
      refine st 17 [35] rfl ?_
      refine sp_done (fun A hO hN hS => NoPanic.normal ?_)
      obtain ⟨fo, hfo⟩ := hO.lit HA0.out
      have g9 := hN.get 9 rfl
      have g10 := hN.get 10 rfl
      have g11 := hN.get 11 rfl
      clear hO hN
      dsimp only [putL, List.set_cons_zero, List.set_cons_succ] at hfo
      subst hfo
      have g9 : fo 9 = vf6 := g9
      have g10 : fo 10 = vw6 := g10
      have g11 : fo 11 = .int .i64 (d.term.cash d.id d.day l.w).2 := g11
      have HB6 := Lib.hid (bl_step hb6 (bl_step hb5 HB4.out)); have HBW := Lib.hid (bl_step hb6 (bl_step hb5 (bl_step HB4.out HB.out))); have HF6 := Lib.hid hf6; have HW6 := Lib.hid hw6
      clear hb6 hb5 hS hf6 hw6
      have HQ2 : Hid (q = if (d.term.cash d.id d.day l.w).2 ≠ 0 then (⟨[], []⟩, (d.term.cash d.id d.day l.w).2) else allOf l.w (l.deals.drop (j + 1)) ⟨x.flows ++ (d.term.cash d.id d.day l.w).1.flows, x.waits ++ (d.term.cash d.id d.day l.w).1.waits⟩) := by show _ = _; rw [HQ.out, HDR.out]; rfl
      generalize d.term.cash d.id d.day l.w = z at *
      obtain ⟨y, er⟩ := z
      by_cases her : er = 0
      · subst her
        have HQ3 : Hid (q = allOf l.w (l.deals.drop (j + 1)) ⟨x.flows ++ y.flows, x.waits ++ y.waits⟩) := HQ2.out
        dsimp only at HF6 HW6 hcf hcw g11
        obtain ⟨A6, c6, rfl, hr6, -, -⟩ := Own.read HF6.out
        obtain ⟨A7, c7, rfl, hr7, -, -⟩ := Own.read HW6.out
        have HR6 := Lib.hid hr6; have HR7 := Lib.hid hr7
        clear HQ HQ2 HDR hr6 hr7
        simp only [g9, g10, g11]
        go_wp2_with (at_builtin; first
          | (refine append_any (w0 := w) rfl _ _ 64 70 _ 3 32 rfl Tryz.underlying64 info_fl rfl (by decide) _ x.flows.length (rowsF x.flows) A6 y.flows.length c6 (rowsF y.flows) (Own.below HFA.out HB6.out) HBW.out HR6.out rfl rfl (rowsF_length _) (rowsF_one _) (by omega) (by omega) ?_; intro v8 W8 HO8 HB8 HG8
             have hr8 : Rd W8 A7 (rowsW y.waits) := by obtain ⟨A9, c9, e9, h9, -, -⟩ := (Own.kept_ty HW6.out (Own.below HFA.out HB6.out) (by decide) HG8).read; cases e9; exact h9
             have hw8 : WtAt w W8 _ x.waits := Own.kept_ty (Own.below HWA.out HB6.out) (Own.below HFA.out HB6.out) (by decide) HG8)
          | (refine append_any (w0 := w) rfl _ _ 74 82 _ 5 56 rfl Tryz.underlying74 info_wt rfl (by decide) _ x.waits.length (rowsW x.waits) A7 y.waits.length c7 (rowsW y.waits) hw8 HB8 hr8 rfl rfl (rowsW_length _) (rowsW_one _) (by omega) (by omega) ?_; intro v9 W9 HO9 HB9 HG9
             have hf9 := Own.kept_ty HO8 hw8 (by decide) HG9))
        go_roundw
        case rel =>
          refine ⟨j + 1, ⟨x.flows ++ y.flows, x.waits ++ y.waits⟩, by omega, by go_num, HQ3, ?_, ?_, HB9, ?_, ?_⟩
          · unfold FlAt rowsF at *; rw [List.length_append, List.flatMap_append]; exact hf9
          · unfold WtAt rowsW at *; rw [List.length_append, List.flatMap_append]; exact HO9
          · rw [List.length_append]; omega
          · rw [List.length_append]; omega
        case measure => simp [intOf]; omega
      · have HQ3 : Hid (q = (⟨[], []⟩, er)) := HQ2.out.trans (if_pos her)
        have heb : (er != 0) = true := by simp [her]
        dsimp only at g11
        simp only [g9, g10, g11]
        clear HQ HQ2 HDR her HALL
        go_wp2_with fail
        go_ret3
        rw [HQ3.out]
        exact CashPost.none HBW.out
    · obtain rfl : j = l.deals.length := by omega
      have HQ3 : Hid (q = (x, 0)) := by show _ = _; rw [HQ.out, List.drop_length]; rfl
      clear HQ HALL
      go_wp2_with fail
      go_ret3
      rw [HQ3.out]
      exact ⟨_, _, rfl, hF, hW, hB⟩
/-- It returns payments; what is waited for. -/
def FlPost (w : World) (l : List Fl) (en : Ending) (w' : World) : Prop := ∃ v, en = .returned v ∧ FlAt w w' v l ∧ Below w.heap.size w w'
def WtPost (w : World) (l : List Wt) (en : Ending) (w' : World) : Prop := ∃ v, en = .returned v ∧ WtAt w w' v l ∧ Below w.heap.size w w'
section
variable {w0 w : World} {b : Nat} {l : Lg} {m : Nat}
theorem lflows_calls (ho : l.ok m) (h : LgAt w0 w b l) : Calls Tryz.prog 19 #[.pointer (some ⟨b, 0, none⟩)] w (FlPost w l.all.1.flows) := by
  have HA := Lib.hid (lall_calls ho h)
  unfold CashPost at HA
  unfold FlPost
  clear h ho
  go_enter Tryz.func19, Tryz.ntmps19
  go_wp2_with fail
  refine (HA.out).mono ?_
  rintro e w1 ⟨vf, vw, rfl, hf, hw, hb⟩
  go_wp2_with fail
  go_ret
  exact ⟨_, rfl, hf, hb⟩
theorem lwaits_calls (ho : l.ok m) (h : LgAt w0 w b l) : Calls Tryz.prog 24 #[.pointer (some ⟨b, 0, none⟩)] w (WtPost w l.all.1.waits) := by
  have HA := Lib.hid (lall_calls ho h)
  unfold CashPost at HA
  unfold WtPost
  clear h ho
  go_enter Tryz.func24, Tryz.ntmps24
  go_wp2_with fail
  refine (HA.out).mono ?_
  rintro e w1 ⟨vf, vw, rfl, hf, hw, hb⟩
  go_wp2_with fail
  go_ret
  exact ⟨_, rfl, hw, hb⟩
def owedF (d : Int) (c : ByteArray) (n : Int) (f : Fl) : Int := if f.day = d ∧ f.cur.toList = c.toList then n + f.amount else n
theorem owedF_bound {d : Int} {c : ByteArray} : ∀ (l : List Fl) (n : Int) (k : Nat), (∀ f ∈ l, validB f.amount = true ∧ dayB f.day = true) → (-500000000000000 - 1000000000000 * (k : Int) ≤ n ∧ n ≤ 500000000000000 + 1000000000000 * (k : Int)) → -500000000000000 - 1000000000000 * ((k + l.length : Nat) : Int) ≤ l.foldl (owedF d c) n ∧ l.foldl (owedF d c) n ≤ 500000000000000 + 1000000000000 * ((k + l.length : Nat) : Int)
  | [], n, k, h, hn => hn
  | f :: l, n, k, h, hn => by
    have h1 := (h f (by simp)).1
    unfold validB at h1
    simp at h1
    have := owedF_bound (d := d) (c := c) l (owedF d c n f) (k + 1) (fun f hf => h f (by simp [hf])) (by unfold owedF; split <;> omega)
    rw [List.foldl_cons, List.length_cons, show k + (l.length + 1) = k + 1 + l.length by omega]
    exact this
theorem Lg.paid_bound (ho : l.ok m) (d : Int) (c : ByteArray) : -500000000000000 ≤ l.paidOn d c ∧ l.paidOn d c ≤ 500000000000000 := by
  unfold Lg.paidOn
  cases e : l.paid.lookup (d, c.toList) with
  | none => exact ⟨by decide, by decide⟩
  | some n =>
    obtain ⟨k, hk⟩ := lookup_mem _ _ _ e
    exact ho.amt _ hk
theorem Lg.owed_bound (ho : l.ok m) (d : Int) (c : ByteArray) : -1000000000000000 ≤ l.owed d c ∧ l.owed d c ≤ 1000000000000000 := by
  have hp := Lg.paid_bound ho d c
  have hao := Lg.all_ok ho
  have h := owedF_bound (d := d) (c := c) l.all.1.flows (-l.paidOn d c) 0 (fun f hf => hao.amt f hf) (by omega)
  have hl := hao.fl
  have e : l.owed d c = l.all.1.flows.foldl (owedF d c) (-l.paidOn d c) := rfl
  rw [e]
  omega
theorem owedF_from {d : Int} {c : ByteArray} : ∀ (l : List Fl) (n : Int), l.foldl (owedF d c) n = n + l.foldl (owedF d c) 0
  | [], n => by simp
  | f :: l, n => by
    rw [List.foldl_cons, List.foldl_cons, owedF_from l (owedF d c n f), owedF_from l (owedF d c 0 f)]
    unfold owedF
    split <;> omega
/-- What is paid, with what is owed, is what flows. -/
theorem Lg.paid_owed (ho : l.ok m) (d : Int) (c : ByteArray) : -480000000000000 ≤ l.paidOn d c + l.owed d c ∧ l.paidOn d c + l.owed d c ≤ 480000000000000 := by
  have hao := Lg.all_ok ho
  have e : l.owed d c = l.all.1.flows.foldl (owedF d c) (-l.paidOn d c) := rfl
  rw [e, owedF_from]
  have h : ∀ (l : List Fl) (n : Int) (k : Nat), (∀ f ∈ l, validB f.amount = true ∧ dayB f.day = true) → (-(1000000000000 * (k : Int)) ≤ n ∧ n ≤ 1000000000000 * (k : Int)) → -(1000000000000 * ((k + l.length : Nat) : Int)) ≤ l.foldl (owedF d c) n ∧ l.foldl (owedF d c) n ≤ 1000000000000 * ((k + l.length : Nat) : Int) := by
    intro l
    induction l with
    | nil => intro n k _ hn; exact hn
    | cons f l ih =>
      intro n k hv hn
      have h1 := (hv f (by simp)).1
      unfold validB at h1
      simp at h1
      have := ih (owedF d c n f) (k + 1) (fun f hf => hv f (by simp [hf])) (by unfold owedF; split <;> omega)
      rw [List.foldl_cons, List.length_cons, show k + (l.length + 1) = k + 1 + l.length by omega]
      exact this
  have h1 := h l.all.1.flows 0 0 hao.amt (by omega)
  have hl := hao.fl
  omega
theorem wrap_in {n : Int} (h : -9223372036854775808 ≤ n ∧ n < 9223372036854775808) : IntKind.i64.wrap n = n := IntWalk.i64_in _ (by omega)
set_option maxRecDepth 100000 in
set_option maxHeartbeats 4000000 in
theorem lowed_calls (d : Int) (c : ByteArray) (hd : In64 d) (hc : c.size ≤ maxLen) (ho : l.ok m) (h : LgAt w0 w b l) : Calls Tryz.prog 14 #[.pointer (some ⟨b, 0, none⟩), .int .i64 d, .string c] w fun e w' => e = .returned (.int .i64 (l.owed d c)) ∧ Below w.heap.size w w' := by
  have HP := Lib.hid (lpaid_calls d c hd hc h)
  have HF := Lib.hid (lflows_calls ho h)
  have hpb := Lg.paid_bound ho d c
  have hao := Lg.all_ok ho
  have hob := fun k => owedF_bound (d := d) (c := c) (l.all.1.flows.take k) (-l.paidOn d c) 0 (fun f hf => hao.amt f (List.mem_of_mem_take hf)) (by omega)
  have hfl := hao.fl
  have HO : Hid (l.owed d c = l.all.1.flows.foldl (owedF d c) (-l.paidOn d c)) := rfl
  have hamt := hao.amt
  generalize l.owed d c = q at *
  generalize l.all.1.flows = fl at *
  generalize l.paidOn d c = p at *
  have hwp : IntKind.i64.wrap (-p) = -p := wrap_in (by omega)
  have HOB := Lib.hid hob; have HAMT := Lib.hid hamt
  unfold FlPost at HF
  clear h ho hao hob hd hc hamt
  go_enter Tryz.func14, Tryz.ntmps14
  go_wp2_with fail
  refine (HP.out).mono ?_
  rintro e w1 ⟨rfl, hw1⟩
  subst hw1
  go_wp2_with fail
  refine (HF.out).mono ?_
  rintro e w2 ⟨v, rfl, hf, hb⟩
  obtain ⟨A, cc, rfl, hrd, -, -⟩ := Own.read hf
  have HRD := Lib.hid hrd; have HB := Lib.hid hb
  clear hf hrd hb hwp
  go_wp2_with fail
  go_loopw [7, 9, 18] (fun s s9 i wr => ∃ (j : Nat) (n : Int), j ≤ fl.length ∧ i = .int .i64 j ∧ s = .int .i64 n ∧ Hid (n = (fl.take j).foldl (owedF d c) (-p)) ∧ Below w2.heap.size w2 wr) (fun _ _ i _ => fl.length - (intOf i).toNat)
  case atStart => exact ⟨0, -p, Nat.zero_le _, rfl, rfl, Lib.hid rfl, bl_refl _⟩
  case round =>
    obtain ⟨j, n, hj, rfl, rfl, HN, hB⟩ := hrel
    by_cases hlt : j < fl.length
    · have hfj : fl[j]? = some fl[j] := List.getElem?_eq_getElem hlt
      have HT : Hid ((fl.take (j + 1)).foldl (owedF d c) (-p) = owedF d c n fl[j]) := by show _ = _; rw [take_snoc' fl j hlt, List.foldl_append, ← HN.out]; rfl
      have hbd := HOB.out j
      rw [← HN.out, Nat.zero_add, List.length_take] at hbd
      have ham := (HAMT.out _ (List.getElem_mem hlt)).1
      generalize fl[j] = f at *
      obtain ⟨ad, rfl⟩ := rows_ad Fl.row_length (by omega) HRD.out hfj
      have HROW := Lib.hid ((rows_rd Fl.row_length HRD.out hfj).below hB)
      have hwr : IntKind.i64.wrap (n + f.amount) = n + f.amount := by
        unfold validB at ham
        simp at ham
        exact wrap_in (by omega)
      have HB2 := Lib.hid hB
      clear hfj hbd ham hB
      by_cases h1 : f.day = d
      · by_cases h2 : f.cur.toList = c.toList
        · have HT2 : Hid ((fl.take (j + 1)).foldl (owedF d c) (-p) = n + f.amount) := HT.out.trans (if_pos ⟨h1, h2⟩)
          clear HT
          go_wp2_with (refine wpList_load_rd rfl 70 _ rfl (ad.add (j * 3)) rfl [.int .i64 f.day, .string f.cur, .int .i64 f.amount] _ HROW.out Tryz.underlying70 rfl (by kernel_rfl) ?_; simp only [Act.put, List.setIfInBounds_toArray, List.set_cons_zero, List.set_cons_succ])
          go_roundw
          case rel => exact ⟨j + 1, _, by omega, by go_num, rfl, Lib.hid HT2.out.symm, bl_alloc HB2.out _⟩
          case measure => simp [intOf]; omega
        · have HT2 : Hid ((fl.take (j + 1)).foldl (owedF d c) (-p) = n) := HT.out.trans (if_neg (fun h => h2 h.2))
          have h2b : (f.cur.toList == c.toList) = false := by rw [beq_eq_false_iff_ne]; exact h2
          clear HT h2
          go_wp2_with (refine wpList_load_rd rfl 70 _ rfl (ad.add (j * 3)) rfl [.int .i64 f.day, .string f.cur, .int .i64 f.amount] _ HROW.out Tryz.underlying70 rfl (by kernel_rfl) ?_; simp only [Act.put, List.setIfInBounds_toArray, List.set_cons_zero, List.set_cons_succ])
          go_roundw
          case rel => exact ⟨j + 1, _, by omega, by go_num, rfl, Lib.hid HT2.out.symm, bl_alloc HB2.out _⟩
          case measure => simp [intOf]; omega
      · have HT2 : Hid ((fl.take (j + 1)).foldl (owedF d c) (-p) = n) := HT.out.trans (if_neg (fun h => h1 h.1))
        have h1b : (f.day == d) = false := by rw [beq_eq_false_iff_ne]; exact h1
        clear HT h1
        go_wp2_with (refine wpList_load_rd rfl 70 _ rfl (ad.add (j * 3)) rfl [.int .i64 f.day, .string f.cur, .int .i64 f.amount] _ HROW.out Tryz.underlying70 rfl (by kernel_rfl) ?_; simp only [Act.put, List.setIfInBounds_toArray, List.set_cons_zero, List.set_cons_succ])
        go_roundw
        case rel => exact ⟨j + 1, _, by omega, by go_num, rfl, Lib.hid HT2.out.symm, bl_alloc HB2.out _⟩
        case measure => simp [intOf]; omega
    · obtain rfl : j = fl.length := by omega
      have HE : Hid (n = q) := by show _ = _; rw [HN.out, HO.out, List.take_length]
      go_wp2_with fail
      go_ret
      exact ⟨by rw [HE.out]; rfl, bl_step hB HB.out⟩
end
end Go.Proofs.YtnekcijganhknaaGreatDoor
namespace Go.Proofs.YtnekcijganhknaaGreatDoor
open Go.RowKit
set_option linter.unusedVariables false
set_option linter.unusedSimpArgs false

def isDl (l : List Dl) (id : ByteArray) (j : Nat) : Bool := match l[j]? with
  | some d => d.id.toList == id.toList
  | none => false
def isCh (l : List Wt) (s : ByteArray) (j : Nat) : Bool := match l[j]? with
  | some y => y.choice && y.label.toList == s.toList
  | none => false
set_option maxRecDepth 100000 in
set_option maxHeartbeats 1000000 in
theorem dlid_t (d : Dl) (hd : d.term.ok) (r : Nat) (id : ByteArray) (W : World) (hc : W.cell? ⟨r, 1, none⟩ = some (.string id)) :
    Calls Tryz.prog 103 #[.agg #[.string d.id, .int .i64 d.day, d.term.val], .pointer (some ⟨r, 0, none⟩)] W fun e w' => e = .returned (.bool (d.id.toList == id.toList)) ∧ Below W.heap.size W w' := by
  have e1 := d.term.cells_ hd; have e2 := d.term.one_ hd
  have hc2 := cell_below (bl_alloc (bl_refl W) (.cells #[.string d.id, .int .i64 d.day, d.term.val] 133)) hc
  clear hc
  go_enter Tryz.func103, Tryz.ntmps103
  go_wp2_with fail
  go_ret
  exact ⟨rfl, bl_alloc (bl_refl _) _⟩
set_option maxRecDepth 100000 in
set_option maxHeartbeats 1000000 in
theorem dlid_c (d : Dl) (hd : d.term.ok) (r : Nat) (id : ByteArray) (W : World) (hc : W.cell? ⟨r, 1, none⟩ = some (.string id)) :
    Calls Tryz.prog 105 #[.agg #[.string d.id, .int .i64 d.day, d.term.val], .pointer (some ⟨r, 0, none⟩)] W fun e w' => e = .returned (.bool (d.id.toList == id.toList)) ∧ Below W.heap.size W w' := by
  have e1 := d.term.cells_ hd; have e2 := d.term.one_ hd
  have hc2 := cell_below (bl_alloc (bl_refl W) (.cells #[.string d.id, .int .i64 d.day, d.term.val] 133)) hc
  clear hc
  go_enter Tryz.func105, Tryz.ntmps105
  go_wp2_with fail
  go_ret
  exact ⟨rfl, bl_alloc (bl_refl _) _⟩
set_option maxRecDepth 100000 in
set_option maxHeartbeats 1000000 in
theorem wtch_calls (y : Wt) (r : Nat) (s : ByteArray) (W : World) (hc : W.cell? ⟨r, 3, none⟩ = some (.string s)) :
    Calls Tryz.prog 107 #[.agg #[.bool y.choice, .string y.name, .string y.label, .int .i64 y.day, .int .i64 y.side], .pointer (some ⟨r, 0, none⟩)] W fun e w' => e = .returned (.bool (y.choice && y.label.toList == s.toList)) ∧ Below W.heap.size W w' := by
  have hc2 := cell_below (bl_alloc (bl_refl W) (.cells #[.bool y.choice, .string y.name, .string y.label, .int .i64 y.day, .int .i64 y.side] 82)) hc
  clear hc
  obtain ⟨ch, nm, lb, dy, sd⟩ := y
  cases ch with
  | true =>
    go_enter Tryz.func107, Tryz.ntmps107
    go_wp2_with fail
    go_ret
    exact ⟨rfl, bl_alloc (bl_refl _) _⟩
  | false =>
    go_enter Tryz.func107, Tryz.ntmps107
    go_wp2_with fail
    go_ret
    exact ⟨rfl, bl_alloc (bl_refl _) _⟩
set_option maxRecDepth 100000 in
set_option maxHeartbeats 2000000 in
theorem dlfind (g : FuncId) (hcall : ∀ args W, (callFunc g args).run Tryz.prog W = .ok (.enter g args) W) (cv : Value) (A : Option Addr) (n c : Nat) (l : List Dl) (hl : n = l.length) (p : Nat → Bool) (w : World) (hr : Rd w A (l.flatMap Dl.row)) (hn : n ≤ 1000000)
    (hp : ∀ j x, l[j]? = some x → ∀ W, Below w.heap.size w W → Calls Tryz.prog g #[.agg x.row.toArray, cv] W fun e w' => e = .returned (.bool (p j)) ∧ Below W.heap.size W w') :
    Calls Tryz.prog 104 #[.slice A n c, .func (.func g) #[] #[cv]] w (RetIdx w p n) := by
  subst hl
  have HR := Lib.hid hr; have HP := Lib.hid hp
  clear hr hp
  go_enter Tryz.func104, Tryz.ntmps104
  go_wp2
  go_loopw [8] (fun i wr => ∃ k : Nat, k ≤ l.length ∧ i = .int .i64 k ∧ Hid (∀ j, j < k → p j = false) ∧ Below w.heap.size w wr) (fun i _ => l.length - (intOf i).toNat)
  case atStart => exact ⟨0, Nat.zero_le _, rfl, Lib.hid (fun j hj => by omega), bl_refl w⟩
  case round =>
    obtain ⟨k, hk, rfl, hno, hb⟩ := hrel
    by_cases hlt : k < l.length
    · have hxk : l[k]? = some l[k] := List.getElem?_eq_getElem (by omega)
      have hpk := HP.out k _ hxk wr hb
      generalize l[k] = x at *
      obtain ⟨ad, rfl⟩ := rows_ad Dl.row_length (by omega) HR.out hxk
      have HROW := Lib.hid ((rows_rd Dl.row_length HR.out hxk).below hb)
      have HPK := Lib.hid hpk
      clear hpk hxk
      cases hpv : p k with
      | true =>
        have HV := Lib.hid hpv
        have hpk := HPK.out
        rw [hpv] at hpk
        clear hpv HPK
        go_wp2_with (first | (refine wpList_load_rd rfl 133 _ rfl (ad.add (k * 3)) rfl x.row _ HROW.out Tryz.underlying133 rfl (by kernel_rfl) ?_; simp only [Act.put, List.setIfInBounds_toArray, List.set_cons_zero, List.set_cons_succ]) | (refine hpk.mono ?_; rintro e w3 ⟨rfl, hb3⟩))
        go_ret
        exact RetIdx.yes hlt HV.out hno.out (bl_step hb3 hb)
      | false =>
        have HV := Lib.hid hpv
        have hpk := HPK.out
        rw [hpv] at hpk
        clear hpv HPK
        go_wp2_with (first | (refine wpList_load_rd rfl 133 _ rfl (ad.add (k * 3)) rfl x.row _ HROW.out Tryz.underlying133 rfl (by kernel_rfl) ?_; simp only [Act.put, List.setIfInBounds_toArray, List.set_cons_zero, List.set_cons_succ]) | (refine hpk.mono ?_; rintro e w3 ⟨rfl, hb3⟩))
        go_roundw
        case rel =>
          refine ⟨k + 1, by omega, by go_num, Lib.hid (fun j hj => ?_), bl_step hb3 hb⟩
          by_cases e : j = k
          · subst e; exact HV.out
          · exact hno.out j (by omega)
        case measure => simp [intOf]; omega
    · obtain rfl : k = l.length := by omega
      go_wp2
      go_ret
      exact RetIdx.no hno.out hb
set_option maxRecDepth 100000 in
set_option maxHeartbeats 2000000 in
theorem wtfind (g : FuncId) (hcall : ∀ args W, (callFunc g args).run Tryz.prog W = .ok (.enter g args) W) (cv : Value) (A : Option Addr) (n c : Nat) (l : List Wt) (hl : n = l.length) (p : Nat → Bool) (w : World) (hr : Rd w A (l.flatMap Wt.row)) (hn : n ≤ 1000000)
    (hp : ∀ j x, l[j]? = some x → ∀ W, Below w.heap.size w W → Calls Tryz.prog g #[.agg x.row.toArray, cv] W fun e w' => e = .returned (.bool (p j)) ∧ Below W.heap.size W w') :
    Calls Tryz.prog 106 #[.slice A n c, .func (.func g) #[] #[cv]] w (RetIdx w p n) := by
  subst hl
  have HR := Lib.hid hr; have HP := Lib.hid hp
  clear hr hp
  go_enter Tryz.func106, Tryz.ntmps106
  go_wp2
  go_loopw [8] (fun i wr => ∃ k : Nat, k ≤ l.length ∧ i = .int .i64 k ∧ Hid (∀ j, j < k → p j = false) ∧ Below w.heap.size w wr) (fun i _ => l.length - (intOf i).toNat)
  case atStart => exact ⟨0, Nat.zero_le _, rfl, Lib.hid (fun j hj => by omega), bl_refl w⟩
  case round =>
    obtain ⟨k, hk, rfl, hno, hb⟩ := hrel
    by_cases hlt : k < l.length
    · have hxk : l[k]? = some l[k] := List.getElem?_eq_getElem (by omega)
      have hpk := HP.out k _ hxk wr hb
      generalize l[k] = x at *
      obtain ⟨ad, rfl⟩ := rows_ad Wt.row_length (by omega) HR.out hxk
      have HROW := Lib.hid ((rows_rd Wt.row_length HR.out hxk).below hb)
      have HPK := Lib.hid hpk
      clear hpk hxk
      cases hpv : p k with
      | true =>
        have HV := Lib.hid hpv
        have hpk := HPK.out
        rw [hpv] at hpk
        clear hpv HPK
        go_wp2_with (first | (refine wpList_load_rd rfl 82 _ rfl (ad.add (k * 5)) rfl x.row _ HROW.out Tryz.underlying82 rfl (by kernel_rfl) ?_; simp only [Act.put, List.setIfInBounds_toArray, List.set_cons_zero, List.set_cons_succ]) | (refine hpk.mono ?_; rintro e w3 ⟨rfl, hb3⟩))
        go_ret
        exact RetIdx.yes hlt HV.out hno.out (bl_step hb3 hb)
      | false =>
        have HV := Lib.hid hpv
        have hpk := HPK.out
        rw [hpv] at hpk
        clear hpv HPK
        go_wp2_with (first | (refine wpList_load_rd rfl 82 _ rfl (ad.add (k * 5)) rfl x.row _ HROW.out Tryz.underlying82 rfl (by kernel_rfl) ?_; simp only [Act.put, List.setIfInBounds_toArray, List.set_cons_zero, List.set_cons_succ]) | (refine hpk.mono ?_; rintro e w3 ⟨rfl, hb3⟩))
        go_roundw
        case rel =>
          refine ⟨k + 1, by omega, by go_num, Lib.hid (fun j hj => ?_), bl_step hb3 hb⟩
          by_cases e : j = k
          · subst e; exact HV.out
          · exact hno.out j (by omega)
        case measure => simp [intOf]; omega
    · obtain rfl : k = l.length := by omega
      go_wp2
      go_ret
      exact RetIdx.no hno.out hb
theorem hcall_dlt (args : Array Value) (W : World) : (callFunc 103 args).run Tryz.prog W = .ok (.enter 103 args) W := by kernel_rfl
theorem hcall_dlc (args : Array Value) (W : World) : (callFunc 105 args).run Tryz.prog W = .ok (.enter 105 args) W := by kernel_rfl
theorem hcall_wtc (args : Array Value) (W : World) : (callFunc 107 args).run Tryz.prog W = .ok (.enter 107 args) W := by kernel_rfl
end Go.Proofs.YtnekcijganhknaaGreatDoor
