/- Plain: a choice's contract; any contract. -/
import Derived.Test.YtapbkomicihkkaaDoorDo1
import Derived.Test.YtapbkomicihkkaaDoorConv1
namespace Go.Proofs.YtapbkomicihkkaaDoor
open Go.RowKit
set_option linter.unusedVariables false
set_option linter.unusedSimpArgs false

/-- It returns a tree, in new memory. -/
def GivesP (w : World) (t : Tr) (e : Ending) (w' : World) : Prop := ∃ v, e = .returned v ∧ TrAt w.heap.size w' t v ∧ Below w.heap.size w w'
/-- A tree that keeps whatever becomes of block q. -/
def TrK (q x : Nat) (W : World) (t : Tr) (v : Value) : Prop := ∀ W', W.grownBy W' (some q) → TrAt x W' t v
theorem TrK.at_ {q x : Nat} {W : World} {t : Tr} {v : Value} (h : TrK q x W t v) : TrAt x W t v := h W (gb_refl _ _)
theorem TrK.old {q x : Nat} {W0 W : World} {t : Tr} {v : Value} (h : TrAt x W0 t v) (hb : Below W0.heap.size W0 W) (hq : W0.heap.size ≤ q) : TrK q x W t v := fun _ hg => h.below (bl_grown hb hg hq)
theorem TrK.new {q x y : Nat} {W : World} {t : Tr} {v : Value} (h : TrAt y W t v) (hq : q < y) (hx : x ≤ y) : TrK q x W t v := fun _ hg => (h.grown hg hq).mono hx
theorem TrK.below {q x : Nat} {W W' : World} {t : Tr} {v : Value} (h : TrK q x W t v) (hb : Below W.heap.size W W') : TrK q x W' t v := fun _ hg => h _ (gb_trans (gb_below hb _) hg)
def GivesK (q x : Nat) (w : World) (t : Tr) (e : Ending) (w' : World) : Prop := ∃ v, e = .returned v ∧ TrK q x w' t v ∧ Below w.heap.size w w'
def GivesX (x : Nat) (w : World) (t : Tr) (e : Ending) (w' : World) : Prop := ∃ v, e = .returned v ∧ TrAt x w' t v ∧ Below w.heap.size w w'
@[go_sem ↓] theorem bd_T (parts : Array (Nat × Value)) : Instr.build 30 parts = bdN 30 parts := rfl
@[go_sem] theorem run_bd_T0 (W : World) : (bdN 30 #[]).run Tryd.prog W = .ok (.agg #[.int .i64 0, .string ⟨#[]⟩, .int .i64 0, .slice none 0 0]) W := by kernel_rfl
@[go_sem] theorem run_bd_Tk (k : Int) (W : World) : (bdN 30 #[(0, .int .i64 k)]).run Tryd.prog W = .ok (.agg #[.int .i64 k, .string ⟨#[]⟩, .int .i64 0, .slice none 0 0]) W := by kernel_rfl
@[go_sem] theorem run_bd_Tks (k : Int) (s : ByteArray) (W : World) : (bdN 30 #[(0, .int .i64 k), (1, .string s)]).run Tryd.prog W = .ok (.agg #[.int .i64 k, .string s, .int .i64 0, .slice none 0 0]) W := by kernel_rfl
@[go_sem] theorem run_bd_Tkn (k n : Int) (W : World) : (bdN 30 #[(0, .int .i64 k), (2, .int .i64 n)]).run Tryd.prog W = .ok (.agg #[.int .i64 k, .string ⟨#[]⟩, .int .i64 n, .slice none 0 0]) W := by kernel_rfl
@[go_sem] theorem run_bd_TkK (k : Int) (A : Option Addr) (n c : Nat) (W : World) : (bdN 30 #[(0, .int .i64 k), (3, .slice A n c)]).run Tryd.prog W = .ok (.agg #[.int .i64 k, .string ⟨#[]⟩, .int .i64 0, .slice A n c]) W := by kernel_rfl
@[go_sem] theorem run_bd_TknK (k m : Int) (A : Option Addr) (n c : Nat) (W : World) : (bdN 30 #[(0, .int .i64 k), (2, .int .i64 m), (3, .slice A n c)]).run Tryd.prog W = .ok (.agg #[.int .i64 k, .string ⟨#[]⟩, .int .i64 m, .slice A n c]) W := by kernel_rfl
set_option maxRecDepth 100000 in
set_option maxHeartbeats 4000000 in
theorem two_keep (k : Int) (l r : Tr) (vl vr : Value) (q x : Nat) (w : World) (hx : x ≤ w.heap.size) (hq : q ≤ w.heap.size) (hl : TrK q x w l vl) (hr : TrK q x w r vr) :
    Calls Tryd.prog 50 #[.int .i64 k, vl, vr] w (GivesK q x w (.mk k nS 0 [l, r])) := by
  obtain ⟨A1, c1, cs1, rfl, -, -⟩ := hl.at_.open_
  obtain ⟨A2, c2, cs2, rfl, -, -⟩ := hr.at_.open_
  unfold GivesK
  generalize h1 : l.kind = k1 at *
  generalize h2 : l.s = s1 at *
  generalize h3 : l.n = n1 at *
  generalize h4 : l.ks.length = m1 at *
  generalize h5 : r.kind = k2 at *
  generalize h6 : r.s = s2 at *
  generalize h7 : r.n = n2 at *
  generalize h8 : r.ks.length = m2 at *
  clear h1 h2 h3 h4 h5 h6 h7 h8
  have HL := Lib.hid hl; have HR := Lib.hid hr; have HX := Lib.hid hx; have HQ := Lib.hid hq
  clear hl hr hx hq
  obtain ⟨W1, hW1⟩ : ∃ W1, ((w.alloc (.cells #[.int .i64 k1, .string s1, .int .i64 n1, .slice A1 m1 c1] 30)).alloc (.cells #[.int .i64 k2, .string s2, .int .i64 n2, .slice A2 m2 c2] 30)).alloc (.cells #[.int .i64 0, .string ⟨#[]⟩, .int .i64 0, .slice none 0 0] 30) = W1 := ⟨_, rfl⟩
  have hb1 := bl_alloc (bl_alloc (bl_alloc (bl_refl w) (.cells #[.int .i64 k1, .string s1, .int .i64 n1, .slice A1 m1 c1] 30)) (.cells #[.int .i64 k2, .string s2, .int .i64 n2, .slice A2 m2 c2] 30)) (.cells #[.int .i64 0, .string ⟨#[]⟩, .int .i64 0, .slice none 0 0] 30)
  have ha1 := ((Blk.new w #[.int .i64 k1, .string s1, .int .i64 n1, .slice A1 m1 c1] 30).below (bl_alloc (bl_refl _) (.cells #[.int .i64 k2, .string s2, .int .i64 n2, .slice A2 m2 c2] 30))).below (bl_alloc (bl_refl _) (.cells #[.int .i64 0, .string ⟨#[]⟩, .int .i64 0, .slice none 0 0] 30))
  have ha2 := (Blk_new (w.alloc (.cells #[.int .i64 k1, .string s1, .int .i64 n1, .slice A1 m1 c1] 30)) #[.int .i64 k2, .string s2, .int .i64 n2, .slice A2 m2 c2] 30 (w.heap.size + 1) (alloc_size _ _).symm).below (bl_alloc (bl_refl _) (.cells #[.int .i64 0, .string ⟨#[]⟩, .int .i64 0, .slice none 0 0] 30))
  have ha3 := Blk_new ((w.alloc (.cells #[.int .i64 k1, .string s1, .int .i64 n1, .slice A1 m1 c1] 30)).alloc (.cells #[.int .i64 k2, .string s2, .int .i64 n2, .slice A2 m2 c2] 30)) #[.int .i64 0, .string ⟨#[]⟩, .int .i64 0, .slice none 0 0] 30 (w.heap.size + 1 + 1) (by rw [alloc_size, alloc_size])
  rw [hW1] at hb1 ha1 ha2 ha3
  have hs1 : W1.heap.size = w.heap.size + 1 + 1 + 1 := by rw [← hW1, alloc_size, alloc_size, alloc_size]
  obtain ⟨x0, x1, x2, x3⟩ := ha1.fours
  obtain ⟨y0, y1, y2, y3⟩ := ha2.fours
  obtain ⟨⟨z0, z1, z2, z3⟩, ⟨f0, f1, f2, f3⟩⟩ := ha3.four
  have hlt := ha3.lt
  have HW1 := Lib.hid hW1; have HB1 := Lib.hid hb1; have HA3 := Lib.hid ha3; have HS1 := Lib.hid hs1
  clear hW1 hb1 ha1 ha2 ha3 hs1
  go_enter Tryd.func50, Tryd.ntmps50
  go_upto_region 1 with fail
  rw [HW1.out]
  clear HW1
  go_wp2_with fail
  (try simp only [Exit.inBlock, Exit.then])
  refine bodyPost_ret (results_T rfl _ _ (w.heap.size + 1 + 1) _ _ _ _ _ rfl ((HA3.out.set4 _ _ _ _).below (bl_alloc (bl_refl _) _))) rfl ?_
  have hs := HS1.out
  have hx := HX.out
  have hbF := bl_alloc (bl_grown HB1.out (gb4 W1 (w.heap.size + 1 + 1) (.int .i64 k) (.string ⟨#[]⟩) (.int .i64 0) (.slice (some ⟨W1.heap.size, 0, none⟩) 2 2)) (by omega)) (.cells #[.int .i64 k1, .string s1, .int .i64 n1, .slice A1 m1 c1, .int .i64 k2, .string s2, .int .i64 n2, .slice A2 m2 c2] 30)
  have hkF := Blk_new ((((W1.setCell ⟨w.heap.size + 1 + 1, 0, none⟩ (.int .i64 k)).setCell ⟨w.heap.size + 1 + 1, 1, none⟩ (.string ⟨#[]⟩)).setCell ⟨w.heap.size + 1 + 1, 2, none⟩ (.int .i64 0)).setCell ⟨w.heap.size + 1 + 1, 3, none⟩ (.slice (some ⟨W1.heap.size, 0, none⟩) 2 2)) #[.int .i64 k1, .string s1, .int .i64 n1, .slice A1 m1 c1, .int .i64 k2, .string s2, .int .i64 n2, .slice A2 m2 c2] 30 W1.heap.size (size_set4 _ _ _ _ _ _).symm
  have hqq := HQ.out
  refine ⟨_, rfl, fun W' hg => ?_, hbF⟩
  have hgw := gb_trans (gb_below hbF (some q)) hg
  exact TrAt.mk_ (k := k) (s := nS) (n := 0) (c := 2) (RowOf.new (x := x) (hkF.grown hg (fun e => by injection e with e; omega)) (by omega)) (TrsAt.cons (HL.out _ hgw) (TrsAt.cons (HR.out _ hgw) (TrsAt.nil _ _)))
theorem two_calls (k : Int) (l r : Tr) (vl vr : Value) (x : Nat) (w : World) (hx : x ≤ w.heap.size) (hl : TrAt x w l vl) (hr : TrAt x w r vr) :
    Calls Tryd.prog 50 #[.int .i64 k, vl, vr] w (GivesX x w (.mk k nS 0 [l, r])) :=
  (two_keep k l r vl vr w.heap.size x w hx (Nat.le_refl _) (TrK.old hl (bl_refl _) (Nat.le_refl _)) (TrK.old hr (bl_refl _) (Nat.le_refl _))).mono fun e w' ⟨v, he, hT, hb⟩ => ⟨v, he, hT.at_, hb⟩
set_option maxRecDepth 100000 in
set_option maxHeartbeats 4000000 in
theorem pobs_leaf (o : Ob) (ho : o.ok) (hk : o.kids = []) (w : World) : Calls Tryd.prog 32 #[o.val] w (GivesP w o.tr) := by
  unfold GivesP
  cases o with
  | const n =>
    unfold Ob.val Ob.tr
    obtain ⟨W1, hW1⟩ : ∃ W1, (w.alloc (.cells #[.int .i64 0, .string ⟨#[]⟩, .int .i64 0, .slice none 0 0] 30)).alloc (.cells #[.int .i64 n] 39) = W1 := ⟨_, rfl⟩
    have hb1 := bl_alloc (bl_alloc (bl_refl w) (.cells #[.int .i64 0, .string ⟨#[]⟩, .int .i64 0, .slice none 0 0] 30)) (.cells #[.int .i64 n] 39)
    have hkR := (Blk.new w #[.int .i64 0, .string ⟨#[]⟩, .int .i64 0, .slice none 0 0] 30).below (bl_alloc (bl_refl _) (.cells #[.int .i64 n] 39))
    have hkX := Blk_new (w.alloc (.cells #[.int .i64 0, .string ⟨#[]⟩, .int .i64 0, .slice none 0 0] 30)) #[.int .i64 n] 39 (w.heap.size + 1) (alloc_size _ _).symm
    rw [hW1] at hb1 hkR hkX
    have hlt := hkR.lt
    have hltX := hkX.lt
    have HW1 := Lib.hid hW1; have HB1 := Lib.hid hb1; have HKR := Lib.hid hkR; have HKX := Lib.hid hkX
    clear hW1 hb1 hkR hkX
    obtain ⟨⟨r0, r1, r2, r3⟩, ⟨f0, f1, f2, f3⟩⟩ := HKR.out.four
    have x0 := HKX.out.cell 0
    go_enter Tryd.func32, Tryd.ntmps32
    go_upto_region 4 with fail
    rw [HW1.out]
    go_wp2_with fail
    (try simp only [Exit.inBlock, Exit.then])
    refine bodyPost_ret (results_T rfl _ _ w.heap.size _ _ _ _ _ rfl ((HKR.out).set4 _ _ _ _)) rfl ?_
    exact ⟨_, rfl, TrAt.leaf _ _ _ _ _ _, bl_grown HB1.out (gb4 _ _ _ _ _ _) (Nat.le_refl _)⟩
  | fix s =>
    unfold Ob.val Ob.tr
    obtain ⟨W1, hW1⟩ : ∃ W1, (w.alloc (.cells #[.int .i64 0, .string ⟨#[]⟩, .int .i64 0, .slice none 0 0] 30)).alloc (.cells #[.string s] 37) = W1 := ⟨_, rfl⟩
    have hb1 := bl_alloc (bl_alloc (bl_refl w) (.cells #[.int .i64 0, .string ⟨#[]⟩, .int .i64 0, .slice none 0 0] 30)) (.cells #[.string s] 37)
    have hkR := (Blk.new w #[.int .i64 0, .string ⟨#[]⟩, .int .i64 0, .slice none 0 0] 30).below (bl_alloc (bl_refl _) (.cells #[.string s] 37))
    have hkX := Blk_new (w.alloc (.cells #[.int .i64 0, .string ⟨#[]⟩, .int .i64 0, .slice none 0 0] 30)) #[.string s] 37 (w.heap.size + 1) (alloc_size _ _).symm
    rw [hW1] at hb1 hkR hkX
    have hlt := hkR.lt
    have hltX := hkX.lt
    have HW1 := Lib.hid hW1; have HB1 := Lib.hid hb1; have HKR := Lib.hid hkR; have HKX := Lib.hid hkX
    clear hW1 hb1 hkR hkX
    obtain ⟨⟨r0, r1, r2, r3⟩, ⟨f0, f1, f2, f3⟩⟩ := HKR.out.four
    have x0 := HKX.out.cell 0
    go_enter Tryd.func32, Tryd.ntmps32
    go_upto_region 7 with fail
    rw [HW1.out]
    go_wp2_with fail
    (try simp only [Exit.inBlock, Exit.then])
    refine bodyPost_ret (results_T rfl _ _ w.heap.size _ _ _ _ _ rfl ((HKR.out).set4 _ _ _ _)) rfl ?_
    exact ⟨_, rfl, TrAt.leaf _ _ _ _ _ _, bl_grown HB1.out (gb4 _ _ _ _ _ _) (Nat.le_refl _)⟩
  | odd v =>
    have hkR := Blk.new w #[.int .i64 0, .string ⟨#[]⟩, .int .i64 0, .slice none 0 0] 30
    have hb1 := bl_alloc (bl_refl w) (.cells #[.int .i64 0, .string ⟨#[]⟩, .int .i64 0, .slice none 0 0] 30)
    unfold Ob.tr
    rcases ho with h | ⟨t, x, h, h1, h2, h3, h4, h5, h6⟩
    all_goals
      subst h
      unfold Ob.val
      go_enter Tryd.func32, Tryd.ntmps32
      go_wp2_with fail
      (try simp only [Exit.inBlock, Exit.then])
      refine bodyPost_ret (results_T rfl _ _ w.heap.size _ _ _ _ _ rfl (Blk.new w _ _)) rfl ?_
      exact ⟨_, rfl, TrAt.leaf _ _ _ _ _ _, bl_alloc (bl_refl w) _⟩
  | _ => cases hk
set_option maxRecDepth 100000 in
set_option maxHeartbeats 4000000 in
theorem plobs_calls : ∀ (o : Ob), o.ok → ∀ (w : World), Calls Tryd.prog 32 #[o.val] w (GivesP w o.tr) := by
  intro o
  induction o with
  | const n => intro ho w; exact pobs_leaf _ ho rfl w
  | fix s => intro ho w; exact pobs_leaf _ ho rfl w
  | odd v => intro ho w; exact pobs_leaf _ ho rfl w
  | neg o ih =>
    intro ho w
    unfold GivesP
    have hok : o.ok := ho
    have hl := o.isI hok
    have IH := Lib.hid (ih hok)
    clear ih
    unfold GivesP at IH
    unfold Ob.val Ob.tr
    obtain ⟨W1, hW1⟩ : ∃ W1, (w.alloc (.cells #[.int .i64 0, .string ⟨#[]⟩, .int .i64 0, .slice none 0 0] 30)).alloc (.cells #[o.val] 42) = W1 := ⟨_, rfl⟩
    have hb1 := bl_alloc (bl_alloc (bl_refl w) (.cells #[.int .i64 0, .string ⟨#[]⟩, .int .i64 0, .slice none 0 0] 30)) (.cells #[o.val] 42)
    have hkR := (Blk.new w #[.int .i64 0, .string ⟨#[]⟩, .int .i64 0, .slice none 0 0] 30).below (bl_alloc (bl_refl _) (.cells #[o.val] 42))
    have hkX := Blk_new (w.alloc (.cells #[.int .i64 0, .string ⟨#[]⟩, .int .i64 0, .slice none 0 0] 30)) #[o.val] 42 (w.heap.size + 1) (alloc_size _ _).symm
    rw [hW1] at hb1 hkR hkX
    have hlt := hkR.lt
    have hltX := hkX.lt
    have HW1 := Lib.hid hW1; have HB1 := Lib.hid hb1; have HKR := Lib.hid hkR; have HKX := Lib.hid hkX
    clear hW1 hb1 hkR hkX
    have x0 := HKX.out.cell 0
    simp only [List.getElem?_toArray, List.getElem?_cons_zero, List.getElem?_cons_succ] at x0
    go_enter Tryd.func32, Tryd.ntmps32
    go_upto_region 13 with fail
    rw [HW1.out]
    go_wp2_with fail
    refine (IH.out _).mono ?_
    rintro en w2 ⟨v, rfl, hT, hb2⟩
    obtain ⟨A2, c2, cs2, rfl, -, -⟩ := hT.open_
    have hb3 := bl_step hb2 HB1.out
    have hkR2 := HKR.out.below hb2
    have hlt2 := hkR2.lt
    obtain ⟨⟨r0, r1, r2, r3⟩, ⟨f0, f1, f2, f3⟩⟩ := hkR2.four
    have HT := Lib.hid hT; have HB3 := Lib.hid hb3; have HKR2 := Lib.hid hkR2
    clear hT hb3 hkR2
    go_wp2_with fail
    (try simp only [Exit.inBlock, Exit.then])
    refine bodyPost_ret (results_T rfl _ _ w.heap.size _ _ _ _ _ rfl ((HKR2.out.set4 _ _ _ _).below (bl_alloc (bl_refl _) _))) rfl ?_
    have hlt1 := HB1.out.size
    refine ⟨_, rfl, TrAt.mk_ (RowOf.new (Blk_new _ _ _ w2.heap.size (size_set4 _ _ _ _ _ _).symm) (by omega)) (TrsAt.cons (TrAt.mono (((HT.out).set4 (r := w.heap.size) (by have := HKX.out.lt; omega) _ _ _ _).below (bl_alloc (bl_refl _) _)) (by omega)) (TrsAt.nil _ _)), bl_alloc (bl_grown HB3.out (gb4 _ _ _ _ _ _) (Nat.le_refl _)) _⟩
  | add l r ihl ihr =>
    intro ho w
    unfold GivesP
    have hok := ho
    have hl := l.isI ho.1
    have hr := r.isI ho.2
    have hol := ho.1; have hor := ho.2
    have IL := Lib.hid (ihl ho.1); have IR := Lib.hid (ihr ho.2)
    clear ihl ihr
    unfold Ob.val Ob.tr
    obtain ⟨W1, hW1⟩ : ∃ W1, (w.alloc (.cells #[.int .i64 0, .string ⟨#[]⟩, .int .i64 0, .slice none 0 0] 30)).alloc (.cells #[l.val, r.val] 60) = W1 := ⟨_, rfl⟩
    have hb1 := bl_alloc (bl_alloc (bl_refl w) (.cells #[.int .i64 0, .string ⟨#[]⟩, .int .i64 0, .slice none 0 0] 30)) (.cells #[l.val, r.val] 60)
    have hkR := (Blk.new w #[.int .i64 0, .string ⟨#[]⟩, .int .i64 0, .slice none 0 0] 30).below (bl_alloc (bl_refl _) (.cells #[l.val, r.val] 60))
    have hkX := Blk_new (w.alloc (.cells #[.int .i64 0, .string ⟨#[]⟩, .int .i64 0, .slice none 0 0] 30)) #[l.val, r.val] 60 (w.heap.size + 1) (alloc_size _ _).symm
    rw [hW1] at hb1 hkR hkX
    have hlt := hkR.lt
    have hltX := hkX.lt
    have HW1 := Lib.hid hW1; have HB1 := Lib.hid hb1; have HKR := Lib.hid hkR; have HKX := Lib.hid hkX
    clear hW1 hb1 hkR hkX
    have x0 := HKX.out.cell 0
    have x1 := HKX.out.cell 1
    simp only [List.getElem?_toArray, List.getElem?_cons_zero, List.getElem?_cons_succ] at x0 x1
    unfold GivesP at IL IR
    go_enter Tryd.func32, Tryd.ntmps32
    go_upto_region 10 with fail
    rw [HW1.out]
    refine wp_region_noPanic ?_
    refine wp_region_held_drew (S := fun w' => w'.cell? ⟨w.heap.size + 1, 0, none⟩ = some l.val ∧ w'.cell? ⟨w.heap.size + 1, 1, none⟩ = some r.val) (by kernel_rfl) ⟨x0, x1⟩ (fun hH => ?_)
    clear x0 x1 HW1
    refine wpAnyH_world (fun W => Below W1.heap.size W1 W) (bl_drew (bl_refl _)) (fun W2 hb2 => ?_)
    clear hH
    have hH : W2.cell? ⟨w.heap.size + 1, 0, none⟩ = some l.val ∧ W2.cell? ⟨w.heap.size + 1, 1, none⟩ = some r.val := ⟨(HKX.out.below hb2).cell 0, (HKX.out.below hb2).cell 1⟩
    refine tkx 0 rfl ?_
    refine tkx 1 rfl ?_
    refine tkx 3 rfl ?_
    refine tkx 4 rfl ?_
    refine wpAnyH_ready (rs := [2]) (by kernel_rfl) (by simp) ?_
    refine AllReadyH.cons rfl (fun K hK => ?_) AllReadyH.nil
    (try go_simp)
    refine (IL.out _).mono ?_
    rintro en W3 ⟨v1, rfl, hT1, hb3⟩
    (try go_simp)
    have hb4 := bl_step hb3 hb2
    refine hK.out _ _ ⟨(HKX.out.below hb4).cell 0, (HKX.out.below hb4).cell 1⟩ (fun hH9 => ?_)
    clear hK K hH
    have hH := hH9
    clear hH9
    (try dsimp only [Act.put, List.setIfInBounds_toArray, List.set_cons_zero, List.set_cons_succ])
    refine wpAnyH_ready (rs := [5]) (by kernel_rfl) (by simp) ?_
    refine AllReadyH.cons rfl (fun K hK => ?_) AllReadyH.nil
    (try go_simp)
    refine (IR.out _).mono ?_
    rintro en W4 ⟨v2, rfl, hT2, hb5⟩
    (try go_simp)
    have hb6 := bl_step hb5 hb4
    refine hK.out _ _ ⟨(HKX.out.below hb6).cell 0, (HKX.out.below hb6).cell 1⟩ (fun hH9 => ?_)
    clear hK K hH
    have hH := hH9
    clear hH9
    (try dsimp only [Act.put, List.setIfInBounds_toArray, List.set_cons_zero, List.set_cons_succ])
    refine wpAnyH_ready (rs := [6]) (by kernel_rfl) (by simp) ?_
    refine AllReadyH.cons rfl (fun K hK => ?_) AllReadyH.nil
    (try go_simp)
    have hz2 := hb2.size
    have hz3 := hb3.size
    have hz5 := hb5.size
    refine (two_calls 13 l.tr r.tr v1 v2 W1.heap.size W4 (by omega) ((hT1.below hb5).mono (by omega)) (hT2.mono (by omega))).mono ?_
    unfold GivesX
    rintro en W5 ⟨v3, rfl, hT3, hb7⟩
    obtain ⟨A3, c3, cs3, rfl, -, -⟩ := hT3.open_
    simp only [Tr.kind, Tr.s, Tr.n, Tr.ks, List.length_cons, List.length_nil] at hT3 ⊢
    (try go_simp)
    have hb8 := bl_step hb7 hb6
    refine hK.out _ _ ⟨(HKX.out.below hb8).cell 0, (HKX.out.below hb8).cell 1⟩ (fun hH9 => ?_)
    clear hK K hH hH9
    (try dsimp only [Act.put, List.setIfInBounds_toArray, List.set_cons_zero, List.set_cons_succ])
    have HKR5 := Lib.hid (HKR.out.below hb8); have HT3 := Lib.hid hT3; have HB8 := Lib.hid hb8
    clear hT1 hT2 hT3 hb2 hb3 hb4 hb5 hb6 hb7 hz2 hz3 hz5
    obtain ⟨⟨r0, r1, r2, r3⟩, ⟨f0, f1, f2, f3⟩⟩ := HKR5.out.four
    refine wpAnyH_ready (rs := [7]) (by kernel_rfl) (by simp) ?_
    refine AllReadyH.cons rfl (fun K hK => ?_) AllReadyH.nil
    (try go_simp)
    have hkX9 := (HKX.out.below hb8).grown (gb4 W5 w.heap.size (.int .i64 13) (.string nS) (.int .i64 0) (.slice A3 (0 + 1 + 1) c3)) (fun e => by injection e with e; omega)
    refine hK.out _ _ ⟨hkX9.cell 0, hkX9.cell 1⟩ (fun hH9 => ?_)
    clear hK K hH9 hkX9 hb8 r0 r1 r2 r3 f0 f1 f2 f3
    (try dsimp only [Act.put, List.setIfInBounds_toArray, List.set_cons_zero, List.set_cons_succ])
    refine wpAnyH_done (by kernel_rfl) ?_ _
    refine NoPanic.normal ?_
    go_wp2_with fail
    (try simp only [Exit.inBlock, Exit.then])
    refine bodyPost_ret (results_T rfl _ _ w.heap.size _ _ _ _ _ rfl ((HKR5.out).set4 _ _ _ _)) rfl ?_
    have hlt1 := HB1.out.size
    refine ⟨_, rfl, TrAt.mono (HT3.out.set4 (r := w.heap.size) (by omega) _ _ _ _) (by omega), bl_grown (bl_step HB8.out HB1.out) (gb4 _ _ _ _ _ _) (Nat.le_refl _)⟩
  | mul l r ihl ihr =>
    intro ho w
    unfold GivesP
    have hok := ho
    have hl := l.isI ho.1
    have hr := r.isI ho.2
    have hol := ho.1; have hor := ho.2
    have IL := Lib.hid (ihl ho.1); have IR := Lib.hid (ihr ho.2)
    clear ihl ihr
    unfold Ob.val Ob.tr
    obtain ⟨W1, hW1⟩ : ∃ W1, (w.alloc (.cells #[.int .i64 0, .string ⟨#[]⟩, .int .i64 0, .slice none 0 0] 30)).alloc (.cells #[l.val, r.val] 44) = W1 := ⟨_, rfl⟩
    have hb1 := bl_alloc (bl_alloc (bl_refl w) (.cells #[.int .i64 0, .string ⟨#[]⟩, .int .i64 0, .slice none 0 0] 30)) (.cells #[l.val, r.val] 44)
    have hkR := (Blk.new w #[.int .i64 0, .string ⟨#[]⟩, .int .i64 0, .slice none 0 0] 30).below (bl_alloc (bl_refl _) (.cells #[l.val, r.val] 44))
    have hkX := Blk_new (w.alloc (.cells #[.int .i64 0, .string ⟨#[]⟩, .int .i64 0, .slice none 0 0] 30)) #[l.val, r.val] 44 (w.heap.size + 1) (alloc_size _ _).symm
    rw [hW1] at hb1 hkR hkX
    have hlt := hkR.lt
    have hltX := hkX.lt
    have HW1 := Lib.hid hW1; have HB1 := Lib.hid hb1; have HKR := Lib.hid hkR; have HKX := Lib.hid hkX
    clear hW1 hb1 hkR hkX
    have x0 := HKX.out.cell 0
    have x1 := HKX.out.cell 1
    simp only [List.getElem?_toArray, List.getElem?_cons_zero, List.getElem?_cons_succ] at x0 x1
    unfold GivesP at IL IR
    go_enter Tryd.func32, Tryd.ntmps32
    go_upto_region 16 with fail
    rw [HW1.out]
    refine wp_region_noPanic ?_
    refine wp_region_held_drew (S := fun w' => w'.cell? ⟨w.heap.size + 1, 0, none⟩ = some l.val ∧ w'.cell? ⟨w.heap.size + 1, 1, none⟩ = some r.val) (by kernel_rfl) ⟨x0, x1⟩ (fun hH => ?_)
    clear x0 x1 HW1
    refine wpAnyH_world (fun W => Below W1.heap.size W1 W) (bl_drew (bl_refl _)) (fun W2 hb2 => ?_)
    clear hH
    have hH : W2.cell? ⟨w.heap.size + 1, 0, none⟩ = some l.val ∧ W2.cell? ⟨w.heap.size + 1, 1, none⟩ = some r.val := ⟨(HKX.out.below hb2).cell 0, (HKX.out.below hb2).cell 1⟩
    refine tkx 0 rfl ?_
    refine tkx 1 rfl ?_
    refine tkx 3 rfl ?_
    refine tkx 4 rfl ?_
    refine wpAnyH_ready (rs := [2]) (by kernel_rfl) (by simp) ?_
    refine AllReadyH.cons rfl (fun K hK => ?_) AllReadyH.nil
    (try go_simp)
    refine (IL.out _).mono ?_
    rintro en W3 ⟨v1, rfl, hT1, hb3⟩
    (try go_simp)
    have hb4 := bl_step hb3 hb2
    refine hK.out _ _ ⟨(HKX.out.below hb4).cell 0, (HKX.out.below hb4).cell 1⟩ (fun hH9 => ?_)
    clear hK K hH
    have hH := hH9
    clear hH9
    (try dsimp only [Act.put, List.setIfInBounds_toArray, List.set_cons_zero, List.set_cons_succ])
    refine wpAnyH_ready (rs := [5]) (by kernel_rfl) (by simp) ?_
    refine AllReadyH.cons rfl (fun K hK => ?_) AllReadyH.nil
    (try go_simp)
    refine (IR.out _).mono ?_
    rintro en W4 ⟨v2, rfl, hT2, hb5⟩
    (try go_simp)
    have hb6 := bl_step hb5 hb4
    refine hK.out _ _ ⟨(HKX.out.below hb6).cell 0, (HKX.out.below hb6).cell 1⟩ (fun hH9 => ?_)
    clear hK K hH
    have hH := hH9
    clear hH9
    (try dsimp only [Act.put, List.setIfInBounds_toArray, List.set_cons_zero, List.set_cons_succ])
    refine wpAnyH_ready (rs := [6]) (by kernel_rfl) (by simp) ?_
    refine AllReadyH.cons rfl (fun K hK => ?_) AllReadyH.nil
    (try go_simp)
    have hz2 := hb2.size
    have hz3 := hb3.size
    have hz5 := hb5.size
    refine (two_calls 15 l.tr r.tr v1 v2 W1.heap.size W4 (by omega) ((hT1.below hb5).mono (by omega)) (hT2.mono (by omega))).mono ?_
    unfold GivesX
    rintro en W5 ⟨v3, rfl, hT3, hb7⟩
    obtain ⟨A3, c3, cs3, rfl, -, -⟩ := hT3.open_
    simp only [Tr.kind, Tr.s, Tr.n, Tr.ks, List.length_cons, List.length_nil] at hT3 ⊢
    (try go_simp)
    have hb8 := bl_step hb7 hb6
    refine hK.out _ _ ⟨(HKX.out.below hb8).cell 0, (HKX.out.below hb8).cell 1⟩ (fun hH9 => ?_)
    clear hK K hH hH9
    (try dsimp only [Act.put, List.setIfInBounds_toArray, List.set_cons_zero, List.set_cons_succ])
    have HKR5 := Lib.hid (HKR.out.below hb8); have HT3 := Lib.hid hT3; have HB8 := Lib.hid hb8
    clear hT1 hT2 hT3 hb2 hb3 hb4 hb5 hb6 hb7 hz2 hz3 hz5
    obtain ⟨⟨r0, r1, r2, r3⟩, ⟨f0, f1, f2, f3⟩⟩ := HKR5.out.four
    refine wpAnyH_ready (rs := [7]) (by kernel_rfl) (by simp) ?_
    refine AllReadyH.cons rfl (fun K hK => ?_) AllReadyH.nil
    (try go_simp)
    have hkX9 := (HKX.out.below hb8).grown (gb4 W5 w.heap.size (.int .i64 15) (.string nS) (.int .i64 0) (.slice A3 (0 + 1 + 1) c3)) (fun e => by injection e with e; omega)
    refine hK.out _ _ ⟨hkX9.cell 0, hkX9.cell 1⟩ (fun hH9 => ?_)
    clear hK K hH9 hkX9 hb8 r0 r1 r2 r3 f0 f1 f2 f3
    (try dsimp only [Act.put, List.setIfInBounds_toArray, List.set_cons_zero, List.set_cons_succ])
    refine wpAnyH_done (by kernel_rfl) ?_ _
    refine NoPanic.normal ?_
    go_wp2_with fail
    (try simp only [Exit.inBlock, Exit.then])
    refine bodyPost_ret (results_T rfl _ _ w.heap.size _ _ _ _ _ rfl ((HKR5.out).set4 _ _ _ _)) rfl ?_
    have hlt1 := HB1.out.size
    refine ⟨_, rfl, TrAt.mono (HT3.out.set4 (r := w.heap.size) (by omega) _ _ _ _) (by omega), bl_grown (bl_step HB8.out HB1.out) (gb4 _ _ _ _ _ _) (Nat.le_refl _)⟩
  | max l r ihl ihr =>
    intro ho w
    unfold GivesP
    have hok := ho
    have hl := l.isI ho.1
    have hr := r.isI ho.2
    have hol := ho.1; have hor := ho.2
    have IL := Lib.hid (ihl ho.1); have IR := Lib.hid (ihr ho.2)
    clear ihl ihr
    unfold Ob.val Ob.tr
    obtain ⟨W1, hW1⟩ : ∃ W1, (w.alloc (.cells #[.int .i64 0, .string ⟨#[]⟩, .int .i64 0, .slice none 0 0] 30)).alloc (.cells #[l.val, r.val] 61) = W1 := ⟨_, rfl⟩
    have hb1 := bl_alloc (bl_alloc (bl_refl w) (.cells #[.int .i64 0, .string ⟨#[]⟩, .int .i64 0, .slice none 0 0] 30)) (.cells #[l.val, r.val] 61)
    have hkR := (Blk.new w #[.int .i64 0, .string ⟨#[]⟩, .int .i64 0, .slice none 0 0] 30).below (bl_alloc (bl_refl _) (.cells #[l.val, r.val] 61))
    have hkX := Blk_new (w.alloc (.cells #[.int .i64 0, .string ⟨#[]⟩, .int .i64 0, .slice none 0 0] 30)) #[l.val, r.val] 61 (w.heap.size + 1) (alloc_size _ _).symm
    rw [hW1] at hb1 hkR hkX
    have hlt := hkR.lt
    have hltX := hkX.lt
    have HW1 := Lib.hid hW1; have HB1 := Lib.hid hb1; have HKR := Lib.hid hkR; have HKX := Lib.hid hkX
    clear hW1 hb1 hkR hkX
    have x0 := HKX.out.cell 0
    have x1 := HKX.out.cell 1
    simp only [List.getElem?_toArray, List.getElem?_cons_zero, List.getElem?_cons_succ] at x0 x1
    unfold GivesP at IL IR
    go_enter Tryd.func32, Tryd.ntmps32
    go_upto_region 19 with fail
    rw [HW1.out]
    refine wp_region_noPanic ?_
    refine wp_region_held_drew (S := fun w' => w'.cell? ⟨w.heap.size + 1, 0, none⟩ = some l.val ∧ w'.cell? ⟨w.heap.size + 1, 1, none⟩ = some r.val) (by kernel_rfl) ⟨x0, x1⟩ (fun hH => ?_)
    clear x0 x1 HW1
    refine wpAnyH_world (fun W => Below W1.heap.size W1 W) (bl_drew (bl_refl _)) (fun W2 hb2 => ?_)
    clear hH
    have hH : W2.cell? ⟨w.heap.size + 1, 0, none⟩ = some l.val ∧ W2.cell? ⟨w.heap.size + 1, 1, none⟩ = some r.val := ⟨(HKX.out.below hb2).cell 0, (HKX.out.below hb2).cell 1⟩
    refine tkx 0 rfl ?_
    refine tkx 1 rfl ?_
    refine tkx 3 rfl ?_
    refine tkx 4 rfl ?_
    refine wpAnyH_ready (rs := [2]) (by kernel_rfl) (by simp) ?_
    refine AllReadyH.cons rfl (fun K hK => ?_) AllReadyH.nil
    (try go_simp)
    refine (IL.out _).mono ?_
    rintro en W3 ⟨v1, rfl, hT1, hb3⟩
    (try go_simp)
    have hb4 := bl_step hb3 hb2
    refine hK.out _ _ ⟨(HKX.out.below hb4).cell 0, (HKX.out.below hb4).cell 1⟩ (fun hH9 => ?_)
    clear hK K hH
    have hH := hH9
    clear hH9
    (try dsimp only [Act.put, List.setIfInBounds_toArray, List.set_cons_zero, List.set_cons_succ])
    refine wpAnyH_ready (rs := [5]) (by kernel_rfl) (by simp) ?_
    refine AllReadyH.cons rfl (fun K hK => ?_) AllReadyH.nil
    (try go_simp)
    refine (IR.out _).mono ?_
    rintro en W4 ⟨v2, rfl, hT2, hb5⟩
    (try go_simp)
    have hb6 := bl_step hb5 hb4
    refine hK.out _ _ ⟨(HKX.out.below hb6).cell 0, (HKX.out.below hb6).cell 1⟩ (fun hH9 => ?_)
    clear hK K hH
    have hH := hH9
    clear hH9
    (try dsimp only [Act.put, List.setIfInBounds_toArray, List.set_cons_zero, List.set_cons_succ])
    refine wpAnyH_ready (rs := [6]) (by kernel_rfl) (by simp) ?_
    refine AllReadyH.cons rfl (fun K hK => ?_) AllReadyH.nil
    (try go_simp)
    have hz2 := hb2.size
    have hz3 := hb3.size
    have hz5 := hb5.size
    refine (two_calls 16 l.tr r.tr v1 v2 W1.heap.size W4 (by omega) ((hT1.below hb5).mono (by omega)) (hT2.mono (by omega))).mono ?_
    unfold GivesX
    rintro en W5 ⟨v3, rfl, hT3, hb7⟩
    obtain ⟨A3, c3, cs3, rfl, -, -⟩ := hT3.open_
    simp only [Tr.kind, Tr.s, Tr.n, Tr.ks, List.length_cons, List.length_nil] at hT3 ⊢
    (try go_simp)
    have hb8 := bl_step hb7 hb6
    refine hK.out _ _ ⟨(HKX.out.below hb8).cell 0, (HKX.out.below hb8).cell 1⟩ (fun hH9 => ?_)
    clear hK K hH hH9
    (try dsimp only [Act.put, List.setIfInBounds_toArray, List.set_cons_zero, List.set_cons_succ])
    have HKR5 := Lib.hid (HKR.out.below hb8); have HT3 := Lib.hid hT3; have HB8 := Lib.hid hb8
    clear hT1 hT2 hT3 hb2 hb3 hb4 hb5 hb6 hb7 hz2 hz3 hz5
    obtain ⟨⟨r0, r1, r2, r3⟩, ⟨f0, f1, f2, f3⟩⟩ := HKR5.out.four
    refine wpAnyH_ready (rs := [7]) (by kernel_rfl) (by simp) ?_
    refine AllReadyH.cons rfl (fun K hK => ?_) AllReadyH.nil
    (try go_simp)
    have hkX9 := (HKX.out.below hb8).grown (gb4 W5 w.heap.size (.int .i64 16) (.string nS) (.int .i64 0) (.slice A3 (0 + 1 + 1) c3)) (fun e => by injection e with e; omega)
    refine hK.out _ _ ⟨hkX9.cell 0, hkX9.cell 1⟩ (fun hH9 => ?_)
    clear hK K hH9 hkX9 hb8 r0 r1 r2 r3 f0 f1 f2 f3
    (try dsimp only [Act.put, List.setIfInBounds_toArray, List.set_cons_zero, List.set_cons_succ])
    refine wpAnyH_done (by kernel_rfl) ?_ _
    refine NoPanic.normal ?_
    go_wp2_with fail
    (try simp only [Exit.inBlock, Exit.then])
    refine bodyPost_ret (results_T rfl _ _ w.heap.size _ _ _ _ _ rfl ((HKR5.out).set4 _ _ _ _)) rfl ?_
    have hlt1 := HB1.out.size
    refine ⟨_, rfl, TrAt.mono (HT3.out.set4 (r := w.heap.size) (by omega) _ _ _ _) (by omega), bl_grown (bl_step HB8.out HB1.out) (gb4 _ _ _ _ _ _) (Nat.le_refl _)⟩
end Go.Proofs.YtapbkomicihkkaaDoor
namespace Go.Proofs.YtapbkomicihkkaaDoor
open Go.RowKit
set_option linter.unusedVariables false
set_option linter.unusedSimpArgs false

@[go_sem] theorem run_bs_T3 (k1 k2 k3 n1 n2 n3 : Int) (s1 s2 s3 : ByteArray) (A1 A2 A3 : Option Addr) (m1 m2 m3 c1 c2 c3 : Nat) (W : World) :
    (Instr.buildSlice 28 3 #[(0, .agg #[.int .i64 k1, .string s1, .int .i64 n1, .slice A1 m1 c1]), (1, .agg #[.int .i64 k2, .string s2, .int .i64 n2, .slice A2 m2 c2]), (2, .agg #[.int .i64 k3, .string s3, .int .i64 n3, .slice A3 m3 c3])]).run Tryd.prog W = .ok (.slice (some ⟨W.heap.size, 0, none⟩) 3 3) (W.alloc (.cells #[.int .i64 k1, .string s1, .int .i64 n1, .slice A1 m1 c1, .int .i64 k2, .string s2, .int .i64 n2, .slice A2 m2 c2, .int .i64 k3, .string s3, .int .i64 n3, .slice A3 m3 c3] 30)) := by kernel_rfl
set_option maxRecDepth 100000 in
set_option maxHeartbeats 4000000 in
theorem pterm_leaf (o : Tm) (ho : o.ok) (hk : o.kids = []) (w : World) : Calls Tryd.prog 30 #[o.val] w (GivesP w o.tr) := by
  unfold GivesP
  cases o with
  | zero =>
    unfold Tm.val Tm.tr
    obtain ⟨W1, hW1⟩ : ∃ W1, (w.alloc (.cells #[.int .i64 0, .string ⟨#[]⟩, .int .i64 0, .slice none 0 0] 30)).alloc (.cells #[] 46) = W1 := ⟨_, rfl⟩
    have hb1 := bl_alloc (bl_alloc (bl_refl w) (.cells #[.int .i64 0, .string ⟨#[]⟩, .int .i64 0, .slice none 0 0] 30)) (.cells #[] 46)
    have hkR := (Blk.new w #[.int .i64 0, .string ⟨#[]⟩, .int .i64 0, .slice none 0 0] 30).below (bl_alloc (bl_refl _) (.cells #[] 46))
    have hkX := Blk_new (w.alloc (.cells #[.int .i64 0, .string ⟨#[]⟩, .int .i64 0, .slice none 0 0] 30)) #[] 46 (w.heap.size + 1) (alloc_size _ _).symm
    rw [hW1] at hb1 hkR hkX
    have hlt := hkR.lt
    have hltX := hkX.lt
    have HW1 := Lib.hid hW1; have HB1 := Lib.hid hb1; have HKR := Lib.hid hkR; have HKX := Lib.hid hkX
    clear hW1 hb1 hkR hkX
    obtain ⟨⟨r0, r1, r2, r3⟩, ⟨f0, f1, f2, f3⟩⟩ := HKR.out.four
    go_enter Tryd.func30, Tryd.ntmps30
    go_upto_region 4 with fail
    rw [HW1.out]
    go_wp2_with fail
    (try simp only [Exit.inBlock, Exit.then])
    refine bodyPost_ret (results_T rfl _ _ w.heap.size _ _ _ _ _ rfl ((HKR.out).set4 _ _ _ _)) rfl ?_
    exact ⟨_, rfl, TrAt.leaf _ _ _ _ _ _, bl_grown HB1.out (gb4 _ _ _ _ _ _) (Nat.le_refl _)⟩
  | one s =>
    unfold Tm.val Tm.tr
    obtain ⟨W1, hW1⟩ : ∃ W1, (w.alloc (.cells #[.int .i64 0, .string ⟨#[]⟩, .int .i64 0, .slice none 0 0] 30)).alloc (.cells #[.string s] 49) = W1 := ⟨_, rfl⟩
    have hb1 := bl_alloc (bl_alloc (bl_refl w) (.cells #[.int .i64 0, .string ⟨#[]⟩, .int .i64 0, .slice none 0 0] 30)) (.cells #[.string s] 49)
    have hkR := (Blk.new w #[.int .i64 0, .string ⟨#[]⟩, .int .i64 0, .slice none 0 0] 30).below (bl_alloc (bl_refl _) (.cells #[.string s] 49))
    have hkX := Blk_new (w.alloc (.cells #[.int .i64 0, .string ⟨#[]⟩, .int .i64 0, .slice none 0 0] 30)) #[.string s] 49 (w.heap.size + 1) (alloc_size _ _).symm
    rw [hW1] at hb1 hkR hkX
    have hlt := hkR.lt
    have hltX := hkX.lt
    have HW1 := Lib.hid hW1; have HB1 := Lib.hid hb1; have HKR := Lib.hid hkR; have HKX := Lib.hid hkX
    clear hW1 hb1 hkR hkX
    obtain ⟨⟨r0, r1, r2, r3⟩, ⟨f0, f1, f2, f3⟩⟩ := HKR.out.four
    have x0 := HKX.out.cell 0
    go_enter Tryd.func30, Tryd.ntmps30
    go_upto_region 7 with fail
    rw [HW1.out]
    go_wp2_with fail
    (try simp only [Exit.inBlock, Exit.then])
    refine bodyPost_ret (results_T rfl _ _ w.heap.size _ _ _ _ _ rfl ((HKR.out).set4 _ _ _ _)) rfl ?_
    exact ⟨_, rfl, TrAt.leaf _ _ _ _ _ _, bl_grown HB1.out (gb4 _ _ _ _ _ _) (Nat.le_refl _)⟩
  | odd v =>
    unfold Tm.tr
    rcases ho with h | ⟨t, x, h, h1, h2, h3, h4, h5, h6, h7, h8⟩
    all_goals
      subst h
      unfold Tm.val
      go_enter Tryd.func30, Tryd.ntmps30
      go_wp2_with fail
      (try simp only [Exit.inBlock, Exit.then])
      refine bodyPost_ret (results_T rfl _ _ w.heap.size _ _ _ _ _ rfl (Blk.new w _ _)) rfl ?_
      exact ⟨_, rfl, TrAt.leaf _ _ _ _ _ _, bl_alloc (bl_refl w) _⟩
  | _ => cases hk
set_option maxRecDepth 100000 in
set_option maxHeartbeats 4000000 in
theorem plain_when (n : Int) (t : Tm) (ho : (Tm.when_ n t).ok) (IH : ∀ (w : World), Calls Tryd.prog 30 #[t.val] w (GivesP w t.tr)) (w : World) : Calls Tryd.prog 30 #[(Tm.when_ n t).val] w (GivesP w (Tm.when_ n t).tr) := by
  unfold GivesP at IH ⊢
  have hok : t.ok := ho.2
  have hl := t.isI hok
  have IHH := Lib.hid IH
  clear IH
  unfold Tm.val Tm.tr
  obtain ⟨W1, hW1⟩ : ∃ W1, (w.alloc (.cells #[.int .i64 0, .string ⟨#[]⟩, .int .i64 0, .slice none 0 0] 30)).alloc (.cells #[.int .i64 n, t.val] 57) = W1 := ⟨_, rfl⟩
  have hb1 := bl_alloc (bl_alloc (bl_refl w) (.cells #[.int .i64 0, .string ⟨#[]⟩, .int .i64 0, .slice none 0 0] 30)) (.cells #[.int .i64 n, t.val] 57)
  have hkR := (Blk.new w #[.int .i64 0, .string ⟨#[]⟩, .int .i64 0, .slice none 0 0] 30).below (bl_alloc (bl_refl _) (.cells #[.int .i64 n, t.val] 57))
  have hkX := Blk_new (w.alloc (.cells #[.int .i64 0, .string ⟨#[]⟩, .int .i64 0, .slice none 0 0] 30)) #[.int .i64 n, t.val] 57 (w.heap.size + 1) (alloc_size _ _).symm
  rw [hW1] at hb1 hkR hkX
  have hlt := hkR.lt
  have hltX := hkX.lt
  have HW1 := Lib.hid hW1; have HB1 := Lib.hid hb1; have HKR := Lib.hid hkR; have HKX := Lib.hid hkX
  clear hW1 hb1 hkR hkX
  go_enter Tryd.func30, Tryd.ntmps30
  go_upto_region 24 with fail
  rw [HW1.out]
  refine wp_region_noPanic ?_
  refine wp_region_held_drew (S := fun w' => w'.cell? ⟨w.heap.size + 1, 0, none⟩ = some (.int .i64 n) ∧ w'.cell? ⟨w.heap.size + 1, 1, none⟩ = some t.val) (by kernel_rfl) (by exact (And.intro (Blk.cell HKX.out 0) (Blk.cell HKX.out 1))) (fun hH => ?_)
  clear HW1
  refine wpAnyH_world (fun W => Below W1.heap.size W1 W) (bl_drew (bl_refl _)) (fun W2 hbC => ?_)
  clear hH
  have hH : W2.cell? ⟨w.heap.size + 1, 0, none⟩ = some (.int .i64 n) ∧ W2.cell? ⟨w.heap.size + 1, 1, none⟩ = some t.val := (And.intro (Blk.cell (HKX.out.below hbC) 0) (Blk.cell (HKX.out.below hbC) 1))
  refine tkx 0 rfl ?_
  refine tkx 1 rfl ?_
  refine tkx 2 rfl ?_
  refine tkx 3 rfl ?_
  refine wpAnyH_ready (rs := [4]) (by kernel_rfl) (by simp) ?_
  refine AllReadyH.cons rfl (fun K hK => ?_) AllReadyH.nil
  (try go_simp)
  (try go_simp)
  refine (IHH.out _).mono ?_
  rintro en W3 ⟨v1, rfl, hT, hbs⟩
  (try go_simp)
  have hT1 := hT.mono (y := W1.heap.size) hbC.size
  replace hbC := bl_step hbs hbC
  skip
  refine hK.out _ _ (And.intro (Blk.cell (HKX.out.below hbC) 0) (Blk.cell (HKX.out.below hbC) 1)) (fun hH9 => ?_)
  clear hK K hH hT
  have hH : W3.cell? ⟨w.heap.size + 1, 0, none⟩ = some (.int .i64 n) ∧ W3.cell? ⟨w.heap.size + 1, 1, none⟩ = some t.val := hH9
  clear hH9
  (try dsimp only [Act.put, List.setIfInBounds_toArray, List.set_cons_zero, List.set_cons_succ])
  obtain ⟨A3, c3, cs3, rfl, -, -⟩ := hT1.open_
  refine wpAnyH_ready (rs := [5]) (by kernel_rfl) (by simp) ?_
  refine AllReadyH.cons rfl (fun K hK => ?_) AllReadyH.nil
  (try go_simp)
  refine hK.out _ _ (And.intro (Blk.cell (HKX.out.below (bl_alloc hbC _)) 0) (Blk.cell (HKX.out.below (bl_alloc hbC _)) 1)) (fun hH9 => ?_)
  clear hK K hH hH9
  (try dsimp only [Act.put, List.setIfInBounds_toArray, List.set_cons_zero, List.set_cons_succ])
  refine wpAnyH_world (fun W => Below W3.heap.size W3 W ∧ Blk W W3.heap.size #[.int .i64 t.tr.kind, .string t.tr.s, .int .i64 t.tr.n, .slice A3 t.tr.ks.length c3] 30) ⟨bl_alloc (bl_refl _) _, Blk.new _ _ _⟩ (fun W4 h4 => ?_)
  obtain ⟨hbs, hkQ⟩ := h4
  have hqs := hbC.size
  have hbC2 := bl_step hbs hbC
  clear hbC
  have hbC := hbC2
  clear hbC2
  have hH : W4.cell? ⟨w.heap.size + 1, 0, none⟩ = some (.int .i64 n) ∧ W4.cell? ⟨w.heap.size + 1, 1, none⟩ = some t.val := (And.intro (Blk.cell (HKX.out.below hbC) 0) (Blk.cell (HKX.out.below hbC) 1))
  have HT1 := Lib.hid (hT1.below hbs); have HKQ := Lib.hid hkQ; have HQS := Lib.hid hqs
  clear hT1 hkQ hqs hbs
  refine tkx 6 rfl ?_
  have hkr := HKR.out.below hbC
  obtain ⟨⟨r0, r1, r2, r3⟩, ⟨f0, f1, f2, f3⟩⟩ := hkr.four
  have HKR5 := Lib.hid hkr
  clear hkr
  refine wpAnyH_ready (rs := [7]) (by kernel_rfl) (by simp) ?_
  refine AllReadyH.cons rfl (fun K hK => ?_) AllReadyH.nil
  (try go_simp)
  refine hK.out _ _ (And.intro (Blk.cell ((HKX.out.below hbC).grown (gb4 W4 w.heap.size _ _ _ _) (fun e => by injection e with e; omega)) 0) (Blk.cell ((HKX.out.below hbC).grown (gb4 W4 w.heap.size _ _ _ _) (fun e => by injection e with e; omega)) 1)) (fun hH9 => ?_)
  clear hK K hH9 hH r0 r1 r2 r3 f0 f1 f2 f3
  (try dsimp only [Act.put, List.setIfInBounds_toArray, List.set_cons_zero, List.set_cons_succ])
  refine wpAnyH_done (by kernel_rfl) ?_ _
  refine NoPanic.normal ?_
  have HBC := Lib.hid hbC
  clear hbC
  go_wp2_with fail
  (try simp only [Exit.inBlock, Exit.then])
  refine bodyPost_ret (results_T rfl _ _ w.heap.size _ _ _ _ _ rfl ((HKR5.out).set4 _ _ _ _)) rfl ?_
  have hlt1 := HB1.out.size
  have hq := HQS.out
  refine ⟨_, rfl, TrAt.mk_ (RowOf.new (HKQ.out.grown (gb4 _ _ _ _ _ _) (fun e => by injection e with e; omega)) (by omega)) (TrsAt.cons (TrAt.mono (HT1.out.set4 (r := w.heap.size) (by omega) _ _ _ _) (by omega)) (TrsAt.nil _ _)), bl_grown (bl_step HBC.out HB1.out) (gb4 _ _ _ _ _ _) (Nat.le_refl _)⟩
end Go.Proofs.YtapbkomicihkkaaDoor
namespace Go.Proofs.YtapbkomicihkkaaDoor
open Go.RowKit
set_option linter.unusedVariables false
set_option linter.unusedSimpArgs false

set_option maxRecDepth 100000 in
set_option maxHeartbeats 4000000 in
theorem plain_if (o : Ob) (l r : Tm) (ho : (Tm.if_ o l r).ok) (IL : ∀ (w : World), Calls Tryd.prog 30 #[l.val] w (GivesP w l.tr)) (IR : ∀ (w : World), Calls Tryd.prog 30 #[r.val] w (GivesP w r.tr)) (w : World) :
    Calls Tryd.prog 30 #[(Tm.if_ o l r).val] w (GivesP w (Tm.if_ o l r).tr) := by
  have io := plobs_calls o ho.1
  unfold GivesP at IL IR io ⊢
  have hok1 := ho.1
  have hok2 := ho.2.1
  have hok3 := ho.2.2
  have hl1 := o.isI hok1
  have hl2 := l.isI hok2
  have hl3 := r.isI hok3
  have IO := Lib.hid io; have ILL := Lib.hid IL; have IRR := Lib.hid IR
  clear IL IR io ho
  unfold Tm.val Tm.tr
  obtain ⟨W1, hW1⟩ : ∃ W1, (w.alloc (.cells #[.int .i64 0, .string ⟨#[]⟩, .int .i64 0, .slice none 0 0] 30)).alloc (.cells #[o.val, l.val, r.val] 63) = W1 := ⟨_, rfl⟩
  have hb1 := bl_alloc (bl_alloc (bl_refl w) (.cells #[.int .i64 0, .string ⟨#[]⟩, .int .i64 0, .slice none 0 0] 30)) (.cells #[o.val, l.val, r.val] 63)
  have hkR := (Blk.new w #[.int .i64 0, .string ⟨#[]⟩, .int .i64 0, .slice none 0 0] 30).below (bl_alloc (bl_refl _) (.cells #[o.val, l.val, r.val] 63))
  have hkX := Blk_new (w.alloc (.cells #[.int .i64 0, .string ⟨#[]⟩, .int .i64 0, .slice none 0 0] 30)) #[o.val, l.val, r.val] 63 (w.heap.size + 1) (alloc_size _ _).symm
  rw [hW1] at hb1 hkR hkX
  have hlt := hkR.lt
  have hltX := hkX.lt
  have HW1 := Lib.hid hW1; have HB1 := Lib.hid hb1; have HKR := Lib.hid hkR; have HKX := Lib.hid hkX
  clear hW1 hb1 hkR hkX
  go_enter Tryd.func30, Tryd.ntmps30
  go_upto_region 27 with fail
  rw [HW1.out]
  refine wp_region_noPanic ?_
  refine wp_region_held_drew (S := fun w' => w'.cell? ⟨w.heap.size + 1, 0, none⟩ = some o.val ∧ w'.cell? ⟨w.heap.size + 1, 1, none⟩ = some l.val ∧ w'.cell? ⟨w.heap.size + 1, 2, none⟩ = some r.val) (by kernel_rfl) (by exact (And.intro (Blk.cell HKX.out 0) (And.intro (Blk.cell HKX.out 1) (Blk.cell HKX.out 2)))) (fun hH => ?_)
  clear HW1
  refine wpAnyH_world (fun W => Below W1.heap.size W1 W) (bl_drew (bl_refl _)) (fun W2 hbC => ?_)
  clear hH
  have hH : W2.cell? ⟨w.heap.size + 1, 0, none⟩ = some o.val ∧ W2.cell? ⟨w.heap.size + 1, 1, none⟩ = some l.val ∧ W2.cell? ⟨w.heap.size + 1, 2, none⟩ = some r.val := (And.intro (Blk.cell (HKX.out.below hbC) 0) (And.intro (Blk.cell (HKX.out.below hbC) 1) (Blk.cell (HKX.out.below hbC) 2)))
  refine tkx 0 rfl ?_
  refine tkx 1 rfl ?_
  refine tkx 3 rfl ?_
  refine tkx 4 rfl ?_
  refine tkx 6 rfl ?_
  refine tkx 7 rfl ?_
  refine wpAnyH_ready (rs := [2]) (by kernel_rfl) (by simp) ?_
  refine AllReadyH.cons rfl (fun K hK => ?_) AllReadyH.nil
  (try go_simp)
  (try go_simp)
  refine (IO.out _).mono ?_
  rintro en W3 ⟨v1, rfl, hT, hbs⟩
  (try go_simp)
  have hT1 := hT.mono (y := W1.heap.size) hbC.size
  replace hbC := bl_step hbs hbC
  skip
  refine hK.out _ _ (And.intro (Blk.cell (HKX.out.below hbC) 0) (And.intro (Blk.cell (HKX.out.below hbC) 1) (Blk.cell (HKX.out.below hbC) 2))) (fun hH9 => ?_)
  clear hK K hH hT
  have hH : W3.cell? ⟨w.heap.size + 1, 0, none⟩ = some o.val ∧ W3.cell? ⟨w.heap.size + 1, 1, none⟩ = some l.val ∧ W3.cell? ⟨w.heap.size + 1, 2, none⟩ = some r.val := hH9
  clear hH9
  (try dsimp only [Act.put, List.setIfInBounds_toArray, List.set_cons_zero, List.set_cons_succ])
  refine wpAnyH_ready (rs := [5]) (by kernel_rfl) (by simp) ?_
  refine AllReadyH.cons rfl (fun K hK => ?_) AllReadyH.nil
  (try go_simp)
  (try go_simp)
  refine (ILL.out _).mono ?_
  rintro en W4 ⟨v2, rfl, hT, hbs⟩
  (try go_simp)
  have hT2 := hT.mono (y := W1.heap.size) hbC.size
  replace hbC := bl_step hbs hbC
  replace hT1 := hT1.below hbs
  refine hK.out _ _ (And.intro (Blk.cell (HKX.out.below hbC) 0) (And.intro (Blk.cell (HKX.out.below hbC) 1) (Blk.cell (HKX.out.below hbC) 2))) (fun hH9 => ?_)
  clear hK K hH hT
  have hH : W4.cell? ⟨w.heap.size + 1, 0, none⟩ = some o.val ∧ W4.cell? ⟨w.heap.size + 1, 1, none⟩ = some l.val ∧ W4.cell? ⟨w.heap.size + 1, 2, none⟩ = some r.val := hH9
  clear hH9
  (try dsimp only [Act.put, List.setIfInBounds_toArray, List.set_cons_zero, List.set_cons_succ])
  refine wpAnyH_ready (rs := [8]) (by kernel_rfl) (by simp) ?_
  refine AllReadyH.cons rfl (fun K hK => ?_) AllReadyH.nil
  (try go_simp)
  (try go_simp)
  refine (IRR.out _).mono ?_
  rintro en W5 ⟨v3, rfl, hT, hbs⟩
  (try go_simp)
  have hT3 := hT.mono (y := W1.heap.size) hbC.size
  replace hbC := bl_step hbs hbC
  (replace hT1 := hT1.below hbs; replace hT2 := hT2.below hbs)
  refine hK.out _ _ (And.intro (Blk.cell (HKX.out.below hbC) 0) (And.intro (Blk.cell (HKX.out.below hbC) 1) (Blk.cell (HKX.out.below hbC) 2))) (fun hH9 => ?_)
  clear hK K hH hT
  have hH : W5.cell? ⟨w.heap.size + 1, 0, none⟩ = some o.val ∧ W5.cell? ⟨w.heap.size + 1, 1, none⟩ = some l.val ∧ W5.cell? ⟨w.heap.size + 1, 2, none⟩ = some r.val := hH9
  clear hH9
  (try dsimp only [Act.put, List.setIfInBounds_toArray, List.set_cons_zero, List.set_cons_succ])
  obtain ⟨A1, c1, cs1, rfl, -, -⟩ := hT1.open_
  obtain ⟨A2, c2, cs2, rfl, -, -⟩ := hT2.open_
  obtain ⟨A3, c3, cs3, rfl, -, -⟩ := hT3.open_
  have HA := Lib.hid hT1; have HB := Lib.hid hT2; have HC := Lib.hid hT3
  clear hT1 hT2 hT3 hbs
  refine wpAnyH_ready (rs := [9]) (by kernel_rfl) (by simp) ?_
  refine AllReadyH.cons rfl (fun K hK => ?_) AllReadyH.nil
  (try go_simp)
  refine hK.out _ _ (And.intro (Blk.cell (HKX.out.below (bl_alloc hbC _)) 0) (And.intro (Blk.cell (HKX.out.below (bl_alloc hbC _)) 1) (Blk.cell (HKX.out.below (bl_alloc hbC _)) 2))) (fun hH9 => ?_)
  clear hK K hH hH9
  (try dsimp only [Act.put, List.setIfInBounds_toArray, List.set_cons_zero, List.set_cons_succ])
  refine wpAnyH_world (fun W => Below W5.heap.size W5 W ∧ Blk W W5.heap.size #[.int .i64 o.tr.kind, .string o.tr.s, .int .i64 o.tr.n, .slice A1 o.tr.ks.length c1, .int .i64 l.tr.kind, .string l.tr.s, .int .i64 l.tr.n, .slice A2 l.tr.ks.length c2, .int .i64 r.tr.kind, .string r.tr.s, .int .i64 r.tr.n, .slice A3 r.tr.ks.length c3] 30) ⟨bl_alloc (bl_refl _) _, Blk.new _ _ _⟩ (fun W6 h4 => ?_)
  obtain ⟨hbs, hkQ⟩ := h4
  have hqs := hbC.size
  have hbC2 := bl_step hbs hbC
  clear hbC
  have hbC := hbC2
  clear hbC2
  have hH : W6.cell? ⟨w.heap.size + 1, 0, none⟩ = some o.val ∧ W6.cell? ⟨w.heap.size + 1, 1, none⟩ = some l.val ∧ W6.cell? ⟨w.heap.size + 1, 2, none⟩ = some r.val := (And.intro (Blk.cell (HKX.out.below hbC) 0) (And.intro (Blk.cell (HKX.out.below hbC) 1) (Blk.cell (HKX.out.below hbC) 2)))
  have HA6 := Lib.hid (HA.out.below hbs); have HB6 := Lib.hid (HB.out.below hbs); have HC6 := Lib.hid (HC.out.below hbs); have HKQ := Lib.hid hkQ; have HQS := Lib.hid hqs
  clear HA HB HC hkQ hqs hbs
  refine tkx 10 rfl ?_
  have hkr := HKR.out.below hbC
  obtain ⟨⟨r0, r1, r2, r3⟩, ⟨f0, f1, f2, f3⟩⟩ := hkr.four
  have HKR5 := Lib.hid hkr
  clear hkr
  refine wpAnyH_ready (rs := [11]) (by kernel_rfl) (by simp) ?_
  refine AllReadyH.cons rfl (fun K hK => ?_) AllReadyH.nil
  (try go_simp)
  refine hK.out _ _ (And.intro (Blk.cell ((HKX.out.below hbC).grown (gb4 W6 w.heap.size _ _ _ _) (fun e => by injection e with e; omega)) 0) (And.intro (Blk.cell ((HKX.out.below hbC).grown (gb4 W6 w.heap.size _ _ _ _) (fun e => by injection e with e; omega)) 1) (Blk.cell ((HKX.out.below hbC).grown (gb4 W6 w.heap.size _ _ _ _) (fun e => by injection e with e; omega)) 2))) (fun hH9 => ?_)
  clear hK K hH9 hH r0 r1 r2 r3 f0 f1 f2 f3
  (try dsimp only [Act.put, List.setIfInBounds_toArray, List.set_cons_zero, List.set_cons_succ])
  refine wpAnyH_done (by kernel_rfl) ?_ _
  refine NoPanic.normal ?_
  have HBC := Lib.hid hbC
  clear hbC
  go_wp2_with fail
  (try simp only [Exit.inBlock, Exit.then])
  refine bodyPost_ret (results_T rfl _ _ w.heap.size _ _ _ _ _ rfl ((HKR5.out).set4 _ _ _ _)) rfl ?_
  have hlt1 := HB1.out.size
  have hq := HQS.out
  refine ⟨_, rfl, TrAt.mk_ (RowOf.new (HKQ.out.grown (gb4 _ _ _ _ _ _) (fun e => by injection e with e; omega)) (by omega)) (TrsAt.cons (TrAt.mono (HA6.out.set4 (r := w.heap.size) (by omega) _ _ _ _) (by omega)) (TrsAt.cons (TrAt.mono (HB6.out.set4 (r := w.heap.size) (by omega) _ _ _ _) (by omega)) (TrsAt.cons (TrAt.mono (HC6.out.set4 (r := w.heap.size) (by omega) _ _ _ _) (by omega)) (TrsAt.nil _ _)))), bl_grown (bl_step HBC.out HB1.out) (gb4 _ _ _ _ _ _) (Nat.le_refl _)⟩
end Go.Proofs.YtapbkomicihkkaaDoor
namespace Go.Proofs.YtapbkomicihkkaaDoor
open Go.RowKit
set_option linter.unusedVariables false
set_option linter.unusedSimpArgs false

theorem TrAt.rename {x : Nat} {w : World} {k n : Int} {s s' : ByteArray} {ks : List Tr} {A : Option Addr} {c m : Nat} (h : TrAt x w (.mk k s n ks) (.agg #[.int .i64 k, .string s, .int .i64 n, .slice A m c])) : TrAt x w (.mk k s' n ks) (.agg #[.int .i64 k, .string s', .int .i64 n, .slice A m c]) := by
  obtain ⟨A', c', cs, e, h1, h2⟩ := h.open_
  injection e with e
  simp [Tr.kind, Tr.s, Tr.n, Tr.ks] at e
  obtain ⟨rfl, rfl, rfl⟩ := e
  exact TrAt.mk_ h1 h2
set_option maxRecDepth 100000 in
set_option maxHeartbeats 8000000 in
theorem plain_or (s : ByteArray) (l r : Tm) (ho : (Tm.or s l r).ok) (IL : ∀ (w : World), Calls Tryd.prog 30 #[l.val] w (GivesP w l.tr)) (IR : ∀ (w : World), Calls Tryd.prog 30 #[r.val] w (GivesP w r.tr)) (w : World) :
    Calls Tryd.prog 30 #[(Tm.or s l r).val] w (GivesP w (Tm.or s l r).tr) := by
  unfold GivesP at IL IR ⊢
  have hok2 := ho.2.1
  have hok3 := ho.2.2
  have hl2 := l.isI hok2
  have hl3 := r.isI hok3
  have ILL := Lib.hid IL; have IRR := Lib.hid IR
  clear IL IR ho
  unfold Tm.val Tm.tr
  obtain ⟨W1, hW1⟩ : ∃ W1, (w.alloc (.cells #[.int .i64 0, .string ⟨#[]⟩, .int .i64 0, .slice none 0 0] 30)).alloc (.cells #[.string s, l.val, r.val] 55) = W1 := ⟨_, rfl⟩
  have hb1 := bl_alloc (bl_alloc (bl_refl w) (.cells #[.int .i64 0, .string ⟨#[]⟩, .int .i64 0, .slice none 0 0] 30)) (.cells #[.string s, l.val, r.val] 55)
  have hkR := (Blk.new w #[.int .i64 0, .string ⟨#[]⟩, .int .i64 0, .slice none 0 0] 30).below (bl_alloc (bl_refl _) (.cells #[.string s, l.val, r.val] 55))
  have hkX := Blk_new (w.alloc (.cells #[.int .i64 0, .string ⟨#[]⟩, .int .i64 0, .slice none 0 0] 30)) #[.string s, l.val, r.val] 55 (w.heap.size + 1) (alloc_size _ _).symm
  rw [hW1] at hb1 hkR hkX
  have hlt := hkR.lt
  have hltX := hkX.lt
  have HW1 := Lib.hid hW1; have HB1 := Lib.hid hb1; have HKR := Lib.hid hkR; have HKX := Lib.hid hkX
  clear hW1 hb1 hkR hkX
  go_enter Tryd.func30, Tryd.ntmps30
  go_upto_region 16 with fail
  rw [HW1.out]
  refine wp_region_noPanic ?_
  refine wp_region_held_drew (S := fun w' => w'.cell? ⟨w.heap.size + 1, 1, none⟩ = some l.val ∧ w'.cell? ⟨w.heap.size + 1, 2, none⟩ = some r.val) (by kernel_rfl) (by exact (And.intro (Blk.cell HKX.out 1) (Blk.cell HKX.out 2))) (fun hH => ?_)
  clear HW1
  refine wpAnyH_world (fun W => Below W1.heap.size W1 W) (bl_drew (bl_refl _)) (fun W2 hbC => ?_)
  clear hH
  have hH : W2.cell? ⟨w.heap.size + 1, 1, none⟩ = some l.val ∧ W2.cell? ⟨w.heap.size + 1, 2, none⟩ = some r.val := (And.intro (Blk.cell (HKX.out.below hbC) 1) (Blk.cell (HKX.out.below hbC) 2))
  refine tkx 0 rfl ?_
  refine tkx 1 rfl ?_
  refine tkx 3 rfl ?_
  refine tkx 4 rfl ?_
  refine wpAnyH_ready (rs := [2, 7]) (by kernel_rfl) (by simp) ?_
  refine AllReadyH.cons rfl (fun K hK => ?_) (AllReadyH.cons rfl (fun K hK => ?_) AllReadyH.nil)
  · skip
    (try go_simp)
    refine (ILL.out _).mono ?_
    rintro en W3 ⟨v1, rfl, hT, hbs⟩
    (try go_simp)
    have hT1 := hT.mono (y := W1.heap.size) hbC.size
    replace hbC := bl_step hbs hbC
    skip
    refine hK.out _ _ (And.intro (Blk.cell (HKX.out.below hbC) 1) (Blk.cell (HKX.out.below hbC) 2)) (fun hH9 => ?_)
    clear hK K hH hT
    have hH : W3.cell? ⟨w.heap.size + 1, 1, none⟩ = some l.val ∧ W3.cell? ⟨w.heap.size + 1, 2, none⟩ = some r.val := hH9
    clear hH9
    (try dsimp only [Act.put, List.setIfInBounds_toArray, List.set_cons_zero, List.set_cons_succ])
    clear hbs
    refine wpAnyH_ready (rs := [5, 7]) (by kernel_rfl) (by simp) ?_
    refine AllReadyH.cons rfl (fun K hK => ?_) (AllReadyH.cons rfl (fun K hK => ?_) AllReadyH.nil)
    · skip
      (try go_simp)
      refine (IRR.out _).mono ?_
      rintro en W4 ⟨v2, rfl, hT, hbs⟩
      (try go_simp)
      have hT2 := hT.mono (y := W1.heap.size) hbC.size
      replace hbC := bl_step hbs hbC
      replace hT1 := hT1.below hbs
      refine hK.out _ _ (And.intro (Blk.cell (HKX.out.below hbC) 1) (Blk.cell (HKX.out.below hbC) 2)) (fun hH9 => ?_)
      clear hK K hH hT
      have hH : W4.cell? ⟨w.heap.size + 1, 1, none⟩ = some l.val ∧ W4.cell? ⟨w.heap.size + 1, 2, none⟩ = some r.val := hH9
      clear hH9
      (try dsimp only [Act.put, List.setIfInBounds_toArray, List.set_cons_zero, List.set_cons_succ])
      clear hbs
      refine wpAnyH_ready (rs := [6, 7]) (by kernel_rfl) (by simp) ?_
      refine AllReadyH.cons rfl (fun K hK => ?_) (AllReadyH.cons rfl (fun K hK => ?_) AllReadyH.nil)
      · (try go_simp)
        refine (two_calls 5 l.tr r.tr v1 v2 W1.heap.size W4 hbC.size hT1 hT2).mono ?_
        unfold GivesX
        rintro en W5 ⟨v3, rfl, hT3, hbs⟩
        (try go_simp)
        have hbC2 := bl_step hbs hbC
        clear hbC
        have hbC := hbC2
        clear hbC2 hbs hT1 hT2
        refine hK.out _ _ (And.intro (Blk.cell (HKX.out.below hbC) 1) (Blk.cell (HKX.out.below hbC) 2)) (fun hH9 => ?_)
        clear hK K hH
        have hH : W5.cell? ⟨w.heap.size + 1, 1, none⟩ = some l.val ∧ W5.cell? ⟨w.heap.size + 1, 2, none⟩ = some r.val := hH9
        clear hH9
        (try simp only [Act.put, List.setIfInBounds_toArray, List.set_cons_zero, List.set_cons_succ])
        refine wpAnyH_ready (rs := [7]) (by kernel_rfl) (by simp) ?_
        refine AllReadyH.cons rfl (fun K hK => ?_) AllReadyH.nil
        (try go_simp)
        (try go_simp)
        refine hK.out _ _ (And.intro (Blk.cell (HKX.out.below (bl_alloc hbC _)) 1) (Blk.cell (HKX.out.below (bl_alloc hbC _)) 2)) (fun hH9 => ?_)
        clear hK K hH hH9
        (try simp only [Act.put, List.setIfInBounds_toArray, List.set_cons_zero, List.set_cons_succ])
        obtain ⟨q, hq⟩ : ∃ q, W5.heap.size = q := ⟨_, rfl⟩
        have hqs : W1.heap.size ≤ q := by rw [← hq]; exact hbC.size
        rw [hq]
        refine wpAnyH_world (fun W => Below W5.heap.size W5 W ∧ Blk W q #[.int .i64 0, .string ⟨#[]⟩, .int .i64 0, .slice none 0 0] 30) ⟨bl_alloc (bl_refl _) _, Blk_new _ _ _ q hq.symm⟩ (fun W6 h4 => ?_)
        obtain ⟨hbs, hkQ⟩ := h4
        have kT3 := TrK.old (q := q) hT3 hbs (Nat.le_of_eq hq)
        clear hT3
        have hbC2 := bl_step hbs hbC
        clear hbC
        have hbC := hbC2
        clear hbC2 hbs
        have hH : W6.cell? ⟨w.heap.size + 1, 1, none⟩ = some l.val ∧ W6.cell? ⟨w.heap.size + 1, 2, none⟩ = some r.val := (And.intro (Blk.cell (HKX.out.below hbC) 1) (Blk.cell (HKX.out.below hbC) 2))
        obtain ⟨A3, c3, cs3, rfl, -, -⟩ := kT3.at_.open_
        simp only [Tr.kind, Tr.s, Tr.n, Tr.ks, List.length_cons, List.length_nil] at kT3 ⊢
        obtain ⟨⟨y0, y1, y2, y3⟩, ⟨z0, z1, z2, z3⟩⟩ := hkQ.four
        refine wpAnyH_ready (rs := [8]) (by kernel_rfl) (by simp) ?_
        refine AllReadyH.cons rfl (fun K hK => ?_) AllReadyH.nil
        (try go_simp)
        have hltx := HKX.out.lt
        have hX8 := (HKX.out.below hbC).grown (gb4 W6 q (.int .i64 5) (.string nS) (.int .i64 0) (.slice A3 (0 + 1 + 1) c3)) (fun e => by injection e with e; omega)
        refine hK.out _ _ (And.intro (Blk.cell hX8 1) (Blk.cell hX8 2)) (fun hH9 => ?_)
        clear hK K hH9 hH y0 y1 y2 y3 z0 z1 z2 z3
        (try simp only [Act.put, List.setIfInBounds_toArray, List.set_cons_zero, List.set_cons_succ])
        have hR8 := (HKR.out.below hbC).grown (gb4 W6 q (.int .i64 5) (.string nS) (.int .i64 0) (.slice A3 (0 + 1 + 1) c3)) (fun e => by injection e with e; omega)
        have hQ8 := hkQ.set4 (.int .i64 5) (.string nS) (.int .i64 0) (.slice A3 (0 + 1 + 1) c3)
        have hb8 := bl_grown hbC (gb4 W6 q (.int .i64 5) (.string nS) (.int .i64 0) (.slice A3 (0 + 1 + 1) c3)) hqs
        have kT8 : TrK q W1.heap.size _ _ _ := fun W' hg => kT3 W' (gb_trans (gb4 W6 q (.int .i64 5) (.string nS) (.int .i64 0) (.slice A3 (0 + 1 + 1) c3)) hg)
        refine wpAnyH_world (fun W => Blk W (w.heap.size + 1) #[.string s, l.val, r.val] 55 ∧ Blk W w.heap.size #[.int .i64 0, .string ⟨#[]⟩, .int .i64 0, .slice none 0 0] 30 ∧ Blk W q #[.int .i64 5, .string nS, .int .i64 0, .slice A3 (0 + 1 + 1) c3] 30 ∧ Below W1.heap.size W1 W ∧ TrK q W1.heap.size W (.mk 5 nS 0 [l.tr, r.tr]) (.agg #[.int .i64 5, .string nS, .int .i64 0, .slice A3 (0 + 1 + 1) c3])) ⟨hX8, hR8, hQ8, hb8, kT8⟩ (fun W9 h9 => ?_)
        clear hX8 hR8 hQ8 hb8 kT8 kT3 hkQ hbC
        obtain ⟨hX9, hR9, hQ9, hb9, kT9⟩ := h9
        refine wpAnyH_done (by kernel_rfl) ?_ _
        refine NoPanic.normal ?_
        obtain ⟨⟨y0, y1, y2, y3⟩, ⟨z0, z1, z2, z3⟩⟩ := hQ9.four
        obtain ⟨⟨r0, r1, r2, r3⟩, ⟨f0, f1, f2, f3⟩⟩ := hR9.four
        have x0 := hX9.cell 0
        simp only [List.getElem?_toArray, List.getElem?_cons_zero, List.getElem?_cons_succ] at x0
        have hqr : w.heap.size ≠ q := by omega
        have hqr2 : q ≠ w.heap.size := by omega
        have hqx : w.heap.size + 1 ≠ q := by omega
        have HR9 := Lib.hid hR9; have HB9 := Lib.hid hb9; have KT9 := Lib.hid kT9; have HQS := Lib.hid hqs; have HLX := Lib.hid hltx
        clear hX9 hR9 hQ9 hb9 kT9 hqs hltx
        go_wp2_with fail
        (try simp only [Exit.inBlock, Exit.then])
        refine bodyPost_ret (results_T rfl _ _ w.heap.size _ _ _ _ _ rfl (((HR9.out.far ⟨q, 1, none⟩ hqr _)).set4 _ _ _ _)) rfl ?_
        have hq2 := HQS.out
        have hl2 := HLX.out
        have hlt1 := HB1.out.size
        exact ⟨_, rfl, TrAt.mono (TrAt.set4 (r := w.heap.size) (TrAt.rename (KT9.out _ (gb_set 1 (.string s)))) (by omega) _ _ _ _) (by omega), bl_grown (bl_grown (bl_step HB9.out HB1.out) (gb_set (g := q) 1 (.string s)) (by omega)) (gb4 _ _ _ _ _ _) (Nat.le_refl _)⟩
      · skip
        (try go_simp)
        refine hK.out _ _ (And.intro (Blk.cell (HKX.out.below (bl_alloc hbC _)) 1) (Blk.cell (HKX.out.below (bl_alloc hbC _)) 2)) (fun hH9 => ?_)
        clear hK K hH hH9
        (try simp only [Act.put, List.setIfInBounds_toArray, List.set_cons_zero, List.set_cons_succ])
        obtain ⟨q, hq⟩ : ∃ q, W4.heap.size = q := ⟨_, rfl⟩
        have hqs : W1.heap.size ≤ q := by rw [← hq]; exact hbC.size
        rw [hq]
        refine wpAnyH_world (fun W => Below W4.heap.size W4 W ∧ Blk W q #[.int .i64 0, .string ⟨#[]⟩, .int .i64 0, .slice none 0 0] 30) ⟨bl_alloc (bl_refl _) _, Blk_new _ _ _ q hq.symm⟩ (fun W5 h4 => ?_)
        obtain ⟨hbs, hkQ⟩ := h4
        have kT1 := TrK.old (q := q) hT1 hbs (Nat.le_of_eq hq); have kT2 := TrK.old (q := q) hT2 hbs (Nat.le_of_eq hq)
        clear hT1 hT2
        have hbC2 := bl_step hbs hbC
        clear hbC
        have hbC := hbC2
        clear hbC2 hbs
        have hH : W5.cell? ⟨w.heap.size + 1, 1, none⟩ = some l.val ∧ W5.cell? ⟨w.heap.size + 1, 2, none⟩ = some r.val := (And.intro (Blk.cell (HKX.out.below hbC) 1) (Blk.cell (HKX.out.below hbC) 2))
        refine wpAnyH_ready (rs := [6]) (by kernel_rfl) (by simp) ?_
        refine AllReadyH.cons rfl (fun K hK => ?_) AllReadyH.nil
        (try go_simp)
        (try go_simp)
        refine (two_keep 5 l.tr r.tr v1 v2 q W1.heap.size _ hbC.size (Nat.le_of_lt hkQ.lt) kT1 kT2).mono ?_
        unfold GivesK
        rintro en W6 ⟨v3, rfl, kT3, hbs⟩
        (try go_simp)
        have hkQ2 := hkQ.below hbs
        clear hkQ
        have hkQ := hkQ2
        clear hkQ2
        have hbC2 := bl_step hbs hbC
        clear hbC
        have hbC := hbC2
        clear hbC2 hbs kT1 kT2
        refine hK.out _ _ (And.intro (Blk.cell (HKX.out.below hbC) 1) (Blk.cell (HKX.out.below hbC) 2)) (fun hH9 => ?_)
        clear hK K hH
        have hH : W6.cell? ⟨w.heap.size + 1, 1, none⟩ = some l.val ∧ W6.cell? ⟨w.heap.size + 1, 2, none⟩ = some r.val := hH9
        clear hH9
        (try simp only [Act.put, List.setIfInBounds_toArray, List.set_cons_zero, List.set_cons_succ])
        obtain ⟨A3, c3, cs3, rfl, -, -⟩ := kT3.at_.open_
        simp only [Tr.kind, Tr.s, Tr.n, Tr.ks, List.length_cons, List.length_nil] at kT3 ⊢
        obtain ⟨⟨y0, y1, y2, y3⟩, ⟨z0, z1, z2, z3⟩⟩ := hkQ.four
        refine wpAnyH_ready (rs := [8]) (by kernel_rfl) (by simp) ?_
        refine AllReadyH.cons rfl (fun K hK => ?_) AllReadyH.nil
        (try go_simp)
        have hltx := HKX.out.lt
        have hX8 := (HKX.out.below hbC).grown (gb4 W6 q (.int .i64 5) (.string nS) (.int .i64 0) (.slice A3 (0 + 1 + 1) c3)) (fun e => by injection e with e; omega)
        refine hK.out _ _ (And.intro (Blk.cell hX8 1) (Blk.cell hX8 2)) (fun hH9 => ?_)
        clear hK K hH9 hH y0 y1 y2 y3 z0 z1 z2 z3
        (try simp only [Act.put, List.setIfInBounds_toArray, List.set_cons_zero, List.set_cons_succ])
        have hR8 := (HKR.out.below hbC).grown (gb4 W6 q (.int .i64 5) (.string nS) (.int .i64 0) (.slice A3 (0 + 1 + 1) c3)) (fun e => by injection e with e; omega)
        have hQ8 := hkQ.set4 (.int .i64 5) (.string nS) (.int .i64 0) (.slice A3 (0 + 1 + 1) c3)
        have hb8 := bl_grown hbC (gb4 W6 q (.int .i64 5) (.string nS) (.int .i64 0) (.slice A3 (0 + 1 + 1) c3)) hqs
        have kT8 : TrK q W1.heap.size _ _ _ := fun W' hg => kT3 W' (gb_trans (gb4 W6 q (.int .i64 5) (.string nS) (.int .i64 0) (.slice A3 (0 + 1 + 1) c3)) hg)
        refine wpAnyH_world (fun W => Blk W (w.heap.size + 1) #[.string s, l.val, r.val] 55 ∧ Blk W w.heap.size #[.int .i64 0, .string ⟨#[]⟩, .int .i64 0, .slice none 0 0] 30 ∧ Blk W q #[.int .i64 5, .string nS, .int .i64 0, .slice A3 (0 + 1 + 1) c3] 30 ∧ Below W1.heap.size W1 W ∧ TrK q W1.heap.size W (.mk 5 nS 0 [l.tr, r.tr]) (.agg #[.int .i64 5, .string nS, .int .i64 0, .slice A3 (0 + 1 + 1) c3])) ⟨hX8, hR8, hQ8, hb8, kT8⟩ (fun W9 h9 => ?_)
        clear hX8 hR8 hQ8 hb8 kT8 kT3 hkQ hbC
        obtain ⟨hX9, hR9, hQ9, hb9, kT9⟩ := h9
        refine wpAnyH_done (by kernel_rfl) ?_ _
        refine NoPanic.normal ?_
        obtain ⟨⟨y0, y1, y2, y3⟩, ⟨z0, z1, z2, z3⟩⟩ := hQ9.four
        obtain ⟨⟨r0, r1, r2, r3⟩, ⟨f0, f1, f2, f3⟩⟩ := hR9.four
        have x0 := hX9.cell 0
        simp only [List.getElem?_toArray, List.getElem?_cons_zero, List.getElem?_cons_succ] at x0
        have hqr : w.heap.size ≠ q := by omega
        have hqr2 : q ≠ w.heap.size := by omega
        have hqx : w.heap.size + 1 ≠ q := by omega
        have HR9 := Lib.hid hR9; have HB9 := Lib.hid hb9; have KT9 := Lib.hid kT9; have HQS := Lib.hid hqs; have HLX := Lib.hid hltx
        clear hX9 hR9 hQ9 hb9 kT9 hqs hltx
        go_wp2_with fail
        (try simp only [Exit.inBlock, Exit.then])
        refine bodyPost_ret (results_T rfl _ _ w.heap.size _ _ _ _ _ rfl (((HR9.out.far ⟨q, 1, none⟩ hqr _)).set4 _ _ _ _)) rfl ?_
        have hq2 := HQS.out
        have hl2 := HLX.out
        have hlt1 := HB1.out.size
        exact ⟨_, rfl, TrAt.mono (TrAt.set4 (r := w.heap.size) (TrAt.rename (KT9.out _ (gb_set 1 (.string s)))) (by omega) _ _ _ _) (by omega), bl_grown (bl_grown (bl_step HB9.out HB1.out) (gb_set (g := q) 1 (.string s)) (by omega)) (gb4 _ _ _ _ _ _) (Nat.le_refl _)⟩
    · skip
      (try go_simp)
      refine hK.out _ _ (And.intro (Blk.cell (HKX.out.below (bl_alloc hbC _)) 1) (Blk.cell (HKX.out.below (bl_alloc hbC _)) 2)) (fun hH9 => ?_)
      clear hK K hH hH9
      (try simp only [Act.put, List.setIfInBounds_toArray, List.set_cons_zero, List.set_cons_succ])
      obtain ⟨q, hq⟩ : ∃ q, W3.heap.size = q := ⟨_, rfl⟩
      have hqs : W1.heap.size ≤ q := by rw [← hq]; exact hbC.size
      rw [hq]
      refine wpAnyH_world (fun W => Below W3.heap.size W3 W ∧ Blk W q #[.int .i64 0, .string ⟨#[]⟩, .int .i64 0, .slice none 0 0] 30) ⟨bl_alloc (bl_refl _) _, Blk_new _ _ _ q hq.symm⟩ (fun W4 h4 => ?_)
      obtain ⟨hbs, hkQ⟩ := h4
      have kT1 := TrK.old (q := q) hT1 hbs (Nat.le_of_eq hq)
      clear hT1
      have hbC2 := bl_step hbs hbC
      clear hbC
      have hbC := hbC2
      clear hbC2 hbs
      have hH : W4.cell? ⟨w.heap.size + 1, 1, none⟩ = some l.val ∧ W4.cell? ⟨w.heap.size + 1, 2, none⟩ = some r.val := (And.intro (Blk.cell (HKX.out.below hbC) 1) (Blk.cell (HKX.out.below hbC) 2))
      refine wpAnyH_ready (rs := [5]) (by kernel_rfl) (by simp) ?_
      refine AllReadyH.cons rfl (fun K hK => ?_) AllReadyH.nil
      (try go_simp)
      (try go_simp)
      refine (IRR.out _).mono ?_
      rintro en W5 ⟨v2, rfl, hT, hbs⟩
      (try go_simp)
      have kT2 : TrK q W1.heap.size W5 _ v2 := TrK.new hT hkQ.lt hbC.size
      replace kT1 := kT1.below hbs
      have hkQ2 := hkQ.below hbs
      clear hkQ
      have hkQ := hkQ2
      clear hkQ2
      have hbC2 := bl_step hbs hbC
      clear hbC
      have hbC := hbC2
      clear hbC2 hbs hT
      refine hK.out _ _ (And.intro (Blk.cell (HKX.out.below hbC) 1) (Blk.cell (HKX.out.below hbC) 2)) (fun hH9 => ?_)
      clear hK K hH
      have hH : W5.cell? ⟨w.heap.size + 1, 1, none⟩ = some l.val ∧ W5.cell? ⟨w.heap.size + 1, 2, none⟩ = some r.val := hH9
      clear hH9
      (try simp only [Act.put, List.setIfInBounds_toArray, List.set_cons_zero, List.set_cons_succ])
      refine wpAnyH_ready (rs := [6]) (by kernel_rfl) (by simp) ?_
      refine AllReadyH.cons rfl (fun K hK => ?_) AllReadyH.nil
      (try go_simp)
      (try go_simp)
      refine (two_keep 5 l.tr r.tr v1 v2 q W1.heap.size _ hbC.size (Nat.le_of_lt hkQ.lt) kT1 kT2).mono ?_
      unfold GivesK
      rintro en W6 ⟨v3, rfl, kT3, hbs⟩
      (try go_simp)
      have hkQ2 := hkQ.below hbs
      clear hkQ
      have hkQ := hkQ2
      clear hkQ2
      have hbC2 := bl_step hbs hbC
      clear hbC
      have hbC := hbC2
      clear hbC2 hbs kT1 kT2
      refine hK.out _ _ (And.intro (Blk.cell (HKX.out.below hbC) 1) (Blk.cell (HKX.out.below hbC) 2)) (fun hH9 => ?_)
      clear hK K hH
      have hH : W6.cell? ⟨w.heap.size + 1, 1, none⟩ = some l.val ∧ W6.cell? ⟨w.heap.size + 1, 2, none⟩ = some r.val := hH9
      clear hH9
      (try simp only [Act.put, List.setIfInBounds_toArray, List.set_cons_zero, List.set_cons_succ])
      obtain ⟨A3, c3, cs3, rfl, -, -⟩ := kT3.at_.open_
      simp only [Tr.kind, Tr.s, Tr.n, Tr.ks, List.length_cons, List.length_nil] at kT3 ⊢
      obtain ⟨⟨y0, y1, y2, y3⟩, ⟨z0, z1, z2, z3⟩⟩ := hkQ.four
      refine wpAnyH_ready (rs := [8]) (by kernel_rfl) (by simp) ?_
      refine AllReadyH.cons rfl (fun K hK => ?_) AllReadyH.nil
      (try go_simp)
      have hltx := HKX.out.lt
      have hX8 := (HKX.out.below hbC).grown (gb4 W6 q (.int .i64 5) (.string nS) (.int .i64 0) (.slice A3 (0 + 1 + 1) c3)) (fun e => by injection e with e; omega)
      refine hK.out _ _ (And.intro (Blk.cell hX8 1) (Blk.cell hX8 2)) (fun hH9 => ?_)
      clear hK K hH9 hH y0 y1 y2 y3 z0 z1 z2 z3
      (try simp only [Act.put, List.setIfInBounds_toArray, List.set_cons_zero, List.set_cons_succ])
      have hR8 := (HKR.out.below hbC).grown (gb4 W6 q (.int .i64 5) (.string nS) (.int .i64 0) (.slice A3 (0 + 1 + 1) c3)) (fun e => by injection e with e; omega)
      have hQ8 := hkQ.set4 (.int .i64 5) (.string nS) (.int .i64 0) (.slice A3 (0 + 1 + 1) c3)
      have hb8 := bl_grown hbC (gb4 W6 q (.int .i64 5) (.string nS) (.int .i64 0) (.slice A3 (0 + 1 + 1) c3)) hqs
      have kT8 : TrK q W1.heap.size _ _ _ := fun W' hg => kT3 W' (gb_trans (gb4 W6 q (.int .i64 5) (.string nS) (.int .i64 0) (.slice A3 (0 + 1 + 1) c3)) hg)
      refine wpAnyH_world (fun W => Blk W (w.heap.size + 1) #[.string s, l.val, r.val] 55 ∧ Blk W w.heap.size #[.int .i64 0, .string ⟨#[]⟩, .int .i64 0, .slice none 0 0] 30 ∧ Blk W q #[.int .i64 5, .string nS, .int .i64 0, .slice A3 (0 + 1 + 1) c3] 30 ∧ Below W1.heap.size W1 W ∧ TrK q W1.heap.size W (.mk 5 nS 0 [l.tr, r.tr]) (.agg #[.int .i64 5, .string nS, .int .i64 0, .slice A3 (0 + 1 + 1) c3])) ⟨hX8, hR8, hQ8, hb8, kT8⟩ (fun W9 h9 => ?_)
      clear hX8 hR8 hQ8 hb8 kT8 kT3 hkQ hbC
      obtain ⟨hX9, hR9, hQ9, hb9, kT9⟩ := h9
      refine wpAnyH_done (by kernel_rfl) ?_ _
      refine NoPanic.normal ?_
      obtain ⟨⟨y0, y1, y2, y3⟩, ⟨z0, z1, z2, z3⟩⟩ := hQ9.four
      obtain ⟨⟨r0, r1, r2, r3⟩, ⟨f0, f1, f2, f3⟩⟩ := hR9.four
      have x0 := hX9.cell 0
      simp only [List.getElem?_toArray, List.getElem?_cons_zero, List.getElem?_cons_succ] at x0
      have hqr : w.heap.size ≠ q := by omega
      have hqr2 : q ≠ w.heap.size := by omega
      have hqx : w.heap.size + 1 ≠ q := by omega
      have HR9 := Lib.hid hR9; have HB9 := Lib.hid hb9; have KT9 := Lib.hid kT9; have HQS := Lib.hid hqs; have HLX := Lib.hid hltx
      clear hX9 hR9 hQ9 hb9 kT9 hqs hltx
      go_wp2_with fail
      (try simp only [Exit.inBlock, Exit.then])
      refine bodyPost_ret (results_T rfl _ _ w.heap.size _ _ _ _ _ rfl (((HR9.out.far ⟨q, 1, none⟩ hqr _)).set4 _ _ _ _)) rfl ?_
      have hq2 := HQS.out
      have hl2 := HLX.out
      have hlt1 := HB1.out.size
      exact ⟨_, rfl, TrAt.mono (TrAt.set4 (r := w.heap.size) (TrAt.rename (KT9.out _ (gb_set 1 (.string s)))) (by omega) _ _ _ _) (by omega), bl_grown (bl_grown (bl_step HB9.out HB1.out) (gb_set (g := q) 1 (.string s)) (by omega)) (gb4 _ _ _ _ _ _) (Nat.le_refl _)⟩
  · skip
    (try go_simp)
    refine hK.out _ _ (And.intro (Blk.cell (HKX.out.below (bl_alloc hbC _)) 1) (Blk.cell (HKX.out.below (bl_alloc hbC _)) 2)) (fun hH9 => ?_)
    clear hK K hH hH9
    (try simp only [Act.put, List.setIfInBounds_toArray, List.set_cons_zero, List.set_cons_succ])
    obtain ⟨q, hq⟩ : ∃ q, W2.heap.size = q := ⟨_, rfl⟩
    have hqs : W1.heap.size ≤ q := by rw [← hq]; exact hbC.size
    rw [hq]
    refine wpAnyH_world (fun W => Below W2.heap.size W2 W ∧ Blk W q #[.int .i64 0, .string ⟨#[]⟩, .int .i64 0, .slice none 0 0] 30) ⟨bl_alloc (bl_refl _) _, Blk_new _ _ _ q hq.symm⟩ (fun W3 h4 => ?_)
    obtain ⟨hbs, hkQ⟩ := h4
    skip
    skip
    have hbC2 := bl_step hbs hbC
    clear hbC
    have hbC := hbC2
    clear hbC2 hbs
    have hH : W3.cell? ⟨w.heap.size + 1, 1, none⟩ = some l.val ∧ W3.cell? ⟨w.heap.size + 1, 2, none⟩ = some r.val := (And.intro (Blk.cell (HKX.out.below hbC) 1) (Blk.cell (HKX.out.below hbC) 2))
    refine wpAnyH_ready (rs := [2]) (by kernel_rfl) (by simp) ?_
    refine AllReadyH.cons rfl (fun K hK => ?_) AllReadyH.nil
    (try go_simp)
    (try go_simp)
    refine (ILL.out _).mono ?_
    rintro en W4 ⟨v1, rfl, hT, hbs⟩
    (try go_simp)
    have kT1 : TrK q W1.heap.size W4 _ v1 := TrK.new hT hkQ.lt hbC.size
    skip
    have hkQ2 := hkQ.below hbs
    clear hkQ
    have hkQ := hkQ2
    clear hkQ2
    have hbC2 := bl_step hbs hbC
    clear hbC
    have hbC := hbC2
    clear hbC2 hbs hT
    refine hK.out _ _ (And.intro (Blk.cell (HKX.out.below hbC) 1) (Blk.cell (HKX.out.below hbC) 2)) (fun hH9 => ?_)
    clear hK K hH
    have hH : W4.cell? ⟨w.heap.size + 1, 1, none⟩ = some l.val ∧ W4.cell? ⟨w.heap.size + 1, 2, none⟩ = some r.val := hH9
    clear hH9
    (try simp only [Act.put, List.setIfInBounds_toArray, List.set_cons_zero, List.set_cons_succ])
    refine wpAnyH_ready (rs := [5]) (by kernel_rfl) (by simp) ?_
    refine AllReadyH.cons rfl (fun K hK => ?_) AllReadyH.nil
    (try go_simp)
    (try go_simp)
    refine (IRR.out _).mono ?_
    rintro en W5 ⟨v2, rfl, hT, hbs⟩
    (try go_simp)
    have kT2 : TrK q W1.heap.size W5 _ v2 := TrK.new hT hkQ.lt hbC.size
    replace kT1 := kT1.below hbs
    have hkQ2 := hkQ.below hbs
    clear hkQ
    have hkQ := hkQ2
    clear hkQ2
    have hbC2 := bl_step hbs hbC
    clear hbC
    have hbC := hbC2
    clear hbC2 hbs hT
    refine hK.out _ _ (And.intro (Blk.cell (HKX.out.below hbC) 1) (Blk.cell (HKX.out.below hbC) 2)) (fun hH9 => ?_)
    clear hK K hH
    have hH : W5.cell? ⟨w.heap.size + 1, 1, none⟩ = some l.val ∧ W5.cell? ⟨w.heap.size + 1, 2, none⟩ = some r.val := hH9
    clear hH9
    (try simp only [Act.put, List.setIfInBounds_toArray, List.set_cons_zero, List.set_cons_succ])
    refine wpAnyH_ready (rs := [6]) (by kernel_rfl) (by simp) ?_
    refine AllReadyH.cons rfl (fun K hK => ?_) AllReadyH.nil
    (try go_simp)
    (try go_simp)
    refine (two_keep 5 l.tr r.tr v1 v2 q W1.heap.size _ hbC.size (Nat.le_of_lt hkQ.lt) kT1 kT2).mono ?_
    unfold GivesK
    rintro en W6 ⟨v3, rfl, kT3, hbs⟩
    (try go_simp)
    have hkQ2 := hkQ.below hbs
    clear hkQ
    have hkQ := hkQ2
    clear hkQ2
    have hbC2 := bl_step hbs hbC
    clear hbC
    have hbC := hbC2
    clear hbC2 hbs kT1 kT2
    refine hK.out _ _ (And.intro (Blk.cell (HKX.out.below hbC) 1) (Blk.cell (HKX.out.below hbC) 2)) (fun hH9 => ?_)
    clear hK K hH
    have hH : W6.cell? ⟨w.heap.size + 1, 1, none⟩ = some l.val ∧ W6.cell? ⟨w.heap.size + 1, 2, none⟩ = some r.val := hH9
    clear hH9
    (try simp only [Act.put, List.setIfInBounds_toArray, List.set_cons_zero, List.set_cons_succ])
    obtain ⟨A3, c3, cs3, rfl, -, -⟩ := kT3.at_.open_
    simp only [Tr.kind, Tr.s, Tr.n, Tr.ks, List.length_cons, List.length_nil] at kT3 ⊢
    obtain ⟨⟨y0, y1, y2, y3⟩, ⟨z0, z1, z2, z3⟩⟩ := hkQ.four
    refine wpAnyH_ready (rs := [8]) (by kernel_rfl) (by simp) ?_
    refine AllReadyH.cons rfl (fun K hK => ?_) AllReadyH.nil
    (try go_simp)
    have hltx := HKX.out.lt
    have hX8 := (HKX.out.below hbC).grown (gb4 W6 q (.int .i64 5) (.string nS) (.int .i64 0) (.slice A3 (0 + 1 + 1) c3)) (fun e => by injection e with e; omega)
    refine hK.out _ _ (And.intro (Blk.cell hX8 1) (Blk.cell hX8 2)) (fun hH9 => ?_)
    clear hK K hH9 hH y0 y1 y2 y3 z0 z1 z2 z3
    (try simp only [Act.put, List.setIfInBounds_toArray, List.set_cons_zero, List.set_cons_succ])
    have hR8 := (HKR.out.below hbC).grown (gb4 W6 q (.int .i64 5) (.string nS) (.int .i64 0) (.slice A3 (0 + 1 + 1) c3)) (fun e => by injection e with e; omega)
    have hQ8 := hkQ.set4 (.int .i64 5) (.string nS) (.int .i64 0) (.slice A3 (0 + 1 + 1) c3)
    have hb8 := bl_grown hbC (gb4 W6 q (.int .i64 5) (.string nS) (.int .i64 0) (.slice A3 (0 + 1 + 1) c3)) hqs
    have kT8 : TrK q W1.heap.size _ _ _ := fun W' hg => kT3 W' (gb_trans (gb4 W6 q (.int .i64 5) (.string nS) (.int .i64 0) (.slice A3 (0 + 1 + 1) c3)) hg)
    refine wpAnyH_world (fun W => Blk W (w.heap.size + 1) #[.string s, l.val, r.val] 55 ∧ Blk W w.heap.size #[.int .i64 0, .string ⟨#[]⟩, .int .i64 0, .slice none 0 0] 30 ∧ Blk W q #[.int .i64 5, .string nS, .int .i64 0, .slice A3 (0 + 1 + 1) c3] 30 ∧ Below W1.heap.size W1 W ∧ TrK q W1.heap.size W (.mk 5 nS 0 [l.tr, r.tr]) (.agg #[.int .i64 5, .string nS, .int .i64 0, .slice A3 (0 + 1 + 1) c3])) ⟨hX8, hR8, hQ8, hb8, kT8⟩ (fun W9 h9 => ?_)
    clear hX8 hR8 hQ8 hb8 kT8 kT3 hkQ hbC
    obtain ⟨hX9, hR9, hQ9, hb9, kT9⟩ := h9
    refine wpAnyH_done (by kernel_rfl) ?_ _
    refine NoPanic.normal ?_
    obtain ⟨⟨y0, y1, y2, y3⟩, ⟨z0, z1, z2, z3⟩⟩ := hQ9.four
    obtain ⟨⟨r0, r1, r2, r3⟩, ⟨f0, f1, f2, f3⟩⟩ := hR9.four
    have x0 := hX9.cell 0
    simp only [List.getElem?_toArray, List.getElem?_cons_zero, List.getElem?_cons_succ] at x0
    have hqr : w.heap.size ≠ q := by omega
    have hqr2 : q ≠ w.heap.size := by omega
    have hqx : w.heap.size + 1 ≠ q := by omega
    have HR9 := Lib.hid hR9; have HB9 := Lib.hid hb9; have KT9 := Lib.hid kT9; have HQS := Lib.hid hqs; have HLX := Lib.hid hltx
    clear hX9 hR9 hQ9 hb9 kT9 hqs hltx
    go_wp2_with fail
    (try simp only [Exit.inBlock, Exit.then])
    refine bodyPost_ret (results_T rfl _ _ w.heap.size _ _ _ _ _ rfl (((HR9.out.far ⟨q, 1, none⟩ hqr _)).set4 _ _ _ _)) rfl ?_
    have hq2 := HQS.out
    have hl2 := HLX.out
    have hlt1 := HB1.out.size
    exact ⟨_, rfl, TrAt.mono (TrAt.set4 (r := w.heap.size) (TrAt.rename (KT9.out _ (gb_set 1 (.string s)))) (by omega) _ _ _ _) (by omega), bl_grown (bl_grown (bl_step HB9.out HB1.out) (gb_set (g := q) 1 (.string s)) (by omega)) (gb4 _ _ _ _ _ _) (Nat.le_refl _)⟩
set_option maxRecDepth 100000 in
set_option maxHeartbeats 8000000 in
theorem plterm_calls : ∀ (o : Tm), o.ok → ∀ (w : World), Calls Tryd.prog 30 #[o.val] w (GivesP w o.tr) := by
  intro o
  induction o with
  | zero => intro ho w; exact pterm_leaf _ ho rfl w
  | one s => intro ho w; exact pterm_leaf _ ho rfl w
  | odd v => intro ho w; exact pterm_leaf _ ho rfl w
  | when_ n t ih => intro ho w; exact plain_when n t ho (ih ho.2) w
  | if_ o l r il ir => intro ho w; exact plain_if o l r ho (il ho.2.1) (ir ho.2.2) w
  | or s l r il ir => intro ho w; exact plain_or s l r ho (il ho.2.1) (ir ho.2.2) w
  | give o ih =>
    intro ho w
    unfold GivesP
    have hok : o.ok := ho
    have hl := o.isI hok
    have IH := Lib.hid (ih hok)
    clear ih
    unfold GivesP at IH
    unfold Tm.val Tm.tr
    obtain ⟨W1, hW1⟩ : ∃ W1, (w.alloc (.cells #[.int .i64 0, .string ⟨#[]⟩, .int .i64 0, .slice none 0 0] 30)).alloc (.cells #[o.val] 51) = W1 := ⟨_, rfl⟩
    have hb1 := bl_alloc (bl_alloc (bl_refl w) (.cells #[.int .i64 0, .string ⟨#[]⟩, .int .i64 0, .slice none 0 0] 30)) (.cells #[o.val] 51)
    have hkR := (Blk.new w #[.int .i64 0, .string ⟨#[]⟩, .int .i64 0, .slice none 0 0] 30).below (bl_alloc (bl_refl _) (.cells #[o.val] 51))
    have hkX := Blk_new (w.alloc (.cells #[.int .i64 0, .string ⟨#[]⟩, .int .i64 0, .slice none 0 0] 30)) #[o.val] 51 (w.heap.size + 1) (alloc_size _ _).symm
    rw [hW1] at hb1 hkR hkX
    have hlt := hkR.lt
    have hltX := hkX.lt
    have HW1 := Lib.hid hW1; have HB1 := Lib.hid hb1; have HKR := Lib.hid hkR; have HKX := Lib.hid hkX
    clear hW1 hb1 hkR hkX
    have x0 := HKX.out.cell 0
    simp only [List.getElem?_toArray, List.getElem?_cons_zero, List.getElem?_cons_succ] at x0
    go_enter Tryd.func30, Tryd.ntmps30
    go_upto_region 10 with fail
    rw [HW1.out]
    go_wp2_with fail
    refine (IH.out _).mono ?_
    rintro en w2 ⟨v, rfl, hT, hb2⟩
    obtain ⟨A2, c2, cs2, rfl, -, -⟩ := hT.open_
    have hb3 := bl_step hb2 HB1.out
    have hkR2 := HKR.out.below hb2
    have hlt2 := hkR2.lt
    obtain ⟨⟨r0, r1, r2, r3⟩, ⟨f0, f1, f2, f3⟩⟩ := hkR2.four
    have HT := Lib.hid hT; have HB3 := Lib.hid hb3; have HKR2 := Lib.hid hkR2
    clear hT hb3 hkR2
    go_wp2_with fail
    (try simp only [Exit.inBlock, Exit.then])
    refine bodyPost_ret (results_T rfl _ _ w.heap.size _ _ _ _ _ rfl ((HKR2.out.set4 _ _ _ _).below (bl_alloc (bl_refl _) _))) rfl ?_
    have hlt1 := HB1.out.size
    refine ⟨_, rfl, TrAt.mk_ (RowOf.new (Blk_new _ _ _ w2.heap.size (size_set4 _ _ _ _ _ _).symm) (by omega)) (TrsAt.cons (TrAt.mono (((HT.out).set4 (r := w.heap.size) (by have := HKX.out.lt; omega) _ _ _ _).below (bl_alloc (bl_refl _) _)) (by omega)) (TrsAt.nil _ _)), bl_alloc (bl_grown HB3.out (gb4 _ _ _ _ _ _) (Nat.le_refl _)) _⟩
  | and l r ihl ihr =>
    intro ho w
    unfold GivesP
    have hok := ho
    have hl := l.isI ho.1
    have hr := r.isI ho.2
    have hol := ho.1; have hor := ho.2
    have IL := Lib.hid (ihl ho.1); have IR := Lib.hid (ihr ho.2)
    clear ihl ihr
    unfold Tm.val Tm.tr
    obtain ⟨W1, hW1⟩ : ∃ W1, (w.alloc (.cells #[.int .i64 0, .string ⟨#[]⟩, .int .i64 0, .slice none 0 0] 30)).alloc (.cells #[l.val, r.val] 53) = W1 := ⟨_, rfl⟩
    have hb1 := bl_alloc (bl_alloc (bl_refl w) (.cells #[.int .i64 0, .string ⟨#[]⟩, .int .i64 0, .slice none 0 0] 30)) (.cells #[l.val, r.val] 53)
    have hkR := (Blk.new w #[.int .i64 0, .string ⟨#[]⟩, .int .i64 0, .slice none 0 0] 30).below (bl_alloc (bl_refl _) (.cells #[l.val, r.val] 53))
    have hkX := Blk_new (w.alloc (.cells #[.int .i64 0, .string ⟨#[]⟩, .int .i64 0, .slice none 0 0] 30)) #[l.val, r.val] 53 (w.heap.size + 1) (alloc_size _ _).symm
    rw [hW1] at hb1 hkR hkX
    have hlt := hkR.lt
    have hltX := hkX.lt
    have HW1 := Lib.hid hW1; have HB1 := Lib.hid hb1; have HKR := Lib.hid hkR; have HKX := Lib.hid hkX
    clear hW1 hb1 hkR hkX
    have x0 := HKX.out.cell 0
    have x1 := HKX.out.cell 1
    simp only [List.getElem?_toArray, List.getElem?_cons_zero, List.getElem?_cons_succ] at x0 x1
    unfold GivesP at IL IR
    go_enter Tryd.func30, Tryd.ntmps30
    go_upto_region 13 with fail
    rw [HW1.out]
    refine wp_region_noPanic ?_
    refine wp_region_held_drew (S := fun w' => w'.cell? ⟨w.heap.size + 1, 0, none⟩ = some l.val ∧ w'.cell? ⟨w.heap.size + 1, 1, none⟩ = some r.val) (by kernel_rfl) ⟨x0, x1⟩ (fun hH => ?_)
    clear x0 x1 HW1
    refine wpAnyH_world (fun W => Below W1.heap.size W1 W) (bl_drew (bl_refl _)) (fun W2 hb2 => ?_)
    clear hH
    have hH : W2.cell? ⟨w.heap.size + 1, 0, none⟩ = some l.val ∧ W2.cell? ⟨w.heap.size + 1, 1, none⟩ = some r.val := ⟨(HKX.out.below hb2).cell 0, (HKX.out.below hb2).cell 1⟩
    refine tkx 0 rfl ?_
    refine tkx 1 rfl ?_
    refine tkx 3 rfl ?_
    refine tkx 4 rfl ?_
    refine wpAnyH_ready (rs := [2]) (by kernel_rfl) (by simp) ?_
    refine AllReadyH.cons rfl (fun K hK => ?_) AllReadyH.nil
    (try go_simp)
    refine (IL.out _).mono ?_
    rintro en W3 ⟨v1, rfl, hT1, hb3⟩
    (try go_simp)
    have hb4 := bl_step hb3 hb2
    refine hK.out _ _ ⟨(HKX.out.below hb4).cell 0, (HKX.out.below hb4).cell 1⟩ (fun hH9 => ?_)
    clear hK K hH
    have hH := hH9
    clear hH9
    (try dsimp only [Act.put, List.setIfInBounds_toArray, List.set_cons_zero, List.set_cons_succ])
    refine wpAnyH_ready (rs := [5]) (by kernel_rfl) (by simp) ?_
    refine AllReadyH.cons rfl (fun K hK => ?_) AllReadyH.nil
    (try go_simp)
    refine (IR.out _).mono ?_
    rintro en W4 ⟨v2, rfl, hT2, hb5⟩
    (try go_simp)
    have hb6 := bl_step hb5 hb4
    refine hK.out _ _ ⟨(HKX.out.below hb6).cell 0, (HKX.out.below hb6).cell 1⟩ (fun hH9 => ?_)
    clear hK K hH
    have hH := hH9
    clear hH9
    (try dsimp only [Act.put, List.setIfInBounds_toArray, List.set_cons_zero, List.set_cons_succ])
    refine wpAnyH_ready (rs := [6]) (by kernel_rfl) (by simp) ?_
    refine AllReadyH.cons rfl (fun K hK => ?_) AllReadyH.nil
    (try go_simp)
    have hz2 := hb2.size
    have hz3 := hb3.size
    have hz5 := hb5.size
    refine (two_calls 4 l.tr r.tr v1 v2 W1.heap.size W4 (by omega) ((hT1.below hb5).mono (by omega)) (hT2.mono (by omega))).mono ?_
    unfold GivesX
    rintro en W5 ⟨v3, rfl, hT3, hb7⟩
    obtain ⟨A3, c3, cs3, rfl, -, -⟩ := hT3.open_
    simp only [Tr.kind, Tr.s, Tr.n, Tr.ks, List.length_cons, List.length_nil] at hT3 ⊢
    (try go_simp)
    have hb8 := bl_step hb7 hb6
    refine hK.out _ _ ⟨(HKX.out.below hb8).cell 0, (HKX.out.below hb8).cell 1⟩ (fun hH9 => ?_)
    clear hK K hH hH9
    (try dsimp only [Act.put, List.setIfInBounds_toArray, List.set_cons_zero, List.set_cons_succ])
    have HKR5 := Lib.hid (HKR.out.below hb8); have HT3 := Lib.hid hT3; have HB8 := Lib.hid hb8
    clear hT1 hT2 hT3 hb2 hb3 hb4 hb5 hb6 hb7 hz2 hz3 hz5
    obtain ⟨⟨r0, r1, r2, r3⟩, ⟨f0, f1, f2, f3⟩⟩ := HKR5.out.four
    refine wpAnyH_ready (rs := [7]) (by kernel_rfl) (by simp) ?_
    refine AllReadyH.cons rfl (fun K hK => ?_) AllReadyH.nil
    (try go_simp)
    have hkX9 := (HKX.out.below hb8).grown (gb4 W5 w.heap.size (.int .i64 4) (.string nS) (.int .i64 0) (.slice A3 (0 + 1 + 1) c3)) (fun e => by injection e with e; omega)
    refine hK.out _ _ ⟨hkX9.cell 0, hkX9.cell 1⟩ (fun hH9 => ?_)
    clear hK K hH9 hkX9 hb8 r0 r1 r2 r3 f0 f1 f2 f3
    (try dsimp only [Act.put, List.setIfInBounds_toArray, List.set_cons_zero, List.set_cons_succ])
    refine wpAnyH_done (by kernel_rfl) ?_ _
    refine NoPanic.normal ?_
    go_wp2_with fail
    (try simp only [Exit.inBlock, Exit.then])
    refine bodyPost_ret (results_T rfl _ _ w.heap.size _ _ _ _ _ rfl ((HKR5.out).set4 _ _ _ _)) rfl ?_
    have hlt1 := HB1.out.size
    refine ⟨_, rfl, TrAt.mono (HT3.out.set4 (r := w.heap.size) (by omega) _ _ _ _) (by omega), bl_grown (bl_step HB8.out HB1.out) (gb4 _ _ _ _ _ _) (Nat.le_refl _)⟩
  | scale l r ihr =>
    intro ho w
    have ihl := plobs_calls l
    unfold GivesP
    have hok := ho
    have hl := l.isI ho.1
    have hr := r.isI ho.2
    have hol := ho.1; have hor := ho.2
    have IL := Lib.hid (ihl ho.1); have IR := Lib.hid (ihr ho.2)
    clear ihl ihr
    unfold Tm.val Tm.tr
    obtain ⟨W1, hW1⟩ : ∃ W1, (w.alloc (.cells #[.int .i64 0, .string ⟨#[]⟩, .int .i64 0, .slice none 0 0] 30)).alloc (.cells #[l.val, r.val] 59) = W1 := ⟨_, rfl⟩
    have hb1 := bl_alloc (bl_alloc (bl_refl w) (.cells #[.int .i64 0, .string ⟨#[]⟩, .int .i64 0, .slice none 0 0] 30)) (.cells #[l.val, r.val] 59)
    have hkR := (Blk.new w #[.int .i64 0, .string ⟨#[]⟩, .int .i64 0, .slice none 0 0] 30).below (bl_alloc (bl_refl _) (.cells #[l.val, r.val] 59))
    have hkX := Blk_new (w.alloc (.cells #[.int .i64 0, .string ⟨#[]⟩, .int .i64 0, .slice none 0 0] 30)) #[l.val, r.val] 59 (w.heap.size + 1) (alloc_size _ _).symm
    rw [hW1] at hb1 hkR hkX
    have hlt := hkR.lt
    have hltX := hkX.lt
    have HW1 := Lib.hid hW1; have HB1 := Lib.hid hb1; have HKR := Lib.hid hkR; have HKX := Lib.hid hkX
    clear hW1 hb1 hkR hkX
    have x0 := HKX.out.cell 0
    have x1 := HKX.out.cell 1
    simp only [List.getElem?_toArray, List.getElem?_cons_zero, List.getElem?_cons_succ] at x0 x1
    unfold GivesP at IL IR
    go_enter Tryd.func30, Tryd.ntmps30
    go_upto_region 21 with fail
    rw [HW1.out]
    refine wp_region_noPanic ?_
    refine wp_region_held_drew (S := fun w' => w'.cell? ⟨w.heap.size + 1, 0, none⟩ = some l.val ∧ w'.cell? ⟨w.heap.size + 1, 1, none⟩ = some r.val) (by kernel_rfl) ⟨x0, x1⟩ (fun hH => ?_)
    clear x0 x1 HW1
    refine wpAnyH_world (fun W => Below W1.heap.size W1 W) (bl_drew (bl_refl _)) (fun W2 hb2 => ?_)
    clear hH
    have hH : W2.cell? ⟨w.heap.size + 1, 0, none⟩ = some l.val ∧ W2.cell? ⟨w.heap.size + 1, 1, none⟩ = some r.val := ⟨(HKX.out.below hb2).cell 0, (HKX.out.below hb2).cell 1⟩
    refine tkx 0 rfl ?_
    refine tkx 1 rfl ?_
    refine tkx 3 rfl ?_
    refine tkx 4 rfl ?_
    refine wpAnyH_ready (rs := [2]) (by kernel_rfl) (by simp) ?_
    refine AllReadyH.cons rfl (fun K hK => ?_) AllReadyH.nil
    (try go_simp)
    refine (IL.out _).mono ?_
    rintro en W3 ⟨v1, rfl, hT1, hb3⟩
    (try go_simp)
    have hb4 := bl_step hb3 hb2
    refine hK.out _ _ ⟨(HKX.out.below hb4).cell 0, (HKX.out.below hb4).cell 1⟩ (fun hH9 => ?_)
    clear hK K hH
    have hH := hH9
    clear hH9
    (try dsimp only [Act.put, List.setIfInBounds_toArray, List.set_cons_zero, List.set_cons_succ])
    refine wpAnyH_ready (rs := [5]) (by kernel_rfl) (by simp) ?_
    refine AllReadyH.cons rfl (fun K hK => ?_) AllReadyH.nil
    (try go_simp)
    refine (IR.out _).mono ?_
    rintro en W4 ⟨v2, rfl, hT2, hb5⟩
    (try go_simp)
    have hb6 := bl_step hb5 hb4
    refine hK.out _ _ ⟨(HKX.out.below hb6).cell 0, (HKX.out.below hb6).cell 1⟩ (fun hH9 => ?_)
    clear hK K hH
    have hH := hH9
    clear hH9
    (try dsimp only [Act.put, List.setIfInBounds_toArray, List.set_cons_zero, List.set_cons_succ])
    refine wpAnyH_ready (rs := [6]) (by kernel_rfl) (by simp) ?_
    refine AllReadyH.cons rfl (fun K hK => ?_) AllReadyH.nil
    (try go_simp)
    have hz2 := hb2.size
    have hz3 := hb3.size
    have hz5 := hb5.size
    refine (two_calls 6 l.tr r.tr v1 v2 W1.heap.size W4 (by omega) ((hT1.below hb5).mono (by omega)) (hT2.mono (by omega))).mono ?_
    unfold GivesX
    rintro en W5 ⟨v3, rfl, hT3, hb7⟩
    obtain ⟨A3, c3, cs3, rfl, -, -⟩ := hT3.open_
    simp only [Tr.kind, Tr.s, Tr.n, Tr.ks, List.length_cons, List.length_nil] at hT3 ⊢
    (try go_simp)
    have hb8 := bl_step hb7 hb6
    refine hK.out _ _ ⟨(HKX.out.below hb8).cell 0, (HKX.out.below hb8).cell 1⟩ (fun hH9 => ?_)
    clear hK K hH hH9
    (try dsimp only [Act.put, List.setIfInBounds_toArray, List.set_cons_zero, List.set_cons_succ])
    have HKR5 := Lib.hid (HKR.out.below hb8); have HT3 := Lib.hid hT3; have HB8 := Lib.hid hb8
    clear hT1 hT2 hT3 hb2 hb3 hb4 hb5 hb6 hb7 hz2 hz3 hz5
    obtain ⟨⟨r0, r1, r2, r3⟩, ⟨f0, f1, f2, f3⟩⟩ := HKR5.out.four
    refine wpAnyH_ready (rs := [7]) (by kernel_rfl) (by simp) ?_
    refine AllReadyH.cons rfl (fun K hK => ?_) AllReadyH.nil
    (try go_simp)
    have hkX9 := (HKX.out.below hb8).grown (gb4 W5 w.heap.size (.int .i64 6) (.string nS) (.int .i64 0) (.slice A3 (0 + 1 + 1) c3)) (fun e => by injection e with e; omega)
    refine hK.out _ _ ⟨hkX9.cell 0, hkX9.cell 1⟩ (fun hH9 => ?_)
    clear hK K hH9 hkX9 hb8 r0 r1 r2 r3 f0 f1 f2 f3
    (try dsimp only [Act.put, List.setIfInBounds_toArray, List.set_cons_zero, List.set_cons_succ])
    refine wpAnyH_done (by kernel_rfl) ?_ _
    refine NoPanic.normal ?_
    go_wp2_with fail
    (try simp only [Exit.inBlock, Exit.then])
    refine bodyPost_ret (results_T rfl _ _ w.heap.size _ _ _ _ _ rfl ((HKR5.out).set4 _ _ _ _)) rfl ?_
    have hlt1 := HB1.out.size
    refine ⟨_, rfl, TrAt.mono (HT3.out.set4 (r := w.heap.size) (by omega) _ _ _ _) (by omega), bl_grown (bl_step HB8.out HB1.out) (gb4 _ _ _ _ _ _) (Nat.le_refl _)⟩
end Go.Proofs.YtapbkomicihkkaaDoor
