/- A chain in memory: made, asked for heads and entries. -/
import Derived.Test.YtapbkomicihkkaaGreatDoorPkG
import Derived.Test.YtapbkomicihkkaaGreatDoorKeyG
import Derived.Deep.RegionHeld
import Derived.Deep.RegionWith
import Derived.BigQuiet
import Derived.Test.YtapbkomicihkkaaGreatDoorBuild
namespace Go.Proofs.YtapbkomicihkkaaGreatDoor
open Go.RowKit
set_option linter.unusedVariables false
set_option linter.unusedSimpArgs false

section
variable {P : Program} {ops : Array Oper} {o : Oper} {a : Act} {K : Act → World → Prop} {Q : Exit → Act → World → Prop}
/-- append(v, xs...) in a drawn region. -/
theorem append_anyW {w0 W : World} (s x : Operand) (t e : TypeId) (z : Value) (size bytes : Nat)
  (ho : o.op = .call { callee := .builtin .append, args := #[s, x], argTypes := #[t, t] })
  (ht : P.underlying t = some (.slice e)) (hinfo : (P.info? e).map (fun i => (i.zero, i.size, i.bytes)) = some (some z, size, bytes)) (hz : z.cells.size = size) (hsz : 0 < size)
  (v : Value) (n : Nat) (xs : List Value) (A : Option Addr) (m c : Nat) (news : List Value) (HO : Own w0 W e size v n xs) (HB : Below w0.heap.size w0 W) (hr : Rd W A news) (hs : a.eval s = v) (hx : a.eval x = .slice A m c) (hnl : news.length = m * size) (h1 : ∀ u ∈ news, u.oneCell' = true)
  (hl : (n + m) * bytes ≤ 140737488355328) (hn : n + m ≤ 140737488355328)
  (h : ∀ v1 w1, Own w0 w1 e size v1 (n + m) (xs ++ news) → Below w0.heap.size w0 w1 → W.grownBy w1 v.ownBlock → K (a.put o.dst v1) w1) :
  o.wp P a W K Q := by
 obtain ⟨i0, hi, hzz⟩ := Option.map_eq_some_iff.1 hinfo
 simp only [Prod.mk.injEq] at hzz
 obtain ⟨hz0, hz1, hz2⟩ := hzz
 cases A with
 | some ad =>
  refine wp_append_own _ s x t ho w0.heap.size e i0 z size bytes ht hi hz0 hz1 hz2 hz hsz v n xs hs HO ad m c news hx hnl ?_ h1 (by simp only [maxLen]; omega) hl HB.size ?_
  ·intro j u hu
   obtain ⟨ad', e1, hc⟩ := hr j u hu
   cases e1
   exact hc
  ·intro v1 w1 hown hg _
   exact h v1 w1 hown (HB.grown hg HB.size (Own.at_base HO)) hg
 | none =>
  cases news with
  | cons y ys => obtain ⟨_, e1, _⟩ := hr 0 y (by simp); cases e1
  | nil =>
   have hm : m = 0 := by
    simp only [List.length_nil] at hnl
    rcases Nat.eq_zero_or_pos m with h | h
    ·exact h
    ·have := Nat.mul_pos h hsz; omega
   subst hm
   obtain ⟨A', c', rfl, _, hc', _⟩ := HO.read
   have hrun := run_append_empty (P := P) W t o.type e i0 ht hi A' n c' c hc'
   unfold Oper.wp
   simp [execOp, ho, resolve, invoke, builtin, hs, hx, hrun, Result.andThen]
   exact h _ W (by simpa using HO) HB (gb_refl _ _)
end
theorem isU_sipSum (key b : List UInt8) : isU (sipSum key b) := by unfold sipSum sipOf Four.out; exact isU_xor _ _
/-- The head behind an entry. -/
def En.next (key : List UInt8) (h : Int) (x : En) : Int := if x.ev.check = 0 then sipSum key (bytesI h ++ x.pack) else 0
def RetNext (w : World) (h er : Int) (en : Ending) (w' : World) : Prop := en = .returned (.tuple #[.int .u64 h, .int .i64 er]) ∧ Below w.heap.size w w'
set_option maxRecDepth 100000 in
set_option maxHeartbeats 4000000 in
theorem next_calls (key : List UInt8) (hkl : key.length = 16) (h : Int) (hh : isU h) (x : En) (hx : x.ev.small) (w : World) (ht : TabOk w) :
  Calls Tryz.prog 30 #[.agg (byts key).toArray, .int .u64 h, x.val] w (RetNext w (x.next key h) x.ev.check) := by
 unfold RetNext
 have hpe := fun W hW => pentry_calls x hx W hW
 have hcc := x.ev.term.cells_ hx.ok.term
 have ho7 := x.ev.term.one_ hx.ok.term
 have hpl := x.pack_length hx
 have hkb := (Blk.new w (byts key).toArray 55).below (bl_alloc (bl_refl _) (.cells x.cells 59))
 have hb0 := Blk_new (w.alloc (.cells (byts key).toArray 55)) x.cells 59 (w.heap.size + 1) (by simp)
 have hbA := bl_alloc (bl_alloc (bl_refl w) (.cells (byts key).toArray 55)) (.cells x.cells 59)
 unfold En.cells at *
 obtain ⟨f0, f1, f2, f3, f4, f5, f6, f7, f8⟩ := Blk.ens (x := x) hb0
 obtain ⟨W1, hW1⟩ : ∃ W1, (w.alloc (.cells (byts key).toArray 55)).alloc (.cells #[.int .i64 x.ev.kind, .string x.ev.id, .string x.ev.name, .string x.ev.label, .string x.ev.cur, .int .i64 x.ev.day, .int .i64 x.ev.value, x.ev.term.val, .bool x.no] 59) = W1 := ⟨_, rfl⟩
 rw [hW1] at f0 f1 f2 f3 f4 f5 f6 f7 f8 hbA hb0 hkb
 unfold RetPk at hpe
 unfold En.val at hpe ⊢
 have HT := Lib.hid ht; have HW1 := Lib.hid hW1; have HPE := Lib.hid hpe; have HKB := Lib.hid hkb; have HBA := Lib.hid hbA; have HKL := Lib.hid hkl
 clear hW1 hpe hkb hbA ht hb0 hkl
 by_cases hz : x.ev.check = 0
 ·have HP : Hid (x.next key h = sipSum key (bytesI h ++ x.pack)) := by show _ = _; unfold En.next; rw [if_pos hz]
  rw [hz] at HPE ⊢
  rw [HP.out]
  clear hz HP
  generalize x.pack = l at *
  have HPL := Lib.hid hpl
  clear hpl
  go_enter Tryz.func30, Tryz.ntmps30
  go_upto_region 1 with fail
  rw [HW1.out]
  go_wp2_with fail
  refine (HPE.out _ (HT.out.below HBA.out)).mono ?_
  rintro en w2 ⟨vb, rfl, hOb, hb2⟩
  obtain ⟨Ab, cb, rfl, hRb, -, -⟩ := hOb.read
  have hk2 := HKB.out.below hb2
  have hB2 := bl_step hb2 HBA.out
  clear f0 f1 f2 f3 f4 f5 f6 f7 f8 HW1 hOb hb2 HPE HKB HBA HT
  go_upto_region 4 with fail
  have hra : w2.rangeAt w.heap.size 0 (byts key) := hk2.range
  have hu := Tryz.underlying55
  have hi : (Tryz.prog.info? 55).map (·.size) = some (byts key).length := by rw [byts_length, HKL.out]; kernel_rfl
  refine wp_region_noPanic ?_
  refine wp_region_held_drew (S := fun w' => w'.rangeAt w.heap.size 0 (byts key)) (by kernel_rfl) hra (fun hHeld => ?_)
  have hB0 := hB2.drew
  have hR0 : Rd w2.drew _ _ := hRb
  have hk0 := hk2.drew
  clear hra hB2 hRb hk2
  generalize w2.drew = w0 at hHeld hB0 hR0 hk0 ⊢
  have hpl := HPL.out
  refine wpAnyH_take (i := 0) (oi := ⟨some 18, .load 55 (.tmp 3), _, _, _, _⟩) (v := .agg (List.toArray (byts key))) rfl (by kernel_rfl) (by kernel_rfl) (by kernel_rfl) (fun _ _ _ h => h) (yieldsIf_load_mid (by rfl) _ _ rfl _ _ rfl (byts key) _ (fun w h => h) hu rfl hi) (by assumption) ?_
  simp only [Act.put, List.setIfInBounds_toArray, List.set_cons_zero, List.set_cons_succ]
  refine wpAnyH_take (i := 1) (oi := ⟨some 19, .move (.tmp 1), _, _, _, _⟩) (v := .int .u64 h) rfl (by kernel_rfl) (by kernel_rfl) (by kernel_rfl) (fun _ _ _ h => h) (Or.inl ⟨by rfl, ?_⟩) (by assumption) ?_
  ·intro w hSw; go_simp; try with_reducible rfl
  simp only [Act.put, List.setIfInBounds_toArray, List.set_cons_zero, List.set_cons_succ]
  refine wpAnyH_take (i := 3) (oi := ⟨some 21, .move (.tmp 8), _, _, _, _⟩) (v := .slice Ab l.length cb) rfl (by kernel_rfl) (by kernel_rfl) (by kernel_rfl) (fun _ _ _ h => h) (Or.inl ⟨by rfl, ?_⟩) (by assumption) ?_
  ·intro w hSw; go_simp; try with_reducible rfl
  simp only [Act.put, List.setIfInBounds_toArray, List.set_cons_zero, List.set_cons_succ]
  refine wpAnyH_ready (rs := [2]) (by kernel_rfl) (by simp) ?_
  refine AllReadyH.cons (o := ⟨some 20, .call _, _, _, _, _⟩) rfl (fun K hK => ?_) AllReadyH.nil
  go_simp
  refine (bytes_calls h hh _).mono ?_
  rintro e w3 ⟨v, rfl, HO, hb⟩
  go_wp2_with fail
  refine hK.out _ _ ?_ (fun hHeld => ?_)
  ·exact range_below hHeld hb
  clear hK K
  try simp only [Act.put, List.setIfInBounds_toArray, List.set_cons_zero, List.set_cons_succ]
  have hB1 := bl_step hb hB0
  have hk1 := hk0.below hb
  have hR1 := hR0.below hb
  have hO1 := HO.mono hB0.size
  clear hb hB0 hR0 hk0 HO
  refine wpAnyH_ready (rs := [4]) (by kernel_rfl) (by simp) ?_
  refine AllReadyH.cons (o := ⟨some 22, .call _, _, _, _, _⟩) rfl (fun K hK => ?_) AllReadyH.nil
  refine Eq.mpr (if_pos (by rfl)) ?_
  refine append_anyW (w0 := w) _ _ 51 5 _ 1 1 rfl Tryz.underlying51 info_u8 rfl (by decide) _ 8 _ Ab _ cb _ hO1 hB1 hR1 rfl rfl (by rw [byts_length, Nat.mul_one]) (byts_one _) (by omega) (by omega) ?_
  intro v1 w4 HO4 HB4 HG4
  have hk4 := hk1.grown HG4 (hO1.ne_blk hk1 (by decide))
  refine hK.out _ _ hk4.range (fun hHeld2 => ?_)
  clear hK K hHeld hO1 hB1 hR1 HG4 hk1
  have hHeld := hHeld2
  clear hHeld2
  simp only [Act.put, List.setIfInBounds_toArray, List.set_cons_zero, List.set_cons_succ]
  obtain ⟨A4, c4, rfl, hR4, hc4, -⟩ := HO4.read
  have hby : byts (bytesI h) ++ byts l = byts (bytesI h ++ l) := by unfold byts; rw [List.map_append]
  rw [hby] at hR4
  have hln : (bytesI h ++ l).length = 8 + l.length := by rw [List.length_append, bytesI_length]
  refine wpAnyH_ready (rs := [5]) (by kernel_rfl) (by simp) ?_
  refine AllReadyH.cons (o := ⟨some 23, .call _, _, _, _, _⟩) rfl (fun K hK => ?_) AllReadyH.nil
  go_simp
  refine (sum_at key HKL.out A4 c4 (8 + l.length) (bytesI h ++ l) _ hln hR4 (by omega) hc4).mono ?_
  rintro e w5 ⟨rfl, hb⟩
  have hk5 := hk4.below hb
  go_wp2_with fail
  refine hK.out _ _ ?_ (fun hHeld => ?_)
  ·exact hk5.range
  clear hK K
  try simp only [Act.put, List.setIfInBounds_toArray, List.set_cons_zero, List.set_cons_succ]
  have hB5 := bl_step hb HB4
  clear hb HB4 HO4 hk4 hR4
  obtain ⟨r, hr⟩ : ∃ r, sipSum key (bytesI h ++ l) = r := ⟨_, rfl⟩
  simp only [hr]
  have HR := Lib.hid hr
  clear hr
  refine wpAnyH_take (i := 6) (oi := ⟨some 6, .assign (.tmp 23), _, _, _, _⟩) (v := .int .u64 r) rfl (by kernel_rfl) (by kernel_rfl) (by kernel_rfl) (fun _ _ _ h => h) (Or.inl ⟨by rfl, ?_⟩) (by assumption) ?_
  ·intro w hSw; go_simp; try with_reducible rfl
  simp only [Act.put, List.setIfInBounds_toArray, List.set_cons_zero, List.set_cons_succ]
  refine wpAnyH_take (i := 7) (oi := ⟨some 7, .assign _, _, _, _, _⟩) (v := .int .i64 0) rfl (by kernel_rfl) (by kernel_rfl) (by kernel_rfl) (fun _ _ _ h => h) (Or.inl ⟨by rfl, ?_⟩) (by assumption) ?_
  ·intro w hSw; go_simp; try with_reducible rfl
  simp only [Act.put, List.setIfInBounds_toArray, List.set_cons_zero, List.set_cons_succ]
  refine wpAnyH_done (by kernel_rfl) ?_ _
  refine NoPanic.normal ?_
  go_wp2_with fail
  go_ret2
  exact ⟨by rw [HR.out]; rfl, hB5⟩
 ·have HP : Hid (x.next key h = 0) := by show _ = _; unfold En.next; rw [if_neg hz]
  have hzb : (x.ev.check != 0) = true := by simp [hz]
  rw [HP.out]
  generalize x.ev.check = er at *
  clear hz HP
  go_enter Tryz.func30, Tryz.ntmps30
  go_upto_region 1 with fail
  rw [HW1.out]
  go_wp2_with fail
  refine (HPE.out _ (HT.out.below HBA.out)).mono ?_
  rintro en w2 ⟨vb, rfl, hOb, hb2⟩
  go_wp2_with fail
  go_ret2
  exact ⟨rfl, bl_step hb2 HBA.out⟩
def zeroEn : Value := .agg #[.int .i64 0, .string ⟨#[]⟩, .string ⟨#[]⟩, .string ⟨#[]⟩, .string ⟨#[]⟩, .int .i64 0, .int .i64 0, .nilIface, .bool false]
theorem info_en : (Tryz.prog.info? 59).map (fun i => (i.zero, i.size, i.bytes)) = some (some zeroEn, 9, 112) := by kernel_rfl
theorem info_u64 : (Tryz.prog.info? 62).map (fun i => (i.zero, i.size, i.bytes)) = some (some (.int .u64 0), 1, 8) := by kernel_rfl
def En.row (x : En) : List Value := x.cells.toList
theorem En.row_length (x : En) : x.row.length = 9 := rfl
def rowsE (l : List En) : List Value := l.flatMap En.row
theorem rowsE_length (l : List En) : (rowsE l).length = l.length * 9 := by
 induction l with
 | nil => rfl
 | cons x l ih => unfold rowsE at ih ⊢; rw [List.flatMap_cons, List.length_append, ih, x.row_length, List.length_cons]; omega
theorem rowsE_snoc (l : List En) (x : En) : rowsE (l ++ [x]) = rowsE l ++ x.row := by unfold rowsE; simp
theorem En.row_one (x : En) (h : x.ev.ok) : ∀ u ∈ x.row, u.oneCell' = true := by
 intro u hu
 have ho := x.ev.term.one_ h.term
 simp only [En.row, En.cells, List.mem_cons, List.not_mem_nil, or_false] at hu
 rcases hu with rfl | rfl | rfl | rfl | rfl | rfl | rfl | rfl | rfl
 all_goals first | exact ho | rfl
theorem rowsE_one (l : List En) (h : ∀ x ∈ l, x.ev.ok) : ∀ u ∈ rowsE l, u.oneCell' = true := by
 intro u hu
 obtain ⟨x, hx, hu⟩ := List.mem_flatMap.1 hu
 exact x.row_one (h x hx) u hu
def u64s (l : List Int) : List Value := l.map (.int .u64 ·)
theorem u64s_length (l : List Int) : (u64s l).length = l.length := by simp [u64s]
theorem u64s_one (l : List Int) : ∀ u ∈ u64s l, u.oneCell' = true := by
 intro u hu
 obtain ⟨x, _, rfl⟩ := List.mem_map.1 hu
 rfl
set_option maxRecDepth 100000 in
set_option maxHeartbeats 2000000 in
theorem sclone_e (A : Option Addr) (n c : Nat) (xs : List Value) (hl : xs.length = n * 9) (h1 : ∀ u ∈ xs, u.oneCell' = true) (hn : n ≤ 1000000) (w : World) (hr : Rd w A xs) :
  Calls Tryz.prog 50 #[.slice A n c] w (RetOwn w 59 9 n xs) := by
 have HR := Lib.hid hr; have HL := Lib.hid hl; have H1 := Lib.hid h1
 clear hr hl h1
 cases A with
 | none =>
  have hx : xs = [] := by
   cases hxs : xs with
   | nil => rfl
   | cons y ys => obtain ⟨_, e, _⟩ := HR.out 0 y (by simp [hxs]); cases e
  have hn0 : n = 0 := by have := HL.out; rw [hx] at this; simp at this; omega
  have q22 : ∀ (w : World) (n c n' c' : Nat), (binOp .eql 71 (.slice none n c) (.slice none n' c')).run Tryz.prog w = .ok (.bool true) w := fun w n c n' c' => Lib.run_eql_slice_nil w _ _ none n c n' c' Tryz.underlying71
  subst hn0
  rw [hx]
  go_enter Tryz.func50, Tryz.ntmps50
  go_wp2_with fail
  go_ret
  exact ⟨_, rfl, Own.nil _ _ _ _, bl_refl _⟩
 | some ad =>
  have q22 : ∀ (w : World) (n c n' c' : Nat), (binOp .eql 71 (.slice (some ad) n c) (.slice none n' c')).run Tryz.prog w = .ok (.bool false) w := fun w n c n' c' => Lib.run_eql_slice_nil w _ _ (some ad) n c n' c' Tryz.underlying71
  have hO0 : Own w (w.alloc (.cells #[] 59)) 59 9 (.slice (some ⟨w.heap.size, 0, none⟩) 0 0) 0 [] := World.ownsRow_made w #[] 0 (Nat.le_refl _) (Nat.zero_le _) (by simp)
  have hR0 := HR.out.below (bl_alloc (bl_refl w) (.cells #[] 59))
  have hB0 := bl_alloc (bl_refl w) (.cells #[] 59)
  go_enter Tryz.func50, Tryz.ntmps50
  go_wp2_with (at_builtin; refine append_any (w0 := w) rfl _ _ 71 59 _ 9 112 rfl Tryz.underlying71 info_en rfl (by decide) _ 0 _ (some ad) n c xs hO0 hB0 hR0 rfl rfl HL.out H1.out (by omega) (by omega) ?_; intro v1 w6 HO6 HB6 HG6)
  go_ret
  exact ⟨_, rfl, by simpa using HO6, HB6⟩
set_option maxRecDepth 100000 in
set_option maxHeartbeats 2000000 in
theorem sclone_u (A : Option Addr) (n c : Nat) (xs : List Value) (hl : xs.length = n * 1) (h1 : ∀ u ∈ xs, u.oneCell' = true) (hn : n ≤ 1000000) (w : World) (hr : Rd w A xs) :
  Calls Tryz.prog 51 #[.slice A n c] w (RetOwn w 62 1 n xs) := by
 have HR := Lib.hid hr; have HL := Lib.hid hl; have H1 := Lib.hid h1
 clear hr hl h1
 cases A with
 | none =>
  have hx : xs = [] := by
   cases hxs : xs with
   | nil => rfl
   | cons y ys => obtain ⟨_, e, _⟩ := HR.out 0 y (by simp [hxs]); cases e
  have hn0 : n = 0 := by have := HL.out; rw [hx] at this; simp at this; omega
  have q22 : ∀ (w : World) (n c n' c' : Nat), (binOp .eql 75 (.slice none n c) (.slice none n' c')).run Tryz.prog w = .ok (.bool true) w := fun w n c n' c' => Lib.run_eql_slice_nil w _ _ none n c n' c' Tryz.underlying75
  subst hn0
  rw [hx]
  go_enter Tryz.func51, Tryz.ntmps51
  go_wp2_with fail
  go_ret
  exact ⟨_, rfl, Own.nil _ _ _ _, bl_refl _⟩
 | some ad =>
  have q22 : ∀ (w : World) (n c n' c' : Nat), (binOp .eql 75 (.slice (some ad) n c) (.slice none n' c')).run Tryz.prog w = .ok (.bool false) w := fun w n c n' c' => Lib.run_eql_slice_nil w _ _ (some ad) n c n' c' Tryz.underlying75
  have hO0 : Own w (w.alloc (.cells #[] 62)) 62 1 (.slice (some ⟨w.heap.size, 0, none⟩) 0 0) 0 [] := World.ownsRow_made w #[] 0 (Nat.le_refl _) (Nat.zero_le _) (by simp)
  have hR0 := HR.out.below (bl_alloc (bl_refl w) (.cells #[] 62))
  have hB0 := bl_alloc (bl_refl w) (.cells #[] 62)
  go_enter Tryz.func51, Tryz.ntmps51
  go_wp2_with (at_builtin; refine append_any (w0 := w) rfl _ _ 75 62 _ 1 8 rfl Tryz.underlying75 info_u64 rfl (by decide) _ 0 _ (some ad) n c xs hO0 hB0 hR0 rfl rfl HL.out H1.out (by omega) (by omega) ?_; intro v1 w6 HO6 HB6 HG6)
  go_ret
  exact ⟨_, rfl, by simpa using HO6, HB6⟩
structure Ch where
 key : List UInt8
 es : List En
 hs : List Int
structure Ch.ok (c : Ch) : Prop where
 key : c.key.length = 16
 len : c.hs.length = c.es.length + 1
 es : ∀ x ∈ c.es, x.ev.small
 hs : ∀ h ∈ c.hs, isU h
 max : c.es.length ≤ 64
/-- A chain in memory of the call's own. -/
def ChAt (w0 W : World) (g : Nat) (c : Ch) : Prop := ∃ vl vh, Blk W g (byts c.key ++ [vl, vh]).toArray 101 ∧ Own w0 W 59 9 vl c.es.length (rowsE c.es) ∧ Own w0 W 62 1 vh c.hs.length (u64s c.hs) ∧ w0.heap.size ≤ W.heap.size
theorem ChAt.below {w0 W W1 : World} {g : Nat} {c : Ch} (h : ChAt w0 W g c) (hb : Below W.heap.size W W1) : ChAt w0 W1 g c := by
 obtain ⟨vl, vh, h1, h2, h3, h4⟩ := h
 exact ⟨vl, vh, h1.below hb, h2.below hb, h3.below hb, Nat.le_trans h4 hb.size⟩
/-- Another chain's change leaves it. -/
theorem ChAt.grown {w0 W W1 : World} {g r : Nat} {c : Ch} {cs : Array Value} (h : ChAt w0 W g c) (hg : W.grownBy W1 (some r)) (hne : r ≠ g) (hr : Blk W r cs 101) : ChAt w0 W1 g c := by
 obtain ⟨vl, vh, h1, h2, h3, h4⟩ := h
 exact ⟨vl, vh, h1.grown hg (fun e => hne (by injection e)), h2.kept hg (.inr (h2.ne_blk hr (by decide))), h3.kept hg (.inr (h3.ne_blk hr (by decide))), Nat.le_trans h4 hg.size⟩
theorem chcells {key : List UInt8} (hk : key.length = 16) (vl vh : Value) : (byts key ++ [vl, vh]).toArray[16]? = some vl ∧ (byts key ++ [vl, vh]).toArray[17]? = some vh := by
 have h := byts_length key
 rw [hk] at h
 constructor
 ·rw [List.getElem?_toArray, List.getElem?_append_right (by omega), h]; rfl
 ·rw [List.getElem?_toArray, List.getElem?_append_right (by omega), h]; rfl
/-- What a method reads. -/
theorem ChAt.open_ {w0 W : World} {g : Nat} {c : Ch} (h : ChAt w0 W g c) (ho : c.ok) : ∃ A cl ad ch, W.cell? ⟨g, 16, none⟩ = some (.slice A c.es.length cl) ∧ W.cell? ⟨g, 17, none⟩ = some (.slice (some ad) (c.es.length + 1) ch) ∧ Rd W A (rowsE c.es) ∧ Rd W (some ad) (u64s c.hs) := by
 obtain ⟨vl, vh, h1, h2, h3, h4⟩ := h
 obtain ⟨A, cl, rfl, hA, -, -⟩ := h2.read
 obtain ⟨D, ch, rfl, hD, -, -⟩ := h3.read
 obtain ⟨e1, e2⟩ := chcells ho.key (.slice A c.es.length cl) (.slice D c.hs.length ch)
 have hl := ho.len
 obtain ⟨h0, hh⟩ : ∃ h0, (u64s c.hs)[0]? = some h0 := ⟨_, List.getElem?_eq_getElem (by rw [u64s_length]; omega)⟩
 obtain ⟨ad, rfl, -⟩ := hD 0 h0 hh
 rw [hl] at e2
 exact ⟨A, cl, ad, ch, (h1.cell 16).trans e1, (h1.cell 17).trans (by rw [hl]; exact e2), hA, hD⟩
/-- A chain's head. -/
def Ch.head (c : Ch) : Int := c.hs.getD c.es.length 0
theorem u64s_get (l : List Int) (j : Nat) (h : j < l.length) : (u64s l)[j]? = some (.int .u64 (l.getD j 0)) := by simp [u64s, h]
set_option maxRecDepth 100000 in
set_option maxHeartbeats 2000000 in
theorem chead_calls (w0 : World) (g : Nat) (c : Ch) (ho : c.ok) (w : World) (h : ChAt w0 w g c) :
  Calls Tryz.prog 21 #[.pointer (some ⟨g, 0, none⟩)] w fun e w' => e = .returned (.int .u64 c.head) ∧ Below w.heap.size w w' := by
 obtain ⟨A, cl, ad, ch, c16, c17, hA, hD⟩ := h.open_ ho
 have hl := ho.len
 obtain ⟨ad', e, hc⟩ := hD c.es.length _ (u64s_get c.hs c.es.length (by omega))
 cases e
 have HH : Hid (c.head = c.hs.getD c.es.length 0) := rfl
 rw [HH.out]
 generalize c.hs.getD c.es.length 0 = hd at *
 have hmx := ho.max
 generalize c.es.length = n at *
 have hz1 : (n : Int) < ((n + 1 : Nat) : Int) := by omega
 have hz0 : (0 : Int) ≤ (n : Int) := by omega
 have hz2 : ((n + 1 : Nat) : Int) - 1 = (n : Int) := by omega
 clear hA hD h ho
 go_enter Tryz.func21, Tryz.ntmps21
 go_wp2_with fail
 go_quiet (fail)
 go_wp2_with fail
 go_ret
 exact ⟨rfl, bl_drewN (bl_refl _) _⟩
set_option maxRecDepth 100000 in
set_option maxHeartbeats 2000000 in
theorem clen_calls (w0 : World) (g : Nat) (c : Ch) (ho : c.ok) (w : World) (h : ChAt w0 w g c) :
  Calls Tryz.prog 22 #[.pointer (some ⟨g, 0, none⟩)] w fun e w' => e = .returned (.int .i64 c.es.length) ∧ Below w.heap.size w w' := by
 obtain ⟨A, cl, ad, ch, c16, c17, hA, hD⟩ := h.open_ ho
 generalize c.es.length = n at *
 clear hA hD h ho
 go_enter Tryz.func22, Tryz.ntmps22
 go_wp2_with fail
 go_ret
 exact ⟨rfl, bl_refl _⟩
def Ch.at_ (c : Ch) (i : Int) : Int × Bool := if 0 ≤ i ∧ i ≤ c.es.length then (c.hs.getD i.toNat 0, true) else (0, false)
set_option maxRecDepth 100000 in
set_option maxHeartbeats 2000000 in
theorem cheadat_calls (w0 : World) (g : Nat) (c : Ch) (ho : c.ok) (i : Int) (w : World) (h : ChAt w0 w g c) :
  Calls Tryz.prog 26 #[.pointer (some ⟨g, 0, none⟩), .int .i64 i] w fun e w' => e = .returned (.tuple #[.int .u64 (c.at_ i).1, .bool (c.at_ i).2]) ∧ Below w.heap.size w w' := by
 obtain ⟨A, cl, ad, ch, c16, c17, hA, hD⟩ := h.open_ ho
 have hl := ho.len
 have hmx := ho.max
 by_cases h1 : 0 ≤ i
 ·have h1b : ¬ i < 0 := by omega
  by_cases h2 : i ≤ c.es.length
  ·obtain ⟨k, rfl⟩ : ∃ k : Nat, i = k := ⟨i.toNat, by omega⟩
   obtain ⟨ad', e, hc⟩ := hD k _ (u64s_get c.hs k (by omega))
   cases e
   have HC : Hid (c.at_ (k : Int) = (c.hs.getD k 0, true)) := by show _ = _; unfold Ch.at_; rw [if_pos ⟨h1, h2⟩, Int.toNat_natCast]
   rw [HC.out]
   generalize c.hs.getD k 0 = hd at *
   generalize c.es.length = n at *
   have hz1 : (k : Int) < ((n + 1 : Nat) : Int) := by omega
   have hz2 : ¬ ((n + 1 : Nat) : Int) ≤ (k : Int) := by omega
   clear hA hD h ho
   go_enter Tryz.func26, Tryz.ntmps26
   go_wp2_with fail
   go_ret2
   exact ⟨rfl, bl_refl _⟩
  ·have HC : Hid (c.at_ i = (0, false)) := by show _ = _; unfold Ch.at_; rw [if_neg (fun q => h2 q.2)]
   rw [HC.out]
   generalize c.es.length = n at *
   have hz2 : ((n + 1 : Nat) : Int) ≤ i := by omega
   clear hA hD h ho
   go_enter Tryz.func26, Tryz.ntmps26
   go_wp2_with fail
   go_ret2
   exact ⟨rfl, bl_refl _⟩
 ·have HC : Hid (c.at_ i = (0, false)) := by show _ = _; unfold Ch.at_; rw [if_neg (fun q => h1 q.1)]
  have h1b : i < 0 := by omega
  rw [HC.out]
  clear hA hD h ho
  go_enter Tryz.func26, Tryz.ntmps26
  go_wp2_with fail
  go_ret2
  exact ⟨rfl, bl_refl _⟩
theorem Ch.ok.one {c : Ch} (h : c.ok) : ∀ u ∈ rowsE c.es, u.oneCell' = true := rowsE_one _ (fun x hx => (h.es x hx).ok)
set_option maxRecDepth 100000 in
set_option maxHeartbeats 2000000 in
theorem centries_calls (w0 : World) (g : Nat) (c : Ch) (ho : c.ok) (w : World) (h : ChAt w0 w g c) :
  Calls Tryz.prog 33 #[.pointer (some ⟨g, 0, none⟩)] w (RetOwn w 59 9 c.es.length (rowsE c.es)) := by
 obtain ⟨A, cl, ad, ch, c16, c17, hA, hD⟩ := h.open_ ho
 have hcl := fun W hW => sclone_e A c.es.length cl (rowsE c.es) (rowsE_length _) ho.one (by have := ho.max; omega) W hW
 unfold RetOwn at hcl ⊢
 have HCL := Lib.hid hcl; have HA := Lib.hid hA
 clear hcl hA hD h ho
 generalize rowsE c.es = xs at *
 generalize c.es.length = n at *
 go_enter Tryz.func33, Tryz.ntmps33
 go_wp2_with fail
 refine (HCL.out _ HA.out).mono ?_
 rintro en w2 ⟨v, rfl, hO, hB⟩
 go_wp2_with fail
 go_ret
 exact ⟨_, rfl, hO, hB⟩
@[go_sem ↓] theorem bd_Chain (parts : Array (Nat × Value)) : Instr.build 101 parts = bdN 101 parts := rfl
theorem sixteen {key : List UInt8} (hk : key.length = 16) : ∃ k0 k1 k2 k3 k4 k5 k6 k7 k8 k9 k10 k11 k12 k13 k14 k15, key = [k0, k1, k2, k3, k4, k5, k6, k7, k8, k9, k10, k11, k12, k13, k14, k15] := by
 match key, hk with
 | [k0, k1, k2, k3, k4, k5, k6, k7, k8, k9, k10, k11, k12, k13, k14, k15], _ => exact ⟨k0, k1, k2, k3, k4, k5, k6, k7, k8, k9, k10, k11, k12, k13, k14, k15, rfl⟩
theorem run_bd_Chain2 {key : List UInt8} (hk : key.length = 16) (A : Option Addr) (n c : Nat) (W : World) : (bdN 101 #[(0, .agg (byts key).toArray), (2, .slice A n c)]).run Tryz.prog W = .ok (.agg (byts key ++ [Value.slice none 0 0, Value.slice A n c]).toArray) W := by
 obtain ⟨k0, k1, k2, k3, k4, k5, k6, k7, k8, k9, k10, k11, k12, k13, k14, k15, rfl⟩ := sixteen hk
 kernel_rfl
theorem run_bd_Chain3 {key : List UInt8} (hk : key.length = 16) (A B : Option Addr) (n c m d : Nat) (W : World) : (bdN 101 #[(0, .agg (byts key).toArray), (1, .slice A n c), (2, .slice B m d)]).run Tryz.prog W = .ok (.agg (byts key ++ [Value.slice A n c, Value.slice B m d]).toArray) W := by
 obtain ⟨k0, k1, k2, k3, k4, k5, k6, k7, k8, k9, k10, k11, k12, k13, k14, k15, rfl⟩ := sixteen hk
 kernel_rfl
theorem bs_u64 (x : Int) (W : World) : (Instr.buildSlice 75 1 #[(0, .int .u64 x)]).run Tryz.prog W = .ok (.slice (some ⟨W.heap.size, 0, none⟩) 1 1) (W.alloc (.cells #[.int .u64 x] 62)) := by kernel_rfl
/-- It returns a chain. -/
def RetCh (w0 w : World) (c : Ch) (en : Ending) (w' : World) : Prop := ∃ g, en = .returned (.pointer (some ⟨g, 0, none⟩)) ∧ ChAt w0 w' g c ∧ w.heap.size ≤ g ∧ Below w.heap.size w w'
theorem new_post {w0 w W : World} {key : List UInt8} (hB : Below w.heap.size w W) (hw : w0.heap.size ≤ w.heap.size) :
  ChAt w0 ((W.alloc (.cells #[.int .u64 0] 62)).alloc (.cells (byts key ++ [Value.slice none 0 0, Value.slice (some ⟨W.heap.size, 0, none⟩) 1 1]).toArray 101)) (W.heap.size + 1) ⟨key, [], [0]⟩ ∧ w.heap.size ≤ W.heap.size + 1 ∧ Below w.heap.size w ((W.alloc (.cells #[.int .u64 0] 62)).alloc (.cells (byts key ++ [Value.slice none 0 0, Value.slice (some ⟨W.heap.size, 0, none⟩) 1 1]).toArray 101)) := by
 have hz := hB.size
 have h1 := Blk_new (W.alloc (.cells #[.int .u64 0] 62)) (byts key ++ [Value.slice none 0 0, Value.slice (some ⟨W.heap.size, 0, none⟩) 1 1]).toArray 101 (W.heap.size + 1) (by simp)
 have hO0 : Own w0 (W.alloc (.cells #[.int .u64 0] 62)) 62 1 (.slice (some ⟨W.heap.size, 0, none⟩) 1 1) 1 [.int .u64 0] := Own.of_blk (Blk.new W #[.int .u64 0] 62) (xs := [.int .u64 0]) (by omega) rfl (by show 1 ≤ maxLen; decide)
 have hz2 := (bl_alloc (bl_alloc hB (.cells #[.int .u64 0] 62)) (.cells (byts key ++ [Value.slice none 0 0, Value.slice (some ⟨W.heap.size, 0, none⟩) 1 1]).toArray 101)).size
 exact ⟨⟨_, _, h1, Own.nil _ _ _ _, hO0.below (bl_alloc (bl_refl _) _), by omega⟩, by omega, bl_alloc (bl_alloc hB _) _⟩
set_option maxRecDepth 100000 in
set_option maxHeartbeats 2000000 in
theorem cnew_calls (w0 : World) (key : List UInt8) (hk : key.length = 16) (w : World) (hw : w0.heap.size ≤ w.heap.size) :
  Calls Tryz.prog 19 #[.agg (byts key).toArray] w (RetCh w0 w ⟨key, [], [0]⟩) := by
 have hb := Blk.new w (byts key).toArray 55
 have hB := bl_alloc (bl_refl w) (.cells (byts key).toArray 55)
 have hbd := fun (A : Option Addr) (n c : Nat) (W : World) => run_bd_Chain2 hk A n c W
 have hbs := fun (x : Int) (W : World) => bs_u64 x W
 have hi : (Tryz.prog.info? 55).map (·.size) = some (byts key).toArray.size := by rw [List.size_toArray, byts_length, hk]; kernel_rfl
 have HI := Lib.hid hi
 obtain ⟨W1, hW1⟩ : ∃ W1, w.alloc (.cells (byts key).toArray 55) = W1 := ⟨_, rfl⟩
 rw [hW1] at hb hB
 have HW1 := Lib.hid hW1; have HB := Lib.hid hb; have HBB := Lib.hid hB; have HK := Lib.hid hk; have HW := Lib.hid hw
 clear hW1 hi hb hB hk hw
 unfold RetCh
 go_enter Tryz.func19, Tryz.ntmps19
 go_upto_region 1 with fail
 rw [HW1.out]
 go_wp2_with (refine wpList_load_row rfl 55 _ rfl w.heap.size rfl 55 _ (0, 0) _ HB.out Tryz.underlying55 rfl HI.out ?_)
 go_ret
 exact ⟨_, rfl, new_post HBB.out HW.out⟩
end Go.Proofs.YtapbkomicihkkaaGreatDoor
