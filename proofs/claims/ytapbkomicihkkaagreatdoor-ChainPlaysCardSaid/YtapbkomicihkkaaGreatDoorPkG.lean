/- An entry as bytes. -/
import Derived.Test.YtapbkomicihkkaaGreatDoorSipG
import Derived.Test.YtapbkomicihkkaaGreatDoorEventG
import Derived.Lib.AppendStr
import Derived.Deep.DeepCutAuto
import Derived.Deep.CutBlock
import Derived.Lib.OthersKept
namespace Go.Proofs.YtapbkomicihkkaaGreatDoor
open Go.RowKit
set_option linter.unusedVariables false
set_option linter.unusedSimpArgs false

section
variable {P : Program} {ops : Array Oper} {rest : List Oper} {o : Oper} {a : Act} {Q : Exit → Act → World → Prop}
/-- append(v, s...), s a text. -/
theorem append_text {w0 W : World} (hgd : o.guard = none) (s x : Operand) (t u e : TypeId)
  (ho : o.op = .call { callee := .builtin .append, args := #[s, x], argTypes := #[t, u] })
  (ht : P.underlying t = some (.slice e)) (hu : P.underlying u = some .string) (hinfo : (P.info? e).map (fun i => (i.zero, i.size, i.bytes)) = some (some (.int .u8 0), 1, 1))
  (v : Value) (n : Nat) (xs : List Value) (y : ByteArray) (HO : Own w0 W e 1 v n xs) (HB : Below w0.heap.size w0 W) (hs : a.eval s = v) (hx : a.eval x = .string y)
  (hl : n + y.size ≤ 140737488355328)
  (h : ∀ v1 w1, Own w0 w1 e 1 v1 (n + y.size) (xs ++ byts y.data.toList) → Below w0.heap.size w0 w1 → W.grownBy w1 v.ownBlock → wpList P ops Q rest (a.put o.dst v1) w1) :
  wpList P ops Q (o :: rest) a W := by
 obtain ⟨i0, hi, hzz⟩ := Option.map_eq_some_iff.1 hinfo
 simp only [Prod.mk.injEq] at hzz
 obtain ⟨hz0, hz1, hz2⟩ := hzz
 refine Lib.wpList_append_own_string W hgd s x t u ho w0.heap.size e i0 ht hu hi hz0 hz1 hz2 v n xs hs HO y hx (by simp only [maxLen]; omega) hl HB.size ?_
 intro v1 w1 hown hg _
 exact h v1 w1 hown (HB.grown hg HB.size (Own.at_base HO)) hg
end
theorem u8_nat (n : Nat) : (((UInt8.ofNat n).toNat : Nat) : Int) = (n : Int) % 256 := by simp
/-- A text behind its length. -/
def rowB (s : ByteArray) : List UInt8 := UInt8.ofNat s.size :: s.data.toList
def rowW (s : ByteArray) : List UInt8 := UInt8.ofNat (s.size / 256) :: UInt8.ofNat s.size :: s.data.toList
def Ev.strOf (e : Ev) (c : UInt8) : ByteArray := if c = 73 then e.id else if c = 78 then e.name else if c = 76 then e.label else if c = 67 then e.cur else ⟨#[]⟩
/-- A field's bytes. -/
def Ev.fieldB (e : Ev) (c : UInt8) : List UInt8 := if c = 68 then beI e.day else if c = 86 then beI e.value else if c = 84 then rowW e.term.write.1 else rowB (e.strOf c)
def Ev.fieldE (e : Ev) (c : UInt8) : Int := if c = 84 then e.term.write.2 else 0
theorem bs_u8 (x : Int) (W : World) : (Instr.buildSlice 51 1 #[(0, .int .u8 x)]).run Tryz.prog W = .ok (.slice (some ⟨W.heap.size, 0, none⟩) 1 1) (W.alloc (.cells #[.int .u8 x] 5)) := by kernel_rfl
theorem bs_u82 (x y : Int) (W : World) : (Instr.buildSlice 51 2 #[(0, .int .u8 x), (1, .int .u8 y)]).run Tryz.prog W = .ok (.slice (some ⟨W.heap.size, 0, none⟩) 2 2) (W.alloc (.cells #[.int .u8 x, .int .u8 y] 5)) := by kernel_rfl
/-- It returns bytes that it made, and an error. -/
def RetPk (w : World) (l : List UInt8) (er : Int) (en : Ending) (w' : World) : Prop := ∃ v, en = .returned (.tuple #[v, .int .i64 er]) ∧ Own w w' 5 1 v l.length (byts l) ∧ Below w.heap.size w w'
theorem RetPk.of {w w' : World} {l : List UInt8} {er : Int} {v : Value} {n : Nat} {xs : List Value} (hx : byts l = xs) (hn : l.length = n) (ho : Own w w' 5 1 v n xs) (hb : Below w.heap.size w w') : RetPk w l er (.returned (.tuple #[v, .int .i64 er])) w' := by
 subst hx hn; exact ⟨v, rfl, ho, hb⟩
theorem Own.mono {w w1 w' : World} {e size n : Nat} {v : Value} {xs : List Value} (h : Own w1 w' e size v n xs) (hb : w.heap.size ≤ w1.heap.size) : Own w w' e size v n xs := by
 rcases h.2 with ⟨rfl, h2⟩ | ⟨g, cap, cur, rfl, h1, h2⟩
 ·exact ⟨h.1, .inl ⟨rfl, h2⟩⟩
 ·exact ⟨h.1, .inr ⟨g, cap, cur, rfl, by omega, h2⟩⟩
set_option maxRecDepth 100000 in
set_option maxHeartbeats 4000000 in
theorem pfield_I (e : Ev) (hok : e.ok) (hs : e.id.size ≤ 1000000) (w : World) :
  Calls Tryz.prog 83 #[e.val, .int .i32 73] w (RetPk w (rowB e.id) 0) := by
 have hcc := e.term.cells_ hok.term
 have ho7 := e.term.one_ hok.term
 have hb0 := Blk.new w e.cells 30
 have hbA := bl_alloc (bl_refl w) (.cells e.cells 30)
 have hev : e.val = .agg #[.int .i64 e.kind, .string e.id, .string e.name, .string e.label, .string e.cur, .int .i64 e.day, .int .i64 e.value, e.term.val] := rfl
 rw [hev]
 clear hev
 unfold Ev.cells at *
 obtain ⟨f0, f1, f2, f3, f4, f5, f6, f7⟩ := Blk.evs (e := e) hb0
 obtain ⟨W1, hW1⟩ : ∃ W1, w.alloc (.cells #[.int .i64 e.kind, .string e.id, .string e.name, .string e.label, .string e.cur, .int .i64 e.day, .int .i64 e.value, e.term.val] 30) = W1 := ⟨_, rfl⟩
 rw [hW1] at f0 f1 f2 f3 f4 f5 f6 f7 hbA
 have HW1 := Lib.hid hW1
 clear hW1 hb0
 have hbs := fun (x : Int) (W : World) => bs_u8 x W
 go_enter Tryz.func83, Tryz.ntmps83
 go_upto_region 1 with fail
 rw [HW1.out]
 go_upto_region 18 with fail
 clear f0 f1 f2 f3 f4 f5 f6 f7
 have hO0 := Own.of_blk (w0 := w) (Blk.new W1 #[.int .u8 ((e.id.size : Int) % 256)] 5) (xs := [.int .u8 ((e.id.size : Int) % 256)]) hbA.size rfl (by show 1 ≤ maxLen; decide)
 have hB0 := bl_alloc hbA (.cells #[.int .u8 ((e.id.size : Int) % 256)] 5)
 generalize e.id = st at *
 have hsw : IntKind.u8.wrap (st.size : Int) = (st.size : Int) % 256 := IntKind.wrap_u8 _
 have hlm : (st.size : Int) ≤ 1000000 := by omega
 have HO0 := Lib.hid hO0; have HB0 := Lib.hid hB0
 clear hO0 hB0
 go_wp2_with (at_builtin; refine append_text rfl _ _ 51 9 5 rfl Tryz.underlying51 Tryz.underlying9 info_u8 _ 1 _ st HO0.out HB0.out rfl rfl (by omega) ?_; intro v1 w3 HO1 HB1 HG1)
 go_ret2
 exact RetPk.of (by unfold rowB byts; simp [u8_nat]) (by unfold rowB; rw [List.length_cons, ba_len]; omega) HO1 HB1
set_option maxRecDepth 100000 in
set_option maxHeartbeats 4000000 in
theorem pfield_N (e : Ev) (hok : e.ok) (hs : e.name.size ≤ 1000000) (w : World) :
  Calls Tryz.prog 83 #[e.val, .int .i32 78] w (RetPk w (rowB e.name) 0) := by
 have hcc := e.term.cells_ hok.term
 have ho7 := e.term.one_ hok.term
 have hb0 := Blk.new w e.cells 30
 have hbA := bl_alloc (bl_refl w) (.cells e.cells 30)
 have hev : e.val = .agg #[.int .i64 e.kind, .string e.id, .string e.name, .string e.label, .string e.cur, .int .i64 e.day, .int .i64 e.value, e.term.val] := rfl
 rw [hev]
 clear hev
 unfold Ev.cells at *
 obtain ⟨f0, f1, f2, f3, f4, f5, f6, f7⟩ := Blk.evs (e := e) hb0
 obtain ⟨W1, hW1⟩ : ∃ W1, w.alloc (.cells #[.int .i64 e.kind, .string e.id, .string e.name, .string e.label, .string e.cur, .int .i64 e.day, .int .i64 e.value, e.term.val] 30) = W1 := ⟨_, rfl⟩
 rw [hW1] at f0 f1 f2 f3 f4 f5 f6 f7 hbA
 have HW1 := Lib.hid hW1
 clear hW1 hb0
 have hbs := fun (x : Int) (W : World) => bs_u8 x W
 go_enter Tryz.func83, Tryz.ntmps83
 go_upto_region 1 with fail
 rw [HW1.out]
 go_upto_region 18 with fail
 clear f0 f1 f2 f3 f4 f5 f6 f7
 have hO0 := Own.of_blk (w0 := w) (Blk.new W1 #[.int .u8 ((e.name.size : Int) % 256)] 5) (xs := [.int .u8 ((e.name.size : Int) % 256)]) hbA.size rfl (by show 1 ≤ maxLen; decide)
 have hB0 := bl_alloc hbA (.cells #[.int .u8 ((e.name.size : Int) % 256)] 5)
 generalize e.name = st at *
 have hsw : IntKind.u8.wrap (st.size : Int) = (st.size : Int) % 256 := IntKind.wrap_u8 _
 have hlm : (st.size : Int) ≤ 1000000 := by omega
 have HO0 := Lib.hid hO0; have HB0 := Lib.hid hB0
 clear hO0 hB0
 go_wp2_with (at_builtin; refine append_text rfl _ _ 51 9 5 rfl Tryz.underlying51 Tryz.underlying9 info_u8 _ 1 _ st HO0.out HB0.out rfl rfl (by omega) ?_; intro v1 w3 HO1 HB1 HG1)
 go_ret2
 exact RetPk.of (by unfold rowB byts; simp [u8_nat]) (by unfold rowB; rw [List.length_cons, ba_len]; omega) HO1 HB1
set_option maxRecDepth 100000 in
set_option maxHeartbeats 4000000 in
theorem pfield_L (e : Ev) (hok : e.ok) (hs : e.label.size ≤ 1000000) (w : World) :
  Calls Tryz.prog 83 #[e.val, .int .i32 76] w (RetPk w (rowB e.label) 0) := by
 have hcc := e.term.cells_ hok.term
 have ho7 := e.term.one_ hok.term
 have hb0 := Blk.new w e.cells 30
 have hbA := bl_alloc (bl_refl w) (.cells e.cells 30)
 have hev : e.val = .agg #[.int .i64 e.kind, .string e.id, .string e.name, .string e.label, .string e.cur, .int .i64 e.day, .int .i64 e.value, e.term.val] := rfl
 rw [hev]
 clear hev
 unfold Ev.cells at *
 obtain ⟨f0, f1, f2, f3, f4, f5, f6, f7⟩ := Blk.evs (e := e) hb0
 obtain ⟨W1, hW1⟩ : ∃ W1, w.alloc (.cells #[.int .i64 e.kind, .string e.id, .string e.name, .string e.label, .string e.cur, .int .i64 e.day, .int .i64 e.value, e.term.val] 30) = W1 := ⟨_, rfl⟩
 rw [hW1] at f0 f1 f2 f3 f4 f5 f6 f7 hbA
 have HW1 := Lib.hid hW1
 clear hW1 hb0
 have hbs := fun (x : Int) (W : World) => bs_u8 x W
 go_enter Tryz.func83, Tryz.ntmps83
 go_upto_region 1 with fail
 rw [HW1.out]
 go_upto_region 18 with fail
 clear f0 f1 f2 f3 f4 f5 f6 f7
 have hO0 := Own.of_blk (w0 := w) (Blk.new W1 #[.int .u8 ((e.label.size : Int) % 256)] 5) (xs := [.int .u8 ((e.label.size : Int) % 256)]) hbA.size rfl (by show 1 ≤ maxLen; decide)
 have hB0 := bl_alloc hbA (.cells #[.int .u8 ((e.label.size : Int) % 256)] 5)
 generalize e.label = st at *
 have hsw : IntKind.u8.wrap (st.size : Int) = (st.size : Int) % 256 := IntKind.wrap_u8 _
 have hlm : (st.size : Int) ≤ 1000000 := by omega
 have HO0 := Lib.hid hO0; have HB0 := Lib.hid hB0
 clear hO0 hB0
 go_wp2_with (at_builtin; refine append_text rfl _ _ 51 9 5 rfl Tryz.underlying51 Tryz.underlying9 info_u8 _ 1 _ st HO0.out HB0.out rfl rfl (by omega) ?_; intro v1 w3 HO1 HB1 HG1)
 go_ret2
 exact RetPk.of (by unfold rowB byts; simp [u8_nat]) (by unfold rowB; rw [List.length_cons, ba_len]; omega) HO1 HB1
set_option maxRecDepth 100000 in
set_option maxHeartbeats 4000000 in
theorem pfield_C (e : Ev) (hok : e.ok) (hs : e.cur.size ≤ 1000000) (w : World) :
  Calls Tryz.prog 83 #[e.val, .int .i32 67] w (RetPk w (rowB e.cur) 0) := by
 have hcc := e.term.cells_ hok.term
 have ho7 := e.term.one_ hok.term
 have hb0 := Blk.new w e.cells 30
 have hbA := bl_alloc (bl_refl w) (.cells e.cells 30)
 have hev : e.val = .agg #[.int .i64 e.kind, .string e.id, .string e.name, .string e.label, .string e.cur, .int .i64 e.day, .int .i64 e.value, e.term.val] := rfl
 rw [hev]
 clear hev
 unfold Ev.cells at *
 obtain ⟨f0, f1, f2, f3, f4, f5, f6, f7⟩ := Blk.evs (e := e) hb0
 obtain ⟨W1, hW1⟩ : ∃ W1, w.alloc (.cells #[.int .i64 e.kind, .string e.id, .string e.name, .string e.label, .string e.cur, .int .i64 e.day, .int .i64 e.value, e.term.val] 30) = W1 := ⟨_, rfl⟩
 rw [hW1] at f0 f1 f2 f3 f4 f5 f6 f7 hbA
 have HW1 := Lib.hid hW1
 clear hW1 hb0
 have hbs := fun (x : Int) (W : World) => bs_u8 x W
 go_enter Tryz.func83, Tryz.ntmps83
 go_upto_region 1 with fail
 rw [HW1.out]
 go_upto_region 18 with fail
 clear f0 f1 f2 f3 f4 f5 f6 f7
 have hO0 := Own.of_blk (w0 := w) (Blk.new W1 #[.int .u8 ((e.cur.size : Int) % 256)] 5) (xs := [.int .u8 ((e.cur.size : Int) % 256)]) hbA.size rfl (by show 1 ≤ maxLen; decide)
 have hB0 := bl_alloc hbA (.cells #[.int .u8 ((e.cur.size : Int) % 256)] 5)
 generalize e.cur = st at *
 have hsw : IntKind.u8.wrap (st.size : Int) = (st.size : Int) % 256 := IntKind.wrap_u8 _
 have hlm : (st.size : Int) ≤ 1000000 := by omega
 have HO0 := Lib.hid hO0; have HB0 := Lib.hid hB0
 clear hO0 hB0
 go_wp2_with (at_builtin; refine append_text rfl _ _ 51 9 5 rfl Tryz.underlying51 Tryz.underlying9 info_u8 _ 1 _ st HO0.out HB0.out rfl rfl (by omega) ?_; intro v1 w3 HO1 HB1 HG1)
 go_ret2
 exact RetPk.of (by unfold rowB byts; simp [u8_nat]) (by unfold rowB; rw [List.length_cons, ba_len]; omega) HO1 HB1
set_option maxRecDepth 100000 in
set_option maxHeartbeats 4000000 in
theorem pfield_D (e : Ev) (hok : e.ok) (w : World) :
  Calls Tryz.prog 83 #[e.val, .int .i32 68] w (RetPk w (beI e.day) 0) := by
 have hpn := fun W => pnum_calls e.day (by have := hok.day; unfold IsInt64 at this; exact this) W
 unfold RetOwn at hpn
 have hcc := e.term.cells_ hok.term
 have ho7 := e.term.one_ hok.term
 have hb0 := Blk.new w e.cells 30
 have hbA := bl_alloc (bl_refl w) (.cells e.cells 30)
 have hev : e.val = .agg #[.int .i64 e.kind, .string e.id, .string e.name, .string e.label, .string e.cur, .int .i64 e.day, .int .i64 e.value, e.term.val] := rfl
 rw [hev]
 clear hev
 unfold Ev.cells at *
 obtain ⟨f0, f1, f2, f3, f4, f5, f6, f7⟩ := Blk.evs (e := e) hb0
 obtain ⟨W1, hW1⟩ : ∃ W1, w.alloc (.cells #[.int .i64 e.kind, .string e.id, .string e.name, .string e.label, .string e.cur, .int .i64 e.day, .int .i64 e.value, e.term.val] 30) = W1 := ⟨_, rfl⟩
 rw [hW1] at f0 f1 f2 f3 f4 f5 f6 f7 hbA
 have HW1 := Lib.hid hW1
 clear hW1 hb0
 have HPN := Lib.hid hpn
 clear hpn
 go_enter Tryz.func83, Tryz.ntmps83
 go_upto_region 1 with fail
 rw [HW1.out]
 go_wp2_with fail
 refine (HPN.out _).mono ?_
 rintro en w2 ⟨v, rfl, hO, hB⟩
 go_wp2_with fail
 go_ret2
 exact RetPk.of rfl (beI_length _) (hO.mono hbA.size) (bl_step hB hbA)
set_option maxRecDepth 100000 in
set_option maxHeartbeats 4000000 in
theorem pfield_V (e : Ev) (hok : e.ok) (w : World) :
  Calls Tryz.prog 83 #[e.val, .int .i32 86] w (RetPk w (beI e.value) 0) := by
 have hpn := fun W => pnum_calls e.value (by have := hok.value; unfold IsInt64 at this; exact this) W
 unfold RetOwn at hpn
 have hcc := e.term.cells_ hok.term
 have ho7 := e.term.one_ hok.term
 have hb0 := Blk.new w e.cells 30
 have hbA := bl_alloc (bl_refl w) (.cells e.cells 30)
 have hev : e.val = .agg #[.int .i64 e.kind, .string e.id, .string e.name, .string e.label, .string e.cur, .int .i64 e.day, .int .i64 e.value, e.term.val] := rfl
 rw [hev]
 clear hev
 unfold Ev.cells at *
 obtain ⟨f0, f1, f2, f3, f4, f5, f6, f7⟩ := Blk.evs (e := e) hb0
 obtain ⟨W1, hW1⟩ : ∃ W1, w.alloc (.cells #[.int .i64 e.kind, .string e.id, .string e.name, .string e.label, .string e.cur, .int .i64 e.day, .int .i64 e.value, e.term.val] 30) = W1 := ⟨_, rfl⟩
 rw [hW1] at f0 f1 f2 f3 f4 f5 f6 f7 hbA
 have HW1 := Lib.hid hW1
 clear hW1 hb0
 have HPN := Lib.hid hpn
 clear hpn
 go_enter Tryz.func83, Tryz.ntmps83
 go_upto_region 1 with fail
 rw [HW1.out]
 go_wp2_with fail
 refine (HPN.out _).mono ?_
 rintro en w2 ⟨v, rfl, hO, hB⟩
 go_wp2_with fail
 go_ret2
 exact RetPk.of rfl (beI_length _) (hO.mono hbA.size) (bl_step hB hbA)
set_option maxRecDepth 100000 in
set_option maxHeartbeats 4000000 in
theorem pfield_T (e : Ev) (hok : e.ok) (hm : e.term.meas ≤ 1099511627776) (w : World) (ht : TabOk w) :
  Calls Tryz.prog 83 #[e.val, .int .i32 84] w (RetPk w (rowW e.term.write.1) e.term.write.2) := by
 have hsz : e.term.write.1.size ≤ 1000 := by
  unfold Tm.write
  split
  ·unfold toldS; split
   ·decide
   ·show e.term.text.size ≤ 1000; omega
  ·show (⟨#[]⟩ : ByteArray).size ≤ 1000; decide
 have hcc := e.term.cells_ hok.term
 have ho7 := e.term.one_ hok.term
 have hb0 := Blk.new w e.cells 30
 have hbA := bl_alloc (bl_refl w) (.cells e.cells 30)
 have hev : e.val = .agg #[.int .i64 e.kind, .string e.id, .string e.name, .string e.label, .string e.cur, .int .i64 e.day, .int .i64 e.value, e.term.val] := rfl
 rw [hev]
 clear hev
 unfold Ev.cells at *
 obtain ⟨f0, f1, f2, f3, f4, f5, f6, f7⟩ := Blk.evs (e := e) hb0
 obtain ⟨W1, hW1⟩ : ∃ W1, w.alloc (.cells #[.int .i64 e.kind, .string e.id, .string e.name, .string e.label, .string e.cur, .int .i64 e.day, .int .i64 e.value, e.term.val] 30) = W1 := ⟨_, rfl⟩
 rw [hW1] at f0 f1 f2 f3 f4 f5 f6 f7 hbA
 have HW1 := Lib.hid hW1
 clear hW1 hb0
 have htw := twrite_calls e.term hok.term hm W1 (ht.below hbA)
 unfold pairS at htw
 generalize e.term.write.1 = st at *
 generalize e.term.write.2 = er at *
 have HTW := Lib.hid htw
 clear htw
 have hsh := fun W => run_shr Tryz.prog .i64 .u64 (st.size : Int) 8 (by omega) W
 have hse : (st.size : Int) / 2 ^ 8 = ((st.size / 256 : Nat) : Int) := by omega
 go_enter Tryz.func83, Tryz.ntmps83
 go_upto_region 1 with fail
 rw [HW1.out]
 go_wp2_with fail
 refine (HTW.out).mono ?_
 rintro en w2 ⟨rfl, hb2⟩
 have hB2 := bl_step hb2 hbA
 clear f0 f1 f2 f3 f4 f5 f6 f7
 have hO0 := Own.of_blk (w0 := w) (Blk.new w2 #[.int .u8 ((st.size : Int) / 256), .int .u8 ((st.size : Int) % 256)] 5) (xs := [.int .u8 ((st.size : Int) / 256), .int .u8 ((st.size : Int) % 256)]) hB2.size rfl (by show 2 ≤ maxLen; decide)
 have hB0 := bl_alloc hB2 (.cells #[.int .u8 ((st.size : Int) / 256), .int .u8 ((st.size : Int) % 256)] 5)
 have hsw : IntKind.u8.wrap (st.size : Int) = (st.size : Int) % 256 := IntKind.wrap_u8 _
 have HO0 := Lib.hid hO0; have HB0 := Lib.hid hB0
 clear hO0 hB0
 have hbs := fun (x y : Int) (W : World) => bs_u82 x y W
 go_wp2_with (at_builtin; refine append_text rfl _ _ 51 9 5 rfl Tryz.underlying51 Tryz.underlying9 info_u8 _ 2 _ st HO0.out HB0.out rfl rfl (by omega) ?_; intro v1 w3 HO1 HB1 HG1)
 go_ret2
 exact RetPk.of (by unfold rowW byts; simp only [List.map_cons, List.cons_append, List.nil_append, u8_nat, List.cons.injEq, Value.int.injEq, true_and]; exact ⟨by omega, trivial⟩) (by unfold rowW; rw [List.length_cons, List.length_cons, ba_len]; omega) HO1 HB1
def ordB : List UInt8 := [73, 78, 76, 67, 68, 86, 84]
def ordS : ByteArray := ⟨#[73, 78, 76, 67, 68, 86, 84]⟩
def rvals (l : List UInt8) : List Value := l.map fun c => .int .i32 (c.toNat : Int)
theorem rvals_snoc (l : List UInt8) (c : UInt8) : rvals (l ++ [c]) = rvals l ++ [.int .i32 (c.toNat : Int)] := by simp [rvals]
/-- Of the letters of o those of l, in o's order. -/
def ordF (l o : List UInt8) : List UInt8 := o.flatMap fun r => l.filter (· == r)
def Ev.order (k : Int) : List UInt8 := ordF (fieldsL k) ordB
theorem info_i32P : (Tryz.prog.info? 21).map (fun i => (i.zero, i.size, i.bytes)) = some (some (.int .i32 0), 1, 4) := by kernel_rfl
theorem bs_i32P (x : Int) (W : World) : (Instr.buildSlice 178 1 #[(0, .int .i32 x)]).run Tryz.prog W = .ok (.slice (some ⟨W.heap.size, 0, none⟩) 1 1) (W.alloc (.cells #[.int .i32 x] 21)) := by kernel_rfl
theorem gb_iterAtP (w : World) (k : Nat) (s : ByteArray) (pos : Nat) : w.grownBy (w.iterAt k s pos) (some k) :=
 ⟨rfl, rfl, rfl, by rw [Lib.iterAt_size]; exact Nat.le_refl _, fun i _ h => Lib.iterAt_other w k i s pos (fun e => h (by rw [e]))⟩
theorem Own.ne_iterP {w0 W : World} {e size n g pos : Nat} {v : Value} {xs : List Value} {s : ByteArray} (h : Own w0 W e size v n xs) (hb : W.heap[g]? = some (.stringIter s pos)) : v.ownBlock ≠ some g := by
 intro hk
 rcases h.2 with ⟨rfl, _⟩ | ⟨g', cap, cur, rfl, _, hh, _⟩
 ·simp [Value.ownBlock] at hk
 ·have : g' = g := by simpa [Value.ownBlock] using hk
  subst this
  rw [hh] at hb
  cases hb
theorem Own.iterAt {w0 W : World} {e size n g pos : Nat} {v : Value} {xs : List Value} {s : ByteArray} (h : Own w0 W e size v n xs) (hb : W.heap[g]? = some (.stringIter s pos)) (pos' : Nat) : Own w0 (W.iterAt g s pos') e size v n xs :=
 h.kept (gb_iterAtP W g s pos') (.inr (h.ne_iterP hb))
theorem iter_gb {W W' : World} {g pos : Nat} {s : ByteArray} {r : Option Nat} (h : W.heap[g]? = some (.stringIter s pos)) (hg : W.grownBy W' r) (hne : r ≠ some g) : W'.heap[g]? = some (.stringIter s pos) := by
 have hlt : g < W.heap.size := (Array.getElem?_eq_some_iff.1 h).1
 rw [hg.block g hlt (fun e => hne e.symm)]
 exact h
theorem iterPos_of {w : World} {k p : Nat} {s : ByteArray} (h : w.heap[k]? = some (.stringIter s p)) : w.iterPos k = p := by simp [World.iterPos, h]
theorem filter_take_succ (l : List UInt8) (r : UInt8) (p : Nat) (h : p < l.length) : (l.take (p + 1)).filter (· == r) = (l.take p).filter (· == r) ++ (if l[p] == r then [l[p]] else []) := by
 rw [List.take_succ_eq_append_getElem h, List.filter_append]
 simp only [List.filter_cons, List.filter_nil]
theorem ordF_take_succ (l o : List UInt8) (q : Nat) (h : q < o.length) : ordF l (o.take (q + 1)) = ordF l (o.take q) ++ l.filter (· == o[q]) := by
 unfold ordF
 rw [List.take_succ_eq_append_getElem h, List.flatMap_append]
 simp
theorem fieldsL_ascii (k : Int) : ∀ c ∈ fieldsL k, c.toNat < 128 := by
 unfold fieldsL
 repeat' split
 all_goals decide
theorem fieldsL_len (k : Int) : (fieldsL k).length ≤ 3 := by
 unfold fieldsL
 repeat' split
 all_goals decide
theorem bag_get (l : List UInt8) (p : Nat) (h : p < l.length) : (⟨l.toArray⟩ : ByteArray)[p]'(by show p < (l.toArray).size; simpa using h) = l[p] := by
 show (l.toArray)[p] = _
 simp
theorem ordF_len (l o : List UInt8) : (ordF l o).length ≤ o.length * l.length := by
 unfold ordF
 induction o with
 | nil => simp
 | cons c o ih =>
  rw [List.flatMap_cons, List.length_append, List.length_cons, Nat.succ_mul]
  have := List.length_filter_le (· == c) l
  omega
theorem ordS_at (q : Nat) (h : q < 7) : ordS[q]'h = ordB[q]! := by
 match q, h with
 | 0, _ => rfl
 | 1, _ => rfl
 | 2, _ => rfl
 | 3, _ => rfl
 | 4, _ => rfl
 | 5, _ => rfl
 | 6, _ => rfl
/-- It returns runes in memory of its own. -/
def RetRunes (w : World) (l : List UInt8) (en : Ending) (w' : World) : Prop := ∃ v, en = .returned v ∧ Own w w' 21 1 v l.length (rvals l) ∧ Below w.heap.size w w'
set_option maxRecDepth 100000 in
set_option maxHeartbeats 4000000 in
theorem pfields_calls (k : Int) (w : World) : Calls Tryz.prog 82 #[.int .i64 k] w (RetRunes w (Ev.order k)) := by
 have hasc := fieldsL_ascii k
 have hln := fieldsL_len k
 have hfc := fun W => fields_calls k W
 have hfs : fieldsS k = ⟨(fieldsL k).toArray⟩ := rfl
 rw [hfs] at hfc
 unfold Ev.order
 generalize fieldsL k = l at *
 have hsz : (⟨l.toArray⟩ : ByteArray).size = l.length := by simp [ByteArray.size]
 obtain ⟨s, hs⟩ : ∃ s : ByteArray, ⟨l.toArray⟩ = s := ⟨_, rfl⟩
 have hget : ∀ p (h : p < s.size) (h2 : p < l.length), s[p]'h = l[p] := by
  intro p h h2; subst hs; exact bag_get l p h2
 rw [hs] at hfc hsz
 clear hs hfs
 have HFC := Lib.hid hfc; have HAS := Lib.hid hasc; have HGET := Lib.hid hget; have HSZ := Lib.hid hsz; have HLN := Lib.hid hln
 clear hfc hasc hget hsz hln
 have hob : ∀ q, q < 7 → (ordB[q]!).toNat < 128 := by decide
 have HOB := Lib.hid hob
 clear hob
 have hbs := fun (x : Int) (W : World) => bs_i32P x W
 go_enter Tryz.func82, Tryz.ntmps82
 go_wp2_with fail
 have hi0 : (w.alloc (.stringIter ordS 0)).heap[w.heap.size]? = some (.stringIter ordS 0) := World.iter_heap w ordS 0
 have hB0 := bl_alloc (bl_refl w) (.stringIter ordS 0)
 change Code.wp _ _ _ _ (w.alloc (.stringIter ordS 0))
 generalize w.alloc (.stringIter ordS 0) = W0 at *
 go_loopw [3] (fun o wr => ∃ q n : Nat, q ≤ 7 ∧ n = (ordF l (ordB.take q)).length ∧ Own w wr 21 1 o n (rvals (ordF l (ordB.take q))) ∧ wr.heap[w.heap.size]? = some (.stringIter ordS q) ∧ Below w.heap.size w wr) (fun _ wr => 7 - wr.iterPos w.heap.size)
 case atStart => exact ⟨0, 0, by omega, rfl, Own.nil _ _ _ _, hi0, hB0⟩
 case round =>
  clear hi0 hB0
  obtain ⟨q, n, hq, hn, hO, hi, hB⟩ := hrel
  have HN := Lib.hid hn
  clear hn
  have hmuq : wr.iterPos w.heap.size = q := iterPos_of hi
  by_cases hlt : q < 7
  ·have hnx : ∀ ty, (Instr.next (.pointer (some ⟨w.heap.size, 0, none⟩)) true ty).run Tryz.prog wr = .ok (.tuple #[.bool true, .int .i64 q, .int .i32 (ordB[q]!).toNat]) (wr.iterAt w.heap.size ordS (q + 1)) := fun ty => by
    rw [Lib.run_next_ascii_at wr w.heap.size ordS q ty hi hlt (by rw [ordS_at q hlt]; exact HOB.out q hlt), ordS_at q hlt]
   have hO1 := hO.iterAt hi (q + 1)
   have hi1 := Lib.iterAt_heap wr _ _ _ (q + 1) hi
   have hB1 := Lib.below_iterAt hB (Nat.le_refl _) ordS (q + 1)
   obtain ⟨W1, hW1⟩ : ∃ W1, wr.iterAt w.heap.size ordS (q + 1) = W1 := ⟨_, rfl⟩
   rw [hW1] at hnx hO1 hi1 hB1
   have hst : ordF l (ordB.take (q + 1)) = ordF l (ordB.take q) ++ l.filter (· == ordB[q]!) := by rw [ordF_take_succ l ordB q hlt, getElem!_pos ordB q hlt]
   have HST := Lib.hid hst
   obtain ⟨r, hr⟩ : ∃ r, ordB[q]! = r := ⟨_, rfl⟩
   rw [hr] at hnx HST
   have HO1 := Lib.hid hO1; have HI1 := Lib.hid hi1; have HB1 := Lib.hid hB1
   clear hO1 hi1 hB1 hO hB hst hr hi
   go_wp2_with fail
   refine (HFC.out _).mono ?_
   rintro e w2 ⟨rfl, rfl⟩
   clear hnx hW1
   go_wp2_with fail
   have hg0 : (W1.alloc (.stringIter s 0)).heap[W1.heap.size]? = some (.stringIter s 0) := World.iter_heap W1 s 0
   have hO2 := HO1.out.below (bl_alloc (bl_refl _) (.stringIter s 0))
   have hB2 := bl_alloc HB1.out (.stringIter s 0)
   have hi2 := iter_gb HI1.out (gb_alloc (gb_refl W1 none) (.stringIter s 0)) (by simp)
   have hlt1 : w.heap.size < W1.heap.size := (Array.getElem?_eq_some_iff.1 HI1.out).1
   have hNE : Hid (W1.heap.size ≠ w.heap.size) := by show _ ≠ _; omega
   have HNE := hNE
   have HLE : Hid (w.heap.size ≤ W1.heap.size) := by show _ ≤ _; omega
   clear hNE
   clear hlt1
   change Code.wp _ _ _ _ (W1.alloc (.stringIter s 0))
   generalize W1.alloc (.stringIter s 0) = W2 at *
   generalize W1.heap.size = g at *
   clear HO1 HI1 HB1
   clear W1
   go_loopw [3] (fun o wr2 => ∃ p m : Nat, p ≤ l.length ∧ m = (ordF l (ordB.take q) ++ (l.take p).filter (· == r)).length ∧ Own w wr2 21 1 o m (rvals (ordF l (ordB.take q) ++ (l.take p).filter (· == r))) ∧ wr2.heap[g]? = some (.stringIter s p) ∧ wr2.heap[w.heap.size]? = some (.stringIter ordS (q + 1)) ∧ Below w.heap.size w wr2) (fun _ wr2 => l.length - wr2.iterPos g)
   case atStart => exact ⟨0, n, by omega, by simp [HN.out], by simpa using hO2, hg0, hi2, hB2⟩
   case round =>
    clear hO2 hB2 hi2 hg0
    obtain ⟨p, m, hp, hm, hO, hi, hi0, hB⟩ := hrel
    have HM := Lib.hid hm
    clear hm
    have hmu : wr.iterPos g = p := iterPos_of hi
    have hml : m ≤ 24 := by
     rw [HM.out, List.length_append]
     have h1 := ordF_len l (ordB.take q)
     have h2 := List.length_filter_le (· == r) (l.take p)
     have h3 : (ordB.take q).length ≤ 7 := by rw [List.length_take]; exact Nat.min_le_right _ _
     have h5 := Nat.mul_le_mul h3 HLN.out
     have h6 : (l.take p).length ≤ 3 := by have := HLN.out; rw [List.length_take]; omega
     omega
    by_cases hlp : p < l.length
    ·have hps : p < s.size := by rw [HSZ.out]; exact hlp
     have hlg : (l[p].toNat : Int) < 128 := by have := HAS.out l[p] (List.getElem_mem hlp); omega
     have hnx : ∀ ty, (Instr.next (.pointer (some ⟨g, 0, none⟩)) true ty).run Tryz.prog wr = .ok (.tuple #[.bool true, .int .i64 p, .int .i32 l[p].toNat]) (wr.iterAt g s (p + 1)) := fun ty => by
      rw [Lib.run_next_ascii_at wr g s p ty hi hps (by rw [HGET.out p hps hlp]; exact HAS.out _ (List.getElem_mem hlp)), HGET.out p hps hlp]
     have hO1 := hO.iterAt hi (p + 1)
     have hi1 := Lib.iterAt_heap wr _ _ _ (p + 1) hi
     have hi3 := (Lib.iterAt_other wr g w.heap.size s (p + 1) (fun e => HNE.out e.symm)).trans hi0
     have hB1 := hB.grown (gb_iterAtP wr g s (p + 1)) hB.size (fun j hj => by cases hj; have := HLE.out; omega)
     have hfs := filter_take_succ l r p hlp
     obtain ⟨W3, hW3⟩ : ∃ W3, wr.iterAt g s (p + 1) = W3 := ⟨_, rfl⟩
     rw [hW3] at hnx hO1 hi1 hi3 hB1
     have HFS := Lib.hid hfs; have HO1 := Lib.hid hO1; have HI1 := Lib.hid hi1; have HI3 := Lib.hid hi3; have HB1 := Lib.hid hB1
     have hmu2 : W3.iterPos g = p + 1 := iterPos_of hi1
     clear hO hB hfs hO1 hi1 hi3 hB1 hi hi0 hW3
     by_cases hc : l[p] = r
     ·have hcb : (l[p] == r) = true := by simpa using hc
      rw [hcb, if_pos rfl] at HFS
      go_wp2_with (at_builtin; refine append_one rfl _ _ 178 21 _ 4 rfl Tryz.underlying178 info_i32P rfl _ _ _ _ HO1.out HB1.out rfl rfl rfl (by omega) (by omega) ?_; intro v1 w3 HO4 HB4 HG4)
      go_roundw
      case rel => exact ⟨p + 1, m + 1, by omega, by rw [HFS.out, hc, ← List.append_assoc, List.length_append, ← HM.out]; rfl, by rw [HFS.out, hc, ← List.append_assoc, rvals_snoc]; exact HO4, iter_gb HI1.out HG4 (HO1.out.ne_iterP HI1.out), iter_gb HI3.out HG4 (HO1.out.ne_iterP HI3.out), HB4⟩
      case measure => rw [iterPos_of (iter_gb HI1.out HG4 (HO1.out.ne_iterP HI1.out))]; omega
     ·have hcb : (l[p] == r) = false := by simpa using hc
      have hci : ((l[p].toNat : Int) == (r.toNat : Int)) = false := by
       simp only [beq_eq_false_iff_ne, ne_eq]
       intro e
       exact hc (UInt8.toNat_inj.1 (by omega))
      rw [hcb] at HFS
      go_wp2_with fail
      go_roundw
      case rel => exact ⟨p + 1, m, by omega, by rw [HFS.out]; simpa using HM.out, by rw [HFS.out]; simpa using HO1.out, HI1.out, HI3.out, HB1.out⟩
      case measure => rw [iterPos_of HI1.out]; omega
    ·have hpe : p = l.length := by omega
     have hps : ¬ p < s.size := by rw [HSZ.out]; omega
     have hnx : ∀ ty, (Instr.next (.pointer (some ⟨g, 0, none⟩)) true ty).run Tryz.prog wr = .ok (.tuple #[.bool false]) wr := fun ty => Lib.run_next_end_at wr g s p ty hi hps
     have hmu0 : wr.iterPos w.heap.size = q + 1 := iterPos_of hi0
     have HO1 := Lib.hid hO; have HI0 := Lib.hid hi0; have HB1 := Lib.hid hB
     clear hO hB hi hi0
     go_wp2_with fail
     go_roundw
     case rel =>
      have hO4 := HO1.out
      rw [hpe, List.take_length] at hO4
      have hM := HM.out
      rw [hpe, List.take_length] at hM
      exact ⟨q + 1, m, by omega, by rw [HST.out]; exact hM, by rw [HST.out]; exact hO4, HI0.out, HB1.out⟩
     case measure => omega
  ·obtain rfl : q = 7 := by omega
   have hnx : ∀ ty, (Instr.next (.pointer (some ⟨w.heap.size, 0, none⟩)) true ty).run Tryz.prog wr = .ok (.tuple #[.bool false]) wr := fun ty => Lib.run_next_end_at wr w.heap.size ordS 7 ty hi (by decide)
   have HO1 := Lib.hid hO; have HB1 := Lib.hid hB
   clear hO hB hi
   go_wp2_with fail
   go_ret
   exact ⟨_, rfl, by rw [show (ordF l ordB).length = n from HN.out.symm]; exact HO1.out, HB1.out⟩
/-- An event's texts are none too long. -/
structure Ev.small (e : Ev) : Prop where
 ok : e.ok
 meas : e.term.meas ≤ 1099511627776
 id : e.id.size ≤ 1000000
 name : e.name.size ≤ 1000000
 label : e.label.size ≤ 1000000
 cur : e.cur.size ≤ 1000000
theorem pfield_calls (e : Ev) (h : e.small) (c : UInt8) (hc : c ∈ ordB) (w : World) (ht : TabOk w) :
  Calls Tryz.prog 83 #[e.val, .int .i32 (c.toNat : Int)] w (RetPk w (e.fieldB c) (e.fieldE c)) := by
 simp only [ordB, List.mem_cons, List.not_mem_nil, or_false] at hc
 rcases hc with rfl | rfl | rfl | rfl | rfl | rfl | rfl
 ·exact pfield_I e h.ok h.id w
 ·exact pfield_N e h.ok h.name w
 ·exact pfield_L e h.ok h.label w
 ·exact pfield_C e h.ok h.cur w
 ·exact pfield_D e h.ok w
 ·exact pfield_V e h.ok w
 ·exact pfield_T e h.ok h.meas w ht
theorem write_size (t : Tm) : t.write.1.size ≤ 1000 := by
 unfold Tm.write
 split
 ·unfold toldS; split
  ·decide
  ·show t.text.size ≤ 1000; omega
 ·show (⟨#[]⟩ : ByteArray).size ≤ 1000; decide
theorem Ev.fieldB_len (e : Ev) (h : e.small) (c : UInt8) : (e.fieldB c).length ≤ 1000010 := by
 have hw := write_size e.term
 have h1 := h.id; have h2 := h.name; have h3 := h.label; have h4 := h.cur
 unfold Ev.fieldB
 split
 ·rw [beI_length]; omega
 split
 ·rw [beI_length]; omega
 split
 ·unfold rowW; rw [List.length_cons, List.length_cons, ba_len]; omega
 ·unfold rowB Ev.strOf
  rw [List.length_cons, ba_len]
  split
  ·omega
  split
  ·omega
  split
  ·omega
  split
  ·omega
  ·show 0 + 1 ≤ _; omega
theorem ordF_mem (l o : List UInt8) {c : UInt8} (h : c ∈ ordF l o) : c ∈ o ∧ c ∈ l := by
 unfold ordF at h
 obtain ⟨r, hr, hc⟩ := List.mem_flatMap.1 h
 obtain ⟨h1, h2⟩ := List.mem_filter.1 hc
 obtain rfl : c = r := by simpa using h2
 exact ⟨hr, h1⟩
theorem fields_T (k : Int) (h : (84 : UInt8) ∈ fieldsL k) : k = 2 := by
 revert h
 unfold fieldsL
 repeat' split
 all_goals first
  | (intro _; assumption)
  | (intro h; exact absurd h (by decide))
theorem order_E (e : Ev) (hz : e.check = 0) {c : UInt8} (h : c ∈ Ev.order e.kind) : e.fieldE c = 0 := by
 unfold Ev.fieldE
 split
 ·rename_i hc
  subst hc
  have hk := fields_T e.kind (ordF_mem _ _ h).2
  unfold Ev.check at hz
  split at hz
  ·exact absurd hz (by decide)
  split at hz
  ·exact absurd hz (by decide)
  split at hz
  ·exact absurd hz (by decide)
  first | exact hz | (rw [if_pos hk] at hz; exact hz)
 ·rfl
theorem order_len (k : Int) : (Ev.order k).length ≤ 21 := by
 have h1 := ordF_len (fieldsL k) ordB
 have h2 := fieldsL_len k
 have h3 := Nat.mul_le_mul (show ordB.length ≤ 7 by decide) h2
 unfold Ev.order
 omega
/-- An event's bytes. -/
def Ev.bytes (e : Ev) : List UInt8 := UInt8.ofNat (e.kind % 256).toNat :: (Ev.order e.kind).flatMap e.fieldB
def Ev.pack (e : Ev) : List UInt8 := if e.check = 0 then e.bytes else []
theorem Ev.bytes_len (e : Ev) (h : e.small) (j : Nat) : ((Ev.order e.kind).take j |>.flatMap e.fieldB).length ≤ 21000210 := by
 have h1 := order_len e.kind
 have h2 : ∀ l : List UInt8, (l.flatMap e.fieldB).length ≤ l.length * 1000010 := by
  intro l
  induction l with
  | nil => simp
  | cons c l ih =>
   rw [List.flatMap_cons, List.length_append, List.length_cons, Nat.succ_mul]
   have := e.fieldB_len h c
   omega
 have h3 := h2 ((Ev.order e.kind).take j)
 have h4 : ((Ev.order e.kind).take j).length ≤ 21 := by rw [List.length_take]; omega
 omega
theorem Own.apart {w0 w1 W : World} {e e' size size' n n' : Nat} {v v' : Value} {xs xs' : List Value} (h : Own w0 W e size v n xs) (h' : Own w1 W e' size' v' n' xs') (ne : e ≠ e') : v.ownBlock = none ∨ v.ownBlock ≠ v'.ownBlock := by
 rcases h.2 with ⟨rfl, _⟩ | ⟨g, cap, cur, rfl, _, hh, _⟩
 ·exact .inl rfl
 ·right
  rcases h'.2 with ⟨rfl, _⟩ | ⟨g', cap', cur', rfl, _, hh', _⟩
  ·intro e; cases e
  ·intro e
   have : g = g' := by simpa [Value.ownBlock] using e
   subst this
   rw [hh] at hh'
   injection hh' with hh'
   injection hh' with _ h2
   exact ne h2
set_option maxRecDepth 100000 in
set_option maxHeartbeats 4000000 in
theorem pevent_calls (e : Ev) (h : e.small) (w : World) (ht : TabOk w) :
  Calls Tryz.prog 49 #[e.val] w (RetPk w e.pack e.check) := by
 have hck := fun W hW => echeck_calls e h.ok h.meas W hW
 have hfc := fun c hc W hW => pfield_calls e h c hc W hW
 have hpf := fun W => pfields_calls e.kind W
 have hlen := e.bytes_len h
 have hcc := e.term.cells_ h.ok.term
 have ho7 := e.term.one_ h.ok.term
 have hb0 := Blk.new w e.cells 30
 have hbA := bl_alloc (bl_refl w) (.cells e.cells 30)
 have hev : e.val = .agg #[.int .i64 e.kind, .string e.id, .string e.name, .string e.label, .string e.cur, .int .i64 e.day, .int .i64 e.value, e.term.val] := rfl
 rw [hev] at hck hfc ⊢
 clear hev
 unfold Ev.cells at *
 obtain ⟨f0, f1, f2, f3, f4, f5, f6, f7⟩ := Blk.evs (e := e) hb0
 obtain ⟨W1, hW1⟩ : ∃ W1, w.alloc (.cells #[.int .i64 e.kind, .string e.id, .string e.name, .string e.label, .string e.cur, .int .i64 e.day, .int .i64 e.value, e.term.val] 30) = W1 := ⟨_, rfl⟩
 rw [hW1] at f0 f1 f2 f3 f4 f5 f6 f7 hbA hb0
 have HT := Lib.hid ht; have HW1 := Lib.hid hW1; have HCK := Lib.hid hck; have HFC := Lib.hid hfc; have HPF := Lib.hid hpf; have HB0 := Lib.hid hb0; have HBA := Lib.hid hbA; have HLEN := Lib.hid hlen
 clear hW1 hck hfc hpf hb0 hbA hlen ht
 by_cases hz : e.check = 0
 ·have hoe := fun c hc => order_E e hz (c := c) hc
  have HP : Hid (e.pack = e.bytes) := by show _ = _; unfold Ev.pack; rw [if_pos hz]
  have HOE := Lib.hid hoe
  rw [hz] at HCK ⊢
  rw [HP.out]
  clear hz hoe HP
  have hmem := fun c (hc : c ∈ Ev.order e.kind) => (ordF_mem _ _ hc).1
  have HMEM := Lib.hid hmem
  have hol := order_len e.kind
  unfold Ev.bytes
  have HOL := Lib.hid hol
  clear hmem hol
  go_enter Tryz.func49, Tryz.ntmps49
  go_upto_region 1 with fail
  rw [HW1.out]
  go_wp2_with fail
  refine (HCK.out _ (HT.out.below HBA.out)).mono ?_
  rintro en w2 ⟨rfl, hb2⟩
  clear f0 f1 f2 f3 f4 f5 f6 f7
  have HB2 := Lib.hid (bl_step hb2 HBA.out); have HK2 := Lib.hid (HB0.out.below hb2)
  clear hb2
  obtain ⟨f0, f1, f2, f3, f4, f5, f6, f7⟩ := Blk.evs (e := e) HK2.out
  have hbs := fun (x : Int) (W : World) => bs_u8 x W
  go_upto_region 5 with fail
  clear hbs
  have hO0 : Own w (w2.alloc (.cells #[.int .u8 (e.kind % 256)] 5)) 5 1 (.slice (some ⟨w2.heap.size, 0, none⟩) 1 1) 1 [.int .u8 (e.kind % 256)] := Own.of_blk (w0 := w) (Blk.new w2 #[.int .u8 (e.kind % 256)] 5) (xs := [.int .u8 (e.kind % 256)]) HB2.out.size rfl (by show 1 ≤ maxLen; decide)
  have hB3 := bl_alloc HB2.out (.cells #[.int .u8 (e.kind % 256)] 5)
  have hK3 := HK2.out.below (bl_alloc (bl_refl _) (.cells #[.int .u8 (e.kind % 256)] 5))
  clear f0 f1 f2 f3 f4 f5 f6 f7
  obtain ⟨W3, hW3⟩ : ∃ W3, w2.alloc (.cells #[.int .u8 (e.kind % 256)] 5) = W3 := ⟨_, rfl⟩
  rw [hW3] at hO0 hB3 hK3 ⊢
  obtain ⟨f0, f1, f2, f3, f4, f5, f6, f7⟩ := Blk.evs (e := e) hK3
  obtain ⟨v0, hv0⟩ : ∃ v0, Value.slice (some ⟨w2.heap.size, 0, none⟩) 1 1 = v0 := ⟨_, rfl⟩
  rw [hv0] at hO0 ⊢
  have HO0 := Lib.hid hO0; have HB3 := Lib.hid hB3; have HK3 := Lib.hid hK3
  clear hO0 hB3 hK3 HK2 HB2 hW3 hv0
  have hpf := HPF.out
  unfold RetRunes at hpf
  have HPF2 := Lib.hid hpf
  clear hpf HPF
  clear w2
  go_wp2_with fail
  refine (HPF2.out _).mono ?_
  rintro en w4 ⟨vr, rfl, hR, hb4⟩
  obtain ⟨A, cr, rfl, hRd, -, -⟩ := hR.read
  have hO4 := HO0.out.below hb4
  have hB4 := bl_step hb4 HB3.out
  have hK4 := HK3.out.below hb4
  have hR4 := hR.mono HB3.out.size
  clear f0 f1 f2 f3 f4 f5 f6 f7 HO0 HB3 HK3 hR hb4 HPF2 hRd
  obtain ⟨c0, hc0⟩ : ∃ c0, UInt8.ofNat (e.kind % 256).toNat = c0 := ⟨_, rfl⟩
  have hc0v : Value.int .u8 (e.kind % 256) = .int .u8 (c0.toNat : Int) := by
   rw [← hc0]; congr 1; simp; omega
  rw [hc0v] at hO4
  have HC0 := Lib.hid hc0
  clear hc0v hc0
  generalize Ev.order e.kind = ol at *
  obtain ⟨N, hN⟩ : ∃ N, ol.length = N := ⟨_, rfl⟩
  rw [hN] at hR4 HOL ⊢
  have HN := Lib.hid hN
  clear hN
  go_wp2_with fail
  go_loopw [5, 23] (fun o i wr => ∃ j m : Nat, j ≤ N ∧ i = .int .i64 j ∧ m = 1 + ((ol.take j).flatMap e.fieldB).length ∧ Own w wr 5 1 o m (byts (c0 :: (ol.take j).flatMap e.fieldB)) ∧ Own w wr 21 1 (.slice A N cr) N (rvals ol) ∧ Blk wr w.heap.size #[.int .i64 e.kind, .string e.id, .string e.name, .string e.label, .string e.cur, .int .i64 e.day, .int .i64 e.value, e.term.val] 30 ∧ Below w.heap.size w wr) (fun _ i _ => N - (intOf i).toNat)
  case atStart => exact ⟨0, 1, by omega, rfl, by simp, by simpa [byts] using hO4, hR4, hK4, hB4⟩
  case round =>
   clear hO4 hB4 hK4 hR4
   obtain ⟨j, m, hj, rfl, hm, hO, hR, hK, hB⟩ := hrel
   have hml : m ≤ 21000211 := by have := HLEN.out j; omega
   have hNl := HOL.out
   have HM := Lib.hid hm
   clear hm
   by_cases hlt : j < N
   ·have hjl : j < ol.length := by rw [HN.out]; exact hlt
    have hcm : ol[j] ∈ ol := List.getElem_mem hjl
    have hfm := List.take_succ_eq_append_getElem hjl
    obtain ⟨A1, c1, hv, hRd, -, -⟩ := hR.read
    obtain ⟨rfl, rfl⟩ : A = A1 ∧ cr = c1 := by injection hv with h1 _ h2; exact ⟨h1, h2⟩
    obtain ⟨ad, rfl, hcell⟩ := hRd j (.int .i32 (ol[j].toNat : Int)) (by simp [rvals, hjl])
    generalize ol[j] = c at *
    have hfc := HFC.out c (HMEM.out c hcm) wr (HT.out.below hB)
    rw [HOE.out c hcm] at hfc
    have hfl := e.fieldB_len h c
    have HFL := Lib.hid hfm
    have HFC2 := Lib.hid hfc
    have hz0 : (0 : Int) ≤ (j : Int) := by omega
    have hz1 : (j : Int) < (N : Int) := by omega
    clear hfc hfm hv hRd hcm hjl
    obtain ⟨f0, f1, f2, f3, f4, f5, f6, f7⟩ := Blk.evs (e := e) hK
    have HO := Lib.hid hO; have HR := Lib.hid hR; have HK := Lib.hid hK; have HB := Lib.hid hB
    clear hO hR hK hB
    unfold RetPk at HFC2
    go_wp2_with fail
    refine (HFC2.out).mono ?_
    rintro en w5 ⟨vb, rfl, hOb, hb5⟩
    obtain ⟨Ab, cb, rfl, hRb, -, -⟩ := hOb.read
    have hO5 := HO.out.below hb5
    have hR5 := HR.out.below hb5
    have hK5 := HK.out.below hb5
    have hB5 := bl_step hb5 HB.out
    clear f0 f1 f2 f3 f4 f5 f6 f7 hcell HO HR HK HB hOb hb5 HFC2
    have HO5 := Lib.hid hO5; have HR5 := Lib.hid hR5; have HK5 := Lib.hid hK5; have HB5 := Lib.hid hB5; have HRb := Lib.hid hRb
    clear hO5 hR5 hK5 hB5 hRb
    go_wp2_with (at_builtin; refine append_any (w0 := w) rfl _ _ 51 5 _ 1 1 rfl Tryz.underlying51 info_u8 rfl (by decide) _ m _ Ab _ cb _ HO5.out HB5.out HRb.out rfl rfl (by rw [byts_length, Nat.mul_one]) (byts_one _) (by omega) (by omega) ?_; intro v1 w6 HO6 HB6 HG6)
    go_roundw
    case rel => exact ⟨j + 1, m + (e.fieldB c).length, by omega, by go_num, by rw [HFL.out, List.flatMap_append, List.length_append, HM.out]; simp [Nat.add_assoc], by rw [HFL.out, List.flatMap_append, ← List.cons_append]; simpa [byts] using HO6, HR5.out.kept HG6 (HR5.out.apart HO5.out (by decide)), HK5.out.grown HG6 (HO5.out.ne_blk HK5.out (by decide)), HB6⟩
    case measure => simp [intOf]; omega
   ·obtain rfl : j = N := by omega
    have hO7 := hO
    rw [show ol.take j = ol by rw [List.take_of_length_le (by rw [HN.out]; exact Nat.le_refl _)]] at hO7
    have hM := HM.out
    rw [show ol.take j = ol by rw [List.take_of_length_le (by rw [HN.out]; exact Nat.le_refl _)]] at hM
    have HO7 := Lib.hid hO7; have HB7 := Lib.hid hB
    clear hO hR hK hB hO7
    go_wp2_with fail
    go_ret2
    exact RetPk.of (by rw [HC0.out]) (by rw [List.length_cons]; omega) HO7.out HB7.out
 ·have HP : Hid (e.pack = []) := by show _ = _; unfold Ev.pack; rw [if_neg hz]
  have hzb : (e.check != 0) = true := by simp [hz]
  rw [HP.out]
  generalize e.check = er at *
  clear hz HP
  go_enter Tryz.func49, Tryz.ntmps49
  go_upto_region 1 with fail
  rw [HW1.out]
  go_wp2_with fail
  refine (HCK.out _ (HT.out.below HBA.out)).mono ?_
  rintro en w2 ⟨rfl, hb2⟩
  go_wp2_with fail
  go_ret2
  exact RetPk.of rfl rfl (Own.nil _ _ _ _) (bl_step hb2 HBA.out)
/-- An entry: an event, refused or not. -/
structure En where
 ev : Ev
 no : Bool
def En.cells (x : En) : Array Value := #[.int .i64 x.ev.kind, .string x.ev.id, .string x.ev.name, .string x.ev.label, .string x.ev.cur, .int .i64 x.ev.day, .int .i64 x.ev.value, x.ev.term.val, .bool x.no]
def En.val (x : En) : Value := .agg #[.int .i64 x.ev.kind, .string x.ev.id, .string x.ev.name, .string x.ev.label, .string x.ev.cur, .int .i64 x.ev.day, .int .i64 x.ev.value, x.ev.term.val, .bool x.no]
/-- An entry's bytes. -/
def En.pack (x : En) : List UInt8 := if x.ev.check = 0 then (if x.no then 1 else 0) :: x.ev.bytes else []
theorem Ev.bytes_length (e : Ev) (h : e.small) : e.bytes.length ≤ 21000211 := by
 have := e.bytes_len h 21
 rw [List.take_of_length_le (order_len e.kind)] at this
 unfold Ev.bytes
 rw [List.length_cons]; omega
theorem Ev.pack_length (e : Ev) (h : e.small) : e.pack.length ≤ 21000211 := by
 unfold Ev.pack
 split
 ·exact e.bytes_length h
 ·simp
theorem Blk.ens {w : World} {g : Nat} {x : En} (h : Blk w g x.cells 59) :
  w.cell? ⟨g, 0, none⟩ = some (.int .i64 x.ev.kind) ∧ w.cell? ⟨g, 1, none⟩ = some (.string x.ev.id) ∧ w.cell? ⟨g, 2, none⟩ = some (.string x.ev.name) ∧ w.cell? ⟨g, 3, none⟩ = some (.string x.ev.label) ∧ w.cell? ⟨g, 4, none⟩ = some (.string x.ev.cur) ∧
  w.cell? ⟨g, 5, none⟩ = some (.int .i64 x.ev.day) ∧ w.cell? ⟨g, 6, none⟩ = some (.int .i64 x.ev.value) ∧ w.cell? ⟨g, 7, none⟩ = some x.ev.term.val ∧ w.cell? ⟨g, 8, none⟩ = some (.bool x.no) :=
 ⟨h.cell 0, h.cell 1, h.cell 2, h.cell 3, h.cell 4, h.cell 5, h.cell 6, h.cell 7, h.cell 8⟩
set_option maxRecDepth 100000 in
set_option maxHeartbeats 4000000 in
theorem pentry_t (e : Ev) (h : e.small) (w : World) (ht : TabOk w) :
  Calls Tryz.prog 20 #[(En.mk e true).val] w (RetPk w (En.mk e true).pack e.check) := by
 have hpe := fun W hW => pevent_calls e h W hW
 have hcc := e.term.cells_ h.ok.term
 have ho7 := e.term.one_ h.ok.term
 have hpl := e.pack_length h
 have hb0 := Blk.new w (En.mk e true).cells 59
 have hbA := bl_alloc (bl_refl w) (.cells (En.mk e true).cells 59)
 have hck : (En.mk e true).cells = #[.int .i64 e.kind, .string e.id, .string e.name, .string e.label, .string e.cur, .int .i64 e.day, .int .i64 e.value, e.term.val, .bool true] := rfl
 have hvl : (En.mk e true).val = .agg #[.int .i64 e.kind, .string e.id, .string e.name, .string e.label, .string e.cur, .int .i64 e.day, .int .i64 e.value, e.term.val, .bool true] := rfl
 obtain ⟨f0, f1, f2, f3, f4, f5, f6, f7, f8⟩ := Blk.ens (x := En.mk e true) hb0
 dsimp only at f0 f1 f2 f3 f4 f5 f6 f7 f8
 rw [hck] at hb0 hbA f0 f1 f2 f3 f4 f5 f6 f7 f8
 rw [hvl]
 clear hck hvl
 obtain ⟨W1, hW1⟩ : ∃ W1, w.alloc (.cells #[.int .i64 e.kind, .string e.id, .string e.name, .string e.label, .string e.cur, .int .i64 e.day, .int .i64 e.value, e.term.val, .bool true] 59) = W1 := ⟨_, rfl⟩
 rw [hW1] at f0 f1 f2 f3 f4 f5 f6 f7 f8 hbA hb0
 unfold RetPk at hpe
 unfold Ev.val at hpe
 have HT := Lib.hid ht; have HW1 := Lib.hid hW1; have HPE := Lib.hid hpe; have HB0 := Lib.hid hb0; have HBA := Lib.hid hbA
 clear hW1 hpe hb0 hbA ht
 have hbs := fun (y : Int) (W : World) => bs_u8 y W
 by_cases hz : e.check = 0
 ·have HP : Hid ((En.mk e true).pack = 1 :: e.pack) := by show _ = _; unfold En.pack Ev.pack; rw [if_pos hz, if_pos hz]; rfl
  rw [hz] at HPE ⊢
  rw [HP.out]
  clear hz HP
  generalize e.pack = l at *
  have HPL := Lib.hid hpl
  clear hpl
  go_enter Tryz.func20, Tryz.ntmps20
  go_upto_region 1 with fail
  rw [HW1.out]
  go_wp2_with fail
  refine (HPE.out _ (HT.out.below HBA.out)).mono ?_
  rintro en w2 ⟨vb, rfl, hOb, hb2⟩
  obtain ⟨Ab, cb, rfl, hRb, -, -⟩ := hOb.read
  have hk2 := HB0.out.below hb2
  have hB2 := bl_step hb2 HBA.out
  clear f0 f1 f2 f3 f4 f5 f6 f7 f8
  have f8 : w2.cell? ⟨w.heap.size, 8, none⟩ = some (.bool true) := hk2.cell 8
  have HRb := Lib.hid hRb; have HB2 := Lib.hid hB2
  clear hRb hB2 hk2 hOb hb2
  go_upto_region 5 with fail
  have hO0 : Own w (w2.alloc (.cells #[.int .u8 1] 5)) 5 1 (.slice (some ⟨w2.heap.size, 0, none⟩) 1 1) 1 [.int .u8 1] := Own.of_blk (w0 := w) (Blk.new w2 #[.int .u8 1] 5) (xs := [.int .u8 1]) HB2.out.size rfl (by show 1 ≤ maxLen; decide)
  have HO0 := Lib.hid hO0
  clear hO0
  have hR3 := HRb.out.below (bl_alloc (bl_refl w2) (.cells #[.int .u8 1] 5))
  have HR3 := Lib.hid hR3
  clear hR3
  have hpl := HPL.out
  go_wp2_with (at_builtin; refine append_any (w0 := w) rfl _ _ 51 5 _ 1 1 rfl Tryz.underlying51 info_u8 rfl (by decide) _ 1 _ Ab _ cb _ HO0.out (bl_alloc HB2.out _) HR3.out rfl rfl (by rw [byts_length, Nat.mul_one]) (byts_one _) (by omega) (by omega) ?_; intro v1 w6 HO6 HB6 HG6)
  go_ret2
  exact RetPk.of rfl (by rw [List.length_cons]; omega) HO6 HB6
 ·have HP : Hid ((En.mk e true).pack = []) := by show _ = _; unfold En.pack; rw [if_neg hz]
  have hzb : (e.check != 0) = true := by simp [hz]
  rw [HP.out]
  generalize e.check = er at *
  clear hz HP
  go_enter Tryz.func20, Tryz.ntmps20
  go_upto_region 1 with fail
  rw [HW1.out]
  go_wp2_with fail
  refine (HPE.out _ (HT.out.below HBA.out)).mono ?_
  rintro en w2 ⟨vb, rfl, hOb, hb2⟩
  go_wp2_with fail
  go_ret2
  exact RetPk.of rfl rfl (Own.nil _ _ _ _) (bl_step hb2 HBA.out)
set_option maxRecDepth 100000 in
set_option maxHeartbeats 4000000 in
theorem pentry_f (e : Ev) (h : e.small) (w : World) (ht : TabOk w) :
  Calls Tryz.prog 20 #[(En.mk e false).val] w (RetPk w (En.mk e false).pack e.check) := by
 have hpe := fun W hW => pevent_calls e h W hW
 have hcc := e.term.cells_ h.ok.term
 have ho7 := e.term.one_ h.ok.term
 have hpl := e.pack_length h
 have hb0 := Blk.new w (En.mk e false).cells 59
 have hbA := bl_alloc (bl_refl w) (.cells (En.mk e false).cells 59)
 have hck : (En.mk e false).cells = #[.int .i64 e.kind, .string e.id, .string e.name, .string e.label, .string e.cur, .int .i64 e.day, .int .i64 e.value, e.term.val, .bool false] := rfl
 have hvl : (En.mk e false).val = .agg #[.int .i64 e.kind, .string e.id, .string e.name, .string e.label, .string e.cur, .int .i64 e.day, .int .i64 e.value, e.term.val, .bool false] := rfl
 obtain ⟨f0, f1, f2, f3, f4, f5, f6, f7, f8⟩ := Blk.ens (x := En.mk e false) hb0
 dsimp only at f0 f1 f2 f3 f4 f5 f6 f7 f8
 rw [hck] at hb0 hbA f0 f1 f2 f3 f4 f5 f6 f7 f8
 rw [hvl]
 clear hck hvl
 obtain ⟨W1, hW1⟩ : ∃ W1, w.alloc (.cells #[.int .i64 e.kind, .string e.id, .string e.name, .string e.label, .string e.cur, .int .i64 e.day, .int .i64 e.value, e.term.val, .bool false] 59) = W1 := ⟨_, rfl⟩
 rw [hW1] at f0 f1 f2 f3 f4 f5 f6 f7 f8 hbA hb0
 unfold RetPk at hpe
 unfold Ev.val at hpe
 have HT := Lib.hid ht; have HW1 := Lib.hid hW1; have HPE := Lib.hid hpe; have HB0 := Lib.hid hb0; have HBA := Lib.hid hbA
 clear hW1 hpe hb0 hbA ht
 have hbs := fun (y : Int) (W : World) => bs_u8 y W
 by_cases hz : e.check = 0
 ·have HP : Hid ((En.mk e false).pack = 0 :: e.pack) := by show _ = _; unfold En.pack Ev.pack; rw [if_pos hz, if_pos hz]; rfl
  rw [hz] at HPE ⊢
  rw [HP.out]
  clear hz HP
  generalize e.pack = l at *
  have HPL := Lib.hid hpl
  clear hpl
  go_enter Tryz.func20, Tryz.ntmps20
  go_upto_region 1 with fail
  rw [HW1.out]
  go_wp2_with fail
  refine (HPE.out _ (HT.out.below HBA.out)).mono ?_
  rintro en w2 ⟨vb, rfl, hOb, hb2⟩
  obtain ⟨Ab, cb, rfl, hRb, -, -⟩ := hOb.read
  have hk2 := HB0.out.below hb2
  have hB2 := bl_step hb2 HBA.out
  clear f0 f1 f2 f3 f4 f5 f6 f7 f8
  have f8 : w2.cell? ⟨w.heap.size, 8, none⟩ = some (.bool false) := hk2.cell 8
  have HRb := Lib.hid hRb; have HB2 := Lib.hid hB2
  clear hRb hB2 hk2 hOb hb2
  go_upto_region 6 with fail
  have hO0 : Own w (w2.alloc (.cells #[.int .u8 0] 5)) 5 1 (.slice (some ⟨w2.heap.size, 0, none⟩) 1 1) 1 [.int .u8 0] := Own.of_blk (w0 := w) (Blk.new w2 #[.int .u8 0] 5) (xs := [.int .u8 0]) HB2.out.size rfl (by show 1 ≤ maxLen; decide)
  have HO0 := Lib.hid hO0
  clear hO0
  have hR3 := HRb.out.below (bl_alloc (bl_refl w2) (.cells #[.int .u8 0] 5))
  have HR3 := Lib.hid hR3
  clear hR3
  have hpl := HPL.out
  go_wp2_with (at_builtin; refine append_any (w0 := w) rfl _ _ 51 5 _ 1 1 rfl Tryz.underlying51 info_u8 rfl (by decide) _ 1 _ Ab _ cb _ HO0.out (bl_alloc HB2.out _) HR3.out rfl rfl (by rw [byts_length, Nat.mul_one]) (byts_one _) (by omega) (by omega) ?_; intro v1 w6 HO6 HB6 HG6)
  go_ret2
  exact RetPk.of rfl (by rw [List.length_cons]; omega) HO6 HB6
 ·have HP : Hid ((En.mk e false).pack = []) := by show _ = _; unfold En.pack; rw [if_neg hz]
  have hzb : (e.check != 0) = true := by simp [hz]
  rw [HP.out]
  generalize e.check = er at *
  clear hz HP
  go_enter Tryz.func20, Tryz.ntmps20
  go_upto_region 1 with fail
  rw [HW1.out]
  go_wp2_with fail
  refine (HPE.out _ (HT.out.below HBA.out)).mono ?_
  rintro en w2 ⟨vb, rfl, hOb, hb2⟩
  go_wp2_with fail
  go_ret2
  exact RetPk.of rfl rfl (Own.nil _ _ _ _) (bl_step hb2 HBA.out)
theorem pentry_calls (x : En) (h : x.ev.small) (w : World) (ht : TabOk w) : Calls Tryz.prog 20 #[x.val] w (RetPk w x.pack x.ev.check) := by
 obtain ⟨e, no⟩ := x
 cases no
 ·exact pentry_f e h w ht
 ·exact pentry_t e h w ht
theorem En.pack_length (x : En) (h : x.ev.small) : x.pack.length ≤ 21000212 := by
 unfold En.pack
 split
 ·rw [List.length_cons]; have := x.ev.bytes_length h; omega
 ·simp
end Go.Proofs.YtapbkomicihkkaaGreatDoor
