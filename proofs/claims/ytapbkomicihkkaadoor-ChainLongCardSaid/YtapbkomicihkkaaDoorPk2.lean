/- A field of an event, as bytes. -/
import Derived.Test.YtapbkomicihkkaaDoorPk1
import Derived.Test.YtapbkomicihkkaaDoorEvent3
import Derived.Lib.AppendStr
import Derived.Deep.DeepCutAuto
import Derived.Deep.CutBlock
namespace Go.Proofs.YtapbkomicihkkaaDoor
open Go.RowKit
set_option linter.unusedVariables false
set_option linter.unusedSimpArgs false

section
variable {P : Program} {ops : Array Oper} {rest : List Oper} {o : Oper} {a : Act} {Q : Exit → Act → World → Prop}
/-- append(v, s...), s a text. -/
theorem append_text {w0 W : World} (hgd : o.guard = none) (s x : Operand) (t u e : TypeId)
    (ho : o.op = .call { callee := .builtin .append, args := #[s, x], argTypes := #[t, u] })
    (ht : P.underlying t = some (.slice e)) (hu : P.underlying u = some .string) (hinfo : (P.info? e).map (fun i => (i.zero, i.size, i.bytes)) = some (some (.int .u8 0), 1, 1))
    (v : Value) (n : Nat) (xs : List Value) (y : ByteArray) (HO : Own w0 W e 1 v n xs) (HB : Below w0.heap.size w0 W) (hs : a.eval s = v) (hx : a.eval x = .string y)
    (hl : n + y.size ≤ 140737488355328)
    (h : ∀ v1 w1, Own w0 w1 e 1 v1 (n + y.size) (xs ++ byts y.data.toList) → Below w0.heap.size w0 w1 → W.grownBy w1 v.ownBlock → wpList P ops Q rest (a.put o.dst v1) w1) :
    wpList P ops Q (o :: rest) a W := by
  obtain ⟨i0, hi, hzz⟩ := Option.map_eq_some_iff.1 hinfo
  simp only [Prod.mk.injEq] at hzz
  obtain ⟨hz0, hz1, hz2⟩ := hzz
  refine Lib.wpList_append_own_string W hgd s x t u ho w0.heap.size e i0 ht hu hi hz0 hz1 hz2 v n xs hs HO y hx (by simp only [maxLen]; omega) hl HB.size ?_
  intro v1 w1 hown hg _
  exact h v1 w1 hown (HB.grown hg HB.size (Own.at_base HO)) hg
end
theorem u8_nat (n : Nat) : (((UInt8.ofNat n).toNat : Nat) : Int) = (n : Int) % 256 := by simp
/-- A text behind its length. -/
def rowB (s : ByteArray) : List UInt8 := UInt8.ofNat s.size :: s.data.toList
def rowW (s : ByteArray) : List UInt8 := UInt8.ofNat (s.size / 256) :: UInt8.ofNat s.size :: s.data.toList
def Ev.strOf (e : Ev) (c : UInt8) : ByteArray := if c = 73 then e.id else if c = 78 then e.name else if c = 76 then e.label else if c = 67 then e.cur else ⟨#[]⟩
/-- A field's bytes. -/
def Ev.fieldB (e : Ev) (c : UInt8) : List UInt8 := if c = 68 then beI e.day else if c = 86 then beI e.value else if c = 84 then rowW e.term.write.1 else rowB (e.strOf c)
def Ev.fieldE (e : Ev) (c : UInt8) : Int := if c = 84 then e.term.write.2 else 0
theorem bs_u8 (x : Int) (W : World) : (Instr.buildSlice 74 1 #[(0, .int .u8 x)]).run Tryd.prog W = .ok (.slice (some ⟨W.heap.size, 0, none⟩) 1 1) (W.alloc (.cells #[.int .u8 x] 5)) := by kernel_rfl
theorem bs_u82 (x y : Int) (W : World) : (Instr.buildSlice 74 2 #[(0, .int .u8 x), (1, .int .u8 y)]).run Tryd.prog W = .ok (.slice (some ⟨W.heap.size, 0, none⟩) 2 2) (W.alloc (.cells #[.int .u8 x, .int .u8 y] 5)) := by kernel_rfl
/-- It returns bytes that it made, and an error. -/
def RetPk (w : World) (l : List UInt8) (er : Int) (en : Ending) (w' : World) : Prop := ∃ v, en = .returned (.tuple #[v, .int .i64 er]) ∧ Own w w' 5 1 v l.length (byts l) ∧ Below w.heap.size w w'
theorem RetPk.of {w w' : World} {l : List UInt8} {er : Int} {v : Value} {n : Nat} {xs : List Value} (hx : byts l = xs) (hn : l.length = n) (ho : Own w w' 5 1 v n xs) (hb : Below w.heap.size w w') : RetPk w l er (.returned (.tuple #[v, .int .i64 er])) w' := by
  subst hx hn; exact ⟨v, rfl, ho, hb⟩
theorem Own.mono {w w1 w' : World} {e size n : Nat} {v : Value} {xs : List Value} (h : Own w1 w' e size v n xs) (hb : w.heap.size ≤ w1.heap.size) : Own w w' e size v n xs := by
  rcases h.2 with ⟨rfl, h2⟩ | ⟨g, cap, cur, rfl, h1, h2⟩
  · exact ⟨h.1, .inl ⟨rfl, h2⟩⟩
  · exact ⟨h.1, .inr ⟨g, cap, cur, rfl, by omega, h2⟩⟩
set_option maxRecDepth 100000 in
set_option maxHeartbeats 4000000 in
theorem pfield_I (e : Ev) (hok : e.ok) (hs : e.id.size ≤ 1000000) (w : World) :
    Calls Tryd.prog 96 #[e.val, .int .i32 73] w (RetPk w (rowB e.id) 0) := by
  have hcc := e.term.cells_ hok.term
  have ho7 := e.term.one_ hok.term
  have hb0 := Blk.new w e.cells 84
  have hbA := bl_alloc (bl_refl w) (.cells e.cells 84)
  have hev : e.val = .agg #[.int .i64 e.kind, .string e.id, .string e.name, .string e.label, .string e.cur, .int .i64 e.day, .int .i64 e.value, e.term.val] := rfl
  rw [hev]
  clear hev
  unfold Ev.cells at *
  obtain ⟨f0, f1, f2, f3, f4, f5, f6, f7⟩ := Blk.evs (e := e) hb0
  obtain ⟨W1, hW1⟩ : ∃ W1, w.alloc (.cells #[.int .i64 e.kind, .string e.id, .string e.name, .string e.label, .string e.cur, .int .i64 e.day, .int .i64 e.value, e.term.val] 84) = W1 := ⟨_, rfl⟩
  rw [hW1] at f0 f1 f2 f3 f4 f5 f6 f7 hbA
  have HW1 := Lib.hid hW1
  clear hW1 hb0
  have hbs := fun (x : Int) (W : World) => bs_u8 x W
  go_enter Tryd.func96, Tryd.ntmps96
  go_upto_region 1 with fail
  rw [HW1.out]
  go_upto_region 18 with fail
  clear f0 f1 f2 f3 f4 f5 f6 f7
  have hO0 := Own.of_blk (w0 := w) (Blk.new W1 #[.int .u8 ((e.id.size : Int) % 256)] 5) (xs := [.int .u8 ((e.id.size : Int) % 256)]) hbA.size rfl (by show 1 ≤ maxLen; decide)
  have hB0 := bl_alloc hbA (.cells #[.int .u8 ((e.id.size : Int) % 256)] 5)
  generalize e.id = st at *
  have hsw : IntKind.u8.wrap (st.size : Int) = (st.size : Int) % 256 := IntKind.wrap_u8 _
  have hlm : (st.size : Int) ≤ 1000000 := by omega
  have HO0 := Lib.hid hO0; have HB0 := Lib.hid hB0
  clear hO0 hB0
  go_wp2_with (at_builtin; refine append_text rfl _ _ 74 9 5 rfl Tryd.underlying74 Tryd.underlying9 info_u8 _ 1 _ st HO0.out HB0.out rfl rfl (by omega) ?_; intro v1 w3 HO1 HB1 HG1)
  go_ret2
  exact RetPk.of (by unfold rowB byts; simp [u8_nat]) (by unfold rowB; rw [List.length_cons, ba_len]; omega) HO1 HB1
set_option maxRecDepth 100000 in
set_option maxHeartbeats 4000000 in
theorem pfield_N (e : Ev) (hok : e.ok) (hs : e.name.size ≤ 1000000) (w : World) :
    Calls Tryd.prog 96 #[e.val, .int .i32 78] w (RetPk w (rowB e.name) 0) := by
  have hcc := e.term.cells_ hok.term
  have ho7 := e.term.one_ hok.term
  have hb0 := Blk.new w e.cells 84
  have hbA := bl_alloc (bl_refl w) (.cells e.cells 84)
  have hev : e.val = .agg #[.int .i64 e.kind, .string e.id, .string e.name, .string e.label, .string e.cur, .int .i64 e.day, .int .i64 e.value, e.term.val] := rfl
  rw [hev]
  clear hev
  unfold Ev.cells at *
  obtain ⟨f0, f1, f2, f3, f4, f5, f6, f7⟩ := Blk.evs (e := e) hb0
  obtain ⟨W1, hW1⟩ : ∃ W1, w.alloc (.cells #[.int .i64 e.kind, .string e.id, .string e.name, .string e.label, .string e.cur, .int .i64 e.day, .int .i64 e.value, e.term.val] 84) = W1 := ⟨_, rfl⟩
  rw [hW1] at f0 f1 f2 f3 f4 f5 f6 f7 hbA
  have HW1 := Lib.hid hW1
  clear hW1 hb0
  have hbs := fun (x : Int) (W : World) => bs_u8 x W
  go_enter Tryd.func96, Tryd.ntmps96
  go_upto_region 1 with fail
  rw [HW1.out]
  go_upto_region 18 with fail
  clear f0 f1 f2 f3 f4 f5 f6 f7
  have hO0 := Own.of_blk (w0 := w) (Blk.new W1 #[.int .u8 ((e.name.size : Int) % 256)] 5) (xs := [.int .u8 ((e.name.size : Int) % 256)]) hbA.size rfl (by show 1 ≤ maxLen; decide)
  have hB0 := bl_alloc hbA (.cells #[.int .u8 ((e.name.size : Int) % 256)] 5)
  generalize e.name = st at *
  have hsw : IntKind.u8.wrap (st.size : Int) = (st.size : Int) % 256 := IntKind.wrap_u8 _
  have hlm : (st.size : Int) ≤ 1000000 := by omega
  have HO0 := Lib.hid hO0; have HB0 := Lib.hid hB0
  clear hO0 hB0
  go_wp2_with (at_builtin; refine append_text rfl _ _ 74 9 5 rfl Tryd.underlying74 Tryd.underlying9 info_u8 _ 1 _ st HO0.out HB0.out rfl rfl (by omega) ?_; intro v1 w3 HO1 HB1 HG1)
  go_ret2
  exact RetPk.of (by unfold rowB byts; simp [u8_nat]) (by unfold rowB; rw [List.length_cons, ba_len]; omega) HO1 HB1
set_option maxRecDepth 100000 in
set_option maxHeartbeats 4000000 in
theorem pfield_L (e : Ev) (hok : e.ok) (hs : e.label.size ≤ 1000000) (w : World) :
    Calls Tryd.prog 96 #[e.val, .int .i32 76] w (RetPk w (rowB e.label) 0) := by
  have hcc := e.term.cells_ hok.term
  have ho7 := e.term.one_ hok.term
  have hb0 := Blk.new w e.cells 84
  have hbA := bl_alloc (bl_refl w) (.cells e.cells 84)
  have hev : e.val = .agg #[.int .i64 e.kind, .string e.id, .string e.name, .string e.label, .string e.cur, .int .i64 e.day, .int .i64 e.value, e.term.val] := rfl
  rw [hev]
  clear hev
  unfold Ev.cells at *
  obtain ⟨f0, f1, f2, f3, f4, f5, f6, f7⟩ := Blk.evs (e := e) hb0
  obtain ⟨W1, hW1⟩ : ∃ W1, w.alloc (.cells #[.int .i64 e.kind, .string e.id, .string e.name, .string e.label, .string e.cur, .int .i64 e.day, .int .i64 e.value, e.term.val] 84) = W1 := ⟨_, rfl⟩
  rw [hW1] at f0 f1 f2 f3 f4 f5 f6 f7 hbA
  have HW1 := Lib.hid hW1
  clear hW1 hb0
  have hbs := fun (x : Int) (W : World) => bs_u8 x W
  go_enter Tryd.func96, Tryd.ntmps96
  go_upto_region 1 with fail
  rw [HW1.out]
  go_upto_region 18 with fail
  clear f0 f1 f2 f3 f4 f5 f6 f7
  have hO0 := Own.of_blk (w0 := w) (Blk.new W1 #[.int .u8 ((e.label.size : Int) % 256)] 5) (xs := [.int .u8 ((e.label.size : Int) % 256)]) hbA.size rfl (by show 1 ≤ maxLen; decide)
  have hB0 := bl_alloc hbA (.cells #[.int .u8 ((e.label.size : Int) % 256)] 5)
  generalize e.label = st at *
  have hsw : IntKind.u8.wrap (st.size : Int) = (st.size : Int) % 256 := IntKind.wrap_u8 _
  have hlm : (st.size : Int) ≤ 1000000 := by omega
  have HO0 := Lib.hid hO0; have HB0 := Lib.hid hB0
  clear hO0 hB0
  go_wp2_with (at_builtin; refine append_text rfl _ _ 74 9 5 rfl Tryd.underlying74 Tryd.underlying9 info_u8 _ 1 _ st HO0.out HB0.out rfl rfl (by omega) ?_; intro v1 w3 HO1 HB1 HG1)
  go_ret2
  exact RetPk.of (by unfold rowB byts; simp [u8_nat]) (by unfold rowB; rw [List.length_cons, ba_len]; omega) HO1 HB1
set_option maxRecDepth 100000 in
set_option maxHeartbeats 4000000 in
theorem pfield_C (e : Ev) (hok : e.ok) (hs : e.cur.size ≤ 1000000) (w : World) :
    Calls Tryd.prog 96 #[e.val, .int .i32 67] w (RetPk w (rowB e.cur) 0) := by
  have hcc := e.term.cells_ hok.term
  have ho7 := e.term.one_ hok.term
  have hb0 := Blk.new w e.cells 84
  have hbA := bl_alloc (bl_refl w) (.cells e.cells 84)
  have hev : e.val = .agg #[.int .i64 e.kind, .string e.id, .string e.name, .string e.label, .string e.cur, .int .i64 e.day, .int .i64 e.value, e.term.val] := rfl
  rw [hev]
  clear hev
  unfold Ev.cells at *
  obtain ⟨f0, f1, f2, f3, f4, f5, f6, f7⟩ := Blk.evs (e := e) hb0
  obtain ⟨W1, hW1⟩ : ∃ W1, w.alloc (.cells #[.int .i64 e.kind, .string e.id, .string e.name, .string e.label, .string e.cur, .int .i64 e.day, .int .i64 e.value, e.term.val] 84) = W1 := ⟨_, rfl⟩
  rw [hW1] at f0 f1 f2 f3 f4 f5 f6 f7 hbA
  have HW1 := Lib.hid hW1
  clear hW1 hb0
  have hbs := fun (x : Int) (W : World) => bs_u8 x W
  go_enter Tryd.func96, Tryd.ntmps96
  go_upto_region 1 with fail
  rw [HW1.out]
  go_upto_region 18 with fail
  clear f0 f1 f2 f3 f4 f5 f6 f7
  have hO0 := Own.of_blk (w0 := w) (Blk.new W1 #[.int .u8 ((e.cur.size : Int) % 256)] 5) (xs := [.int .u8 ((e.cur.size : Int) % 256)]) hbA.size rfl (by show 1 ≤ maxLen; decide)
  have hB0 := bl_alloc hbA (.cells #[.int .u8 ((e.cur.size : Int) % 256)] 5)
  generalize e.cur = st at *
  have hsw : IntKind.u8.wrap (st.size : Int) = (st.size : Int) % 256 := IntKind.wrap_u8 _
  have hlm : (st.size : Int) ≤ 1000000 := by omega
  have HO0 := Lib.hid hO0; have HB0 := Lib.hid hB0
  clear hO0 hB0
  go_wp2_with (at_builtin; refine append_text rfl _ _ 74 9 5 rfl Tryd.underlying74 Tryd.underlying9 info_u8 _ 1 _ st HO0.out HB0.out rfl rfl (by omega) ?_; intro v1 w3 HO1 HB1 HG1)
  go_ret2
  exact RetPk.of (by unfold rowB byts; simp [u8_nat]) (by unfold rowB; rw [List.length_cons, ba_len]; omega) HO1 HB1
set_option maxRecDepth 100000 in
set_option maxHeartbeats 4000000 in
theorem pfield_D (e : Ev) (hok : e.ok) (w : World) :
    Calls Tryd.prog 96 #[e.val, .int .i32 68] w (RetPk w (beI e.day) 0) := by
  have hpn := fun W => pnum_calls e.day (by have := hok.day; unfold IsInt64 at this; exact this) W
  unfold RetOwn at hpn
  have hcc := e.term.cells_ hok.term
  have ho7 := e.term.one_ hok.term
  have hb0 := Blk.new w e.cells 84
  have hbA := bl_alloc (bl_refl w) (.cells e.cells 84)
  have hev : e.val = .agg #[.int .i64 e.kind, .string e.id, .string e.name, .string e.label, .string e.cur, .int .i64 e.day, .int .i64 e.value, e.term.val] := rfl
  rw [hev]
  clear hev
  unfold Ev.cells at *
  obtain ⟨f0, f1, f2, f3, f4, f5, f6, f7⟩ := Blk.evs (e := e) hb0
  obtain ⟨W1, hW1⟩ : ∃ W1, w.alloc (.cells #[.int .i64 e.kind, .string e.id, .string e.name, .string e.label, .string e.cur, .int .i64 e.day, .int .i64 e.value, e.term.val] 84) = W1 := ⟨_, rfl⟩
  rw [hW1] at f0 f1 f2 f3 f4 f5 f6 f7 hbA
  have HW1 := Lib.hid hW1
  clear hW1 hb0
  have HPN := Lib.hid hpn
  clear hpn
  go_enter Tryd.func96, Tryd.ntmps96
  go_upto_region 1 with fail
  rw [HW1.out]
  go_wp2_with fail
  refine (HPN.out _).mono ?_
  rintro en w2 ⟨v, rfl, hO, hB⟩
  go_wp2_with fail
  go_ret2
  exact RetPk.of rfl (beI_length _) (hO.mono hbA.size) (bl_step hB hbA)
set_option maxRecDepth 100000 in
set_option maxHeartbeats 4000000 in
theorem pfield_V (e : Ev) (hok : e.ok) (w : World) :
    Calls Tryd.prog 96 #[e.val, .int .i32 86] w (RetPk w (beI e.value) 0) := by
  have hpn := fun W => pnum_calls e.value (by have := hok.value; unfold IsInt64 at this; exact this) W
  unfold RetOwn at hpn
  have hcc := e.term.cells_ hok.term
  have ho7 := e.term.one_ hok.term
  have hb0 := Blk.new w e.cells 84
  have hbA := bl_alloc (bl_refl w) (.cells e.cells 84)
  have hev : e.val = .agg #[.int .i64 e.kind, .string e.id, .string e.name, .string e.label, .string e.cur, .int .i64 e.day, .int .i64 e.value, e.term.val] := rfl
  rw [hev]
  clear hev
  unfold Ev.cells at *
  obtain ⟨f0, f1, f2, f3, f4, f5, f6, f7⟩ := Blk.evs (e := e) hb0
  obtain ⟨W1, hW1⟩ : ∃ W1, w.alloc (.cells #[.int .i64 e.kind, .string e.id, .string e.name, .string e.label, .string e.cur, .int .i64 e.day, .int .i64 e.value, e.term.val] 84) = W1 := ⟨_, rfl⟩
  rw [hW1] at f0 f1 f2 f3 f4 f5 f6 f7 hbA
  have HW1 := Lib.hid hW1
  clear hW1 hb0
  have HPN := Lib.hid hpn
  clear hpn
  go_enter Tryd.func96, Tryd.ntmps96
  go_upto_region 1 with fail
  rw [HW1.out]
  go_wp2_with fail
  refine (HPN.out _).mono ?_
  rintro en w2 ⟨v, rfl, hO, hB⟩
  go_wp2_with fail
  go_ret2
  exact RetPk.of rfl (beI_length _) (hO.mono hbA.size) (bl_step hB hbA)
set_option maxRecDepth 100000 in
set_option maxHeartbeats 4000000 in
theorem pfield_T (e : Ev) (hok : e.ok) (hm : e.term.meas ≤ 1099511627776) (w : World) (ht : TabOk w) :
    Calls Tryd.prog 96 #[e.val, .int .i32 84] w (RetPk w (rowW e.term.write.1) e.term.write.2) := by
  have hsz : e.term.write.1.size ≤ 1000 := by
    unfold Tm.write
    split
    · unfold toldS; split
      · decide
      · show e.term.text.size ≤ 1000; omega
    · show (⟨#[]⟩ : ByteArray).size ≤ 1000; decide
  have hcc := e.term.cells_ hok.term
  have ho7 := e.term.one_ hok.term
  have hb0 := Blk.new w e.cells 84
  have hbA := bl_alloc (bl_refl w) (.cells e.cells 84)
  have hev : e.val = .agg #[.int .i64 e.kind, .string e.id, .string e.name, .string e.label, .string e.cur, .int .i64 e.day, .int .i64 e.value, e.term.val] := rfl
  rw [hev]
  clear hev
  unfold Ev.cells at *
  obtain ⟨f0, f1, f2, f3, f4, f5, f6, f7⟩ := Blk.evs (e := e) hb0
  obtain ⟨W1, hW1⟩ : ∃ W1, w.alloc (.cells #[.int .i64 e.kind, .string e.id, .string e.name, .string e.label, .string e.cur, .int .i64 e.day, .int .i64 e.value, e.term.val] 84) = W1 := ⟨_, rfl⟩
  rw [hW1] at f0 f1 f2 f3 f4 f5 f6 f7 hbA
  have HW1 := Lib.hid hW1
  clear hW1 hb0
  have htw := twrite_calls e.term hok.term hm W1 (ht.below hbA)
  unfold pairS at htw
  generalize e.term.write.1 = st at *
  generalize e.term.write.2 = er at *
  have HTW := Lib.hid htw
  clear htw
  have hsh := fun W => run_shr Tryd.prog .i64 .u64 (st.size : Int) 8 (by omega) W
  have hse : (st.size : Int) / 2 ^ 8 = ((st.size / 256 : Nat) : Int) := by omega
  go_enter Tryd.func96, Tryd.ntmps96
  go_upto_region 1 with fail
  rw [HW1.out]
  go_wp2_with fail
  refine (HTW.out).mono ?_
  rintro en w2 ⟨rfl, hb2⟩
  have hB2 := bl_step hb2 hbA
  clear f0 f1 f2 f3 f4 f5 f6 f7
  have hO0 := Own.of_blk (w0 := w) (Blk.new w2 #[.int .u8 ((st.size : Int) / 256), .int .u8 ((st.size : Int) % 256)] 5) (xs := [.int .u8 ((st.size : Int) / 256), .int .u8 ((st.size : Int) % 256)]) hB2.size rfl (by show 2 ≤ maxLen; decide)
  have hB0 := bl_alloc hB2 (.cells #[.int .u8 ((st.size : Int) / 256), .int .u8 ((st.size : Int) % 256)] 5)
  have hsw : IntKind.u8.wrap (st.size : Int) = (st.size : Int) % 256 := IntKind.wrap_u8 _
  have HO0 := Lib.hid hO0; have HB0 := Lib.hid hB0
  clear hO0 hB0
  have hbs := fun (x y : Int) (W : World) => bs_u82 x y W
  go_wp2_with (at_builtin; refine append_text rfl _ _ 74 9 5 rfl Tryd.underlying74 Tryd.underlying9 info_u8 _ 2 _ st HO0.out HB0.out rfl rfl (by omega) ?_; intro v1 w3 HO1 HB1 HG1)
  go_ret2
  exact RetPk.of (by unfold rowW byts; simp only [List.map_cons, List.cons_append, List.nil_append, u8_nat, List.cons.injEq, Value.int.injEq, true_and]; exact ⟨by omega, trivial⟩) (by unfold rowW; rw [List.length_cons, List.length_cons, ba_len]; omega) HO1 HB1
end Go.Proofs.YtapbkomicihkkaaDoor
