/- An entry as bytes. -/
import Derived.Test.YtapbkomicihkkaaDoorPk4
namespace Go.Proofs.YtapbkomicihkkaaDoor
open Go.RowKit
set_option linter.unusedVariables false
set_option linter.unusedSimpArgs false

/-- An entry: an event, refused or not. -/
structure En where
  ev : Ev
  no : Bool
def En.cells (x : En) : Array Value := #[.int .i64 x.ev.kind, .string x.ev.id, .string x.ev.name, .string x.ev.label, .string x.ev.cur, .int .i64 x.ev.day, .int .i64 x.ev.value, x.ev.term.val, .bool x.no]
def En.val (x : En) : Value := .agg #[.int .i64 x.ev.kind, .string x.ev.id, .string x.ev.name, .string x.ev.label, .string x.ev.cur, .int .i64 x.ev.day, .int .i64 x.ev.value, x.ev.term.val, .bool x.no]
/-- An entry's bytes. -/
def En.pack (x : En) : List UInt8 := if x.ev.check = 0 then (if x.no then 1 else 0) :: x.ev.bytes else []
theorem Ev.bytes_length (e : Ev) (h : e.small) : e.bytes.length ≤ 21000211 := by
  have := e.bytes_len h 21
  rw [List.take_of_length_le (order_len e.kind)] at this
  unfold Ev.bytes
  rw [List.length_cons]; omega
theorem Ev.pack_length (e : Ev) (h : e.small) : e.pack.length ≤ 21000211 := by
  unfold Ev.pack
  split
  · exact e.bytes_length h
  · simp
theorem Blk.ens {w : World} {g : Nat} {x : En} (h : Blk w g x.cells 86) :
    w.cell? ⟨g, 0, none⟩ = some (.int .i64 x.ev.kind) ∧ w.cell? ⟨g, 1, none⟩ = some (.string x.ev.id) ∧ w.cell? ⟨g, 2, none⟩ = some (.string x.ev.name) ∧ w.cell? ⟨g, 3, none⟩ = some (.string x.ev.label) ∧ w.cell? ⟨g, 4, none⟩ = some (.string x.ev.cur) ∧
    w.cell? ⟨g, 5, none⟩ = some (.int .i64 x.ev.day) ∧ w.cell? ⟨g, 6, none⟩ = some (.int .i64 x.ev.value) ∧ w.cell? ⟨g, 7, none⟩ = some x.ev.term.val ∧ w.cell? ⟨g, 8, none⟩ = some (.bool x.no) :=
  ⟨h.cell 0, h.cell 1, h.cell 2, h.cell 3, h.cell 4, h.cell 5, h.cell 6, h.cell 7, h.cell 8⟩
set_option maxRecDepth 100000 in
set_option maxHeartbeats 4000000 in
theorem pentry_t (e : Ev) (h : e.small) (w : World) (ht : TabOk w) :
    Calls Tryd.prog 56 #[(En.mk e true).val] w (RetPk w (En.mk e true).pack e.check) := by
  have hpe := fun W hW => pevent_calls e h W hW
  have hcc := e.term.cells_ h.ok.term
  have ho7 := e.term.one_ h.ok.term
  have hpl := e.pack_length h
  have hb0 := Blk.new w (En.mk e true).cells 86
  have hbA := bl_alloc (bl_refl w) (.cells (En.mk e true).cells 86)
  have hck : (En.mk e true).cells = #[.int .i64 e.kind, .string e.id, .string e.name, .string e.label, .string e.cur, .int .i64 e.day, .int .i64 e.value, e.term.val, .bool true] := rfl
  have hvl : (En.mk e true).val = .agg #[.int .i64 e.kind, .string e.id, .string e.name, .string e.label, .string e.cur, .int .i64 e.day, .int .i64 e.value, e.term.val, .bool true] := rfl
  obtain ⟨f0, f1, f2, f3, f4, f5, f6, f7, f8⟩ := Blk.ens (x := En.mk e true) hb0
  dsimp only at f0 f1 f2 f3 f4 f5 f6 f7 f8
  rw [hck] at hb0 hbA f0 f1 f2 f3 f4 f5 f6 f7 f8
  rw [hvl]
  clear hck hvl
  obtain ⟨W1, hW1⟩ : ∃ W1, w.alloc (.cells #[.int .i64 e.kind, .string e.id, .string e.name, .string e.label, .string e.cur, .int .i64 e.day, .int .i64 e.value, e.term.val, .bool true] 86) = W1 := ⟨_, rfl⟩
  rw [hW1] at f0 f1 f2 f3 f4 f5 f6 f7 f8 hbA hb0
  unfold RetPk at hpe
  unfold Ev.val at hpe
  have HT := Lib.hid ht; have HW1 := Lib.hid hW1; have HPE := Lib.hid hpe; have HB0 := Lib.hid hb0; have HBA := Lib.hid hbA
  clear hW1 hpe hb0 hbA ht
  have hbs := fun (y : Int) (W : World) => bs_u8 y W
  by_cases hz : e.check = 0
  · have HP : Hid ((En.mk e true).pack = 1 :: e.pack) := by show _ = _; unfold En.pack Ev.pack; rw [if_pos hz, if_pos hz]; rfl
    rw [hz] at HPE ⊢
    rw [HP.out]
    clear hz HP
    generalize e.pack = l at *
    have HPL := Lib.hid hpl
    clear hpl
    go_enter Tryd.func56, Tryd.ntmps56
    go_upto_region 1 with fail
    rw [HW1.out]
    go_wp2_with fail
    refine (HPE.out _ (HT.out.below HBA.out)).mono ?_
    rintro en w2 ⟨vb, rfl, hOb, hb2⟩
    obtain ⟨Ab, cb, rfl, hRb, -, -⟩ := hOb.read
    have hk2 := HB0.out.below hb2
    have hB2 := bl_step hb2 HBA.out
    clear f0 f1 f2 f3 f4 f5 f6 f7 f8
    have f8 : w2.cell? ⟨w.heap.size, 8, none⟩ = some (.bool true) := hk2.cell 8
    have HRb := Lib.hid hRb; have HB2 := Lib.hid hB2
    clear hRb hB2 hk2 hOb hb2
    go_upto_region 5 with fail
    have hO0 : Own w (w2.alloc (.cells #[.int .u8 1] 5)) 5 1 (.slice (some ⟨w2.heap.size, 0, none⟩) 1 1) 1 [.int .u8 1] := Own.of_blk (w0 := w) (Blk.new w2 #[.int .u8 1] 5) (xs := [.int .u8 1]) HB2.out.size rfl (by show 1 ≤ maxLen; decide)
    have HO0 := Lib.hid hO0
    clear hO0
    have hR3 := HRb.out.below (bl_alloc (bl_refl w2) (.cells #[.int .u8 1] 5))
    have HR3 := Lib.hid hR3
    clear hR3
    have hpl := HPL.out
    go_wp2_with (at_builtin; refine append_any (w0 := w) rfl _ _ 74 5 _ 1 1 rfl Tryd.underlying74 info_u8 rfl (by decide) _ 1 _ Ab _ cb _ HO0.out (bl_alloc HB2.out _) HR3.out rfl rfl (by rw [byts_length, Nat.mul_one]) (byts_one _) (by omega) (by omega) ?_; intro v1 w6 HO6 HB6 HG6)
    go_ret2
    exact RetPk.of rfl (by rw [List.length_cons]; omega) HO6 HB6
  · have HP : Hid ((En.mk e true).pack = []) := by show _ = _; unfold En.pack; rw [if_neg hz]
    have hzb : (e.check != 0) = true := by simp [hz]
    rw [HP.out]
    generalize e.check = er at *
    clear hz HP
    go_enter Tryd.func56, Tryd.ntmps56
    go_upto_region 1 with fail
    rw [HW1.out]
    go_wp2_with fail
    refine (HPE.out _ (HT.out.below HBA.out)).mono ?_
    rintro en w2 ⟨vb, rfl, hOb, hb2⟩
    go_wp2_with fail
    go_ret2
    exact RetPk.of rfl rfl (Own.nil _ _ _ _) (bl_step hb2 HBA.out)
set_option maxRecDepth 100000 in
set_option maxHeartbeats 4000000 in
theorem pentry_f (e : Ev) (h : e.small) (w : World) (ht : TabOk w) :
    Calls Tryd.prog 56 #[(En.mk e false).val] w (RetPk w (En.mk e false).pack e.check) := by
  have hpe := fun W hW => pevent_calls e h W hW
  have hcc := e.term.cells_ h.ok.term
  have ho7 := e.term.one_ h.ok.term
  have hpl := e.pack_length h
  have hb0 := Blk.new w (En.mk e false).cells 86
  have hbA := bl_alloc (bl_refl w) (.cells (En.mk e false).cells 86)
  have hck : (En.mk e false).cells = #[.int .i64 e.kind, .string e.id, .string e.name, .string e.label, .string e.cur, .int .i64 e.day, .int .i64 e.value, e.term.val, .bool false] := rfl
  have hvl : (En.mk e false).val = .agg #[.int .i64 e.kind, .string e.id, .string e.name, .string e.label, .string e.cur, .int .i64 e.day, .int .i64 e.value, e.term.val, .bool false] := rfl
  obtain ⟨f0, f1, f2, f3, f4, f5, f6, f7, f8⟩ := Blk.ens (x := En.mk e false) hb0
  dsimp only at f0 f1 f2 f3 f4 f5 f6 f7 f8
  rw [hck] at hb0 hbA f0 f1 f2 f3 f4 f5 f6 f7 f8
  rw [hvl]
  clear hck hvl
  obtain ⟨W1, hW1⟩ : ∃ W1, w.alloc (.cells #[.int .i64 e.kind, .string e.id, .string e.name, .string e.label, .string e.cur, .int .i64 e.day, .int .i64 e.value, e.term.val, .bool false] 86) = W1 := ⟨_, rfl⟩
  rw [hW1] at f0 f1 f2 f3 f4 f5 f6 f7 f8 hbA hb0
  unfold RetPk at hpe
  unfold Ev.val at hpe
  have HT := Lib.hid ht; have HW1 := Lib.hid hW1; have HPE := Lib.hid hpe; have HB0 := Lib.hid hb0; have HBA := Lib.hid hbA
  clear hW1 hpe hb0 hbA ht
  have hbs := fun (y : Int) (W : World) => bs_u8 y W
  by_cases hz : e.check = 0
  · have HP : Hid ((En.mk e false).pack = 0 :: e.pack) := by show _ = _; unfold En.pack Ev.pack; rw [if_pos hz, if_pos hz]; rfl
    rw [hz] at HPE ⊢
    rw [HP.out]
    clear hz HP
    generalize e.pack = l at *
    have HPL := Lib.hid hpl
    clear hpl
    go_enter Tryd.func56, Tryd.ntmps56
    go_upto_region 1 with fail
    rw [HW1.out]
    go_wp2_with fail
    refine (HPE.out _ (HT.out.below HBA.out)).mono ?_
    rintro en w2 ⟨vb, rfl, hOb, hb2⟩
    obtain ⟨Ab, cb, rfl, hRb, -, -⟩ := hOb.read
    have hk2 := HB0.out.below hb2
    have hB2 := bl_step hb2 HBA.out
    clear f0 f1 f2 f3 f4 f5 f6 f7 f8
    have f8 : w2.cell? ⟨w.heap.size, 8, none⟩ = some (.bool false) := hk2.cell 8
    have HRb := Lib.hid hRb; have HB2 := Lib.hid hB2
    clear hRb hB2 hk2 hOb hb2
    go_upto_region 6 with fail
    have hO0 : Own w (w2.alloc (.cells #[.int .u8 0] 5)) 5 1 (.slice (some ⟨w2.heap.size, 0, none⟩) 1 1) 1 [.int .u8 0] := Own.of_blk (w0 := w) (Blk.new w2 #[.int .u8 0] 5) (xs := [.int .u8 0]) HB2.out.size rfl (by show 1 ≤ maxLen; decide)
    have HO0 := Lib.hid hO0
    clear hO0
    have hR3 := HRb.out.below (bl_alloc (bl_refl w2) (.cells #[.int .u8 0] 5))
    have HR3 := Lib.hid hR3
    clear hR3
    have hpl := HPL.out
    go_wp2_with (at_builtin; refine append_any (w0 := w) rfl _ _ 74 5 _ 1 1 rfl Tryd.underlying74 info_u8 rfl (by decide) _ 1 _ Ab _ cb _ HO0.out (bl_alloc HB2.out _) HR3.out rfl rfl (by rw [byts_length, Nat.mul_one]) (byts_one _) (by omega) (by omega) ?_; intro v1 w6 HO6 HB6 HG6)
    go_ret2
    exact RetPk.of rfl (by rw [List.length_cons]; omega) HO6 HB6
  · have HP : Hid ((En.mk e false).pack = []) := by show _ = _; unfold En.pack; rw [if_neg hz]
    have hzb : (e.check != 0) = true := by simp [hz]
    rw [HP.out]
    generalize e.check = er at *
    clear hz HP
    go_enter Tryd.func56, Tryd.ntmps56
    go_upto_region 1 with fail
    rw [HW1.out]
    go_wp2_with fail
    refine (HPE.out _ (HT.out.below HBA.out)).mono ?_
    rintro en w2 ⟨vb, rfl, hOb, hb2⟩
    go_wp2_with fail
    go_ret2
    exact RetPk.of rfl rfl (Own.nil _ _ _ _) (bl_step hb2 HBA.out)
theorem pentry_calls (x : En) (h : x.ev.small) (w : World) (ht : TabOk w) : Calls Tryd.prog 56 #[x.val] w (RetPk w x.pack x.ev.check) := by
  obtain ⟨e, no⟩ := x
  cases no
  · exact pentry_f e h w ht
  · exact pentry_t e h w ht
theorem En.pack_length (x : En) (h : x.ev.small) : x.pack.length ≤ 21000212 := by
  unfold En.pack
  split
  · rw [List.length_cons]; have := x.ev.bytes_length h; omega
  · simp
end Go.Proofs.YtapbkomicihkkaaDoor
