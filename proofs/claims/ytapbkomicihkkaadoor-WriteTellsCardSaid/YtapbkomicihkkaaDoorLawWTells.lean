/- WriteTells: the walk. -/
import Derived.Test.YtapbkomicihkkaaDoorSome45
namespace Go.Proofs.YtapbkomicihkkaaDoor
open Go.RowKit
set_option linter.unusedVariables false
set_option linter.unusedSimpArgs false

set_option maxRecDepth 100000 in
set_option maxHeartbeats 8000000 in
theorem writeTells_calls (w : World) (vN vW : Value) (hp : PlanAt w vN vW) (at_ what v : Int) (s : ByteArray) (odd : Int) (hat : -9223372036854775808 ≤ at_ ∧ at_ ≤ 9223372036854775807) (hwh : -9223372036854775808 ≤ what ∧ what ≤ 9223372036854775807) (hv : -9223372036854775808 ≤ v ∧ v ≤ 9223372036854775807) (hss : s.size ≤ 9223372036854775807) (ho : -9223372036854775808 ≤ odd ∧ odd ≤ 9223372036854775807) (ht : TabOk w) :
    Calls Tryd.prog 4 #[.agg #[vN, vW], .int .i64 at_, .int .i64 what, .int .i64 v, .string s, .int .i64 odd] w fun e w' => e = .returned (.bool true) ∧ Below w.heap.size w w' := by
  obtain ⟨⟨A, n, c, xs, rfl, hn⟩, ⟨A', n', c', xs', rfl, hn'⟩⟩ := id hp
  clear hn hn'
  obtain ⟨W1, hW1⟩ : ∃ W1, w.alloc (.cells #[.slice A n c, .slice A' n' c'] 25) = W1 := ⟨_, rfl⟩
  have hb1 := bl_alloc (bl_refl w) (.cells #[.slice A n c, .slice A' n' c'] 25)
  have hkP := Blk.new w #[.slice A n c, .slice A' n' c'] 25
  rw [hW1] at hb1 hkP
  have h5 := some5_calls W1 _ _ (hp.below hb1) at_ what v s odd hat hwh hv hss ho
  have h4 := fun W hW => some4_calls W _ _ (hp.below hW) at_ what v s odd hat hwh hv hss ho
  unfold RetC5 at h5
  unfold RetC4 at h4
  have p0 := hkP.cell 0
  have p1 := hkP.cell 1
  have HW1 := Lib.hid hW1; have H5 := Lib.hid h5; have H4 := Lib.hid h4; have HB1 := Lib.hid hb1; have HKP := Lib.hid hkP; have HTB := Lib.hid ht
  clear hW1 h5 h4 hb1 hkP ht hp hat hwh hv hss ho
  go_enter Tryd.func4, Tryd.ntmps4
  go_upto_region 1 with fail
  rw [HW1.out]
  go_wp2_with fail
  refine (H5.out).mono ?_
  rintro en w2 ⟨o, vo, rfl, hT, hn, hb2⟩
  obtain ⟨A5, c5, cs5, rfl, -, -⟩ := hT.open_
  have hti := o.isI hn.ok
  have hpk2 := HKP.out.below hb2
  clear p0 p1
  have p0 := hpk2.cell 0
  have p1 := hpk2.cell 1
  have HT2 := Lib.hid hT; have HN := Lib.hid hn; have HB2 := Lib.hid (bl_step hb2 HB1.out); have HKP2 := Lib.hid hpk2
  clear hT hn hb2 hpk2 H5 HKP HB1
  go_upto_region 2 with fail
  obtain ⟨q, hq⟩ : ∃ q, w2.heap.size = q := ⟨_, rfl⟩
  have hk3 := Blk_new w2 #[.int .i64 o.tr.kind, .string o.tr.s, .int .i64 o.tr.n, .slice A5 o.tr.ks.length c5] 30 q hq.symm
  have hb3 := bl_alloc (bl_refl w2) (.cells #[.int .i64 o.tr.kind, .string o.tr.s, .int .i64 o.tr.n, .slice A5 o.tr.ks.length c5] 30)
  obtain ⟨W3, hW3⟩ : ∃ W3, w2.alloc (.cells #[.int .i64 o.tr.kind, .string o.tr.s, .int .i64 o.tr.n, .slice A5 o.tr.ks.length c5] 30) = W3 := ⟨_, rfl⟩
  rw [hW3] at hk3 hb3 ⊢
  rw [hq]
  have hpk3 := HKP2.out.below hb3
  clear p0 p1
  have p0 := hpk3.cell 0
  have p1 := hpk3.cell 1
  have HK3 := Lib.hid hk3; have HT3 := Lib.hid (HT2.out.below hb3); have HB3 := Lib.hid (bl_step hb3 HB2.out)
  clear hW3 hk3 hb3 hpk3 HKP2 HT2 HB2 hq
  go_wp2_with fail
  refine (H4.out _ HB3.out).mono ?_
  rintro en w4 ⟨ob, vb, rfl, hT, hn, hb4⟩
  obtain ⟨A6, c6, cs6, rfl, -, -⟩ := hT.open_
  have htb := ob.isI hn.ok
  have HT4 := Lib.hid hT; have HNB := Lib.hid hn; have HB4 := Lib.hid (bl_step hb4 HB3.out); have HK4 := Lib.hid (HK3.out.below hb4); have HTO4 := Lib.hid (HT3.out.below hb4)
  clear hT hn hb4 H4 HK3 HT3 HB3 p0 p1
  go_upto_region 3 with fail
  obtain ⟨q5, hq5⟩ : ∃ q, w4.heap.size = q := ⟨_, rfl⟩
  have hk5 := Blk_new w4 #[.int .i64 ob.tr.kind, .string ob.tr.s, .int .i64 ob.tr.n, .slice A6 ob.tr.ks.length c6] 30 q5 hq5.symm
  have hb5 := bl_alloc (bl_refl w4) (.cells #[.int .i64 ob.tr.kind, .string ob.tr.s, .int .i64 ob.tr.n, .slice A6 ob.tr.ks.length c6] 30)
  obtain ⟨W5, hW5⟩ : ∃ W5, w4.alloc (.cells #[.int .i64 ob.tr.kind, .string ob.tr.s, .int .i64 ob.tr.n, .slice A6 ob.tr.ks.length c6] 30) = W5 := ⟨_, rfl⟩
  rw [hW5] at hk5 hb5 ⊢
  rw [hq5]
  have HK5 := Lib.hid (HK4.out.below hb5); have HKB5 := Lib.hid hk5; have HTO5 := Lib.hid (HTO4.out.below hb5); have HTB5 := Lib.hid (HT4.out.below hb5); have HB5 := Lib.hid (bl_step hb5 HB4.out)
  clear hW5 hk5 hb5 HK4 HTO4 HT4 HB4 hq5
  have htw := fun W hW => twrite_calls o HN.out.ok (by have := HN.out.meas; omega) W hW
  have how := fun W hW => owrite_calls ob HNB.out.ok (by have := HNB.out.meas; omega) W hW
  have hrw := fun x W v hT => rwrite_calls o.tr (by have := HN.out.size; omega) HN.out.tr false x W v hT
  have hrb := fun x W v hT => rwrite_calls ob.tr (by have := HNB.out.size; omega) HNB.out.tr true x W v hT
  rw [o.tr_write] at hrw
  rw [ob.tr_write] at hrb
  generalize o.write.1 = s1 at *
  generalize o.write.2 = e1 at *
  generalize ob.write.1 = s2 at *
  generalize ob.write.2 = e2 at *
  have HTW := Lib.hid htw; have HOW := Lib.hid how; have HRW := Lib.hid hrw; have HRB := Lib.hid hrb
  clear htw how hrw hrb HN HNB
  go_wp2_with fail
  refine (HTW.out _ (HTB.out.below HB5.out)).mono ?_
  rintro en w6 ⟨rfl, hb6⟩
  have HB6 := Lib.hid hb6
  clear hb6
  obtain ⟨⟨k0, k1, k2, k3⟩, -⟩ := (HK5.out.below HB6.out).four
  go_wp2_with fail
  refine (HRW.out _ _ _ (HTO5.out.below HB6.out)).mono ?_
  rintro en w7 ⟨rfl, hb7⟩
  have HB7 := Lib.hid (bl_step hb7 HB6.out)
  clear hb7 k0 k1 k2 k3
  go_wp2_with fail
  refine (HOW.out _ (HTB.out.below (bl_step HB7.out HB5.out))).mono ?_
  rintro en w8 ⟨rfl, hb8⟩
  have HB8 := Lib.hid (bl_step hb8 HB7.out)
  clear hb8
  obtain ⟨⟨k0, k1, k2, k3⟩, -⟩ := (HKB5.out.below HB8.out).four
  go_wp2_with fail
  refine (HRB.out _ _ _ (HTB5.out.below HB8.out)).mono ?_
  rintro en w9 ⟨rfl, hb9⟩
  have HB9 := Lib.hid (bl_step hb9 HB8.out)
  clear hb9 k0 k1 k2 k3
  go_wp2_with fail
  refine (wakes6_calls _ (HTB.out.below (bl_step HB9.out HB5.out))).mono ?_
  rintro en wA ⟨rfl, hbA⟩
  go_wp2_with fail
  go_ret
  exact ⟨rfl, bl_step hbA (bl_step HB9.out HB5.out)⟩
end Go.Proofs.YtapbkomicihkkaaDoor
