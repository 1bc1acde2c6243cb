/- The walk of EventFields. -/
import Derived.Test.YtgcglongjjpkbaaDoorEvPure
import Derived.RegionTactic
import Derived.BigRegion
namespace Go.Proofs.YtgcglongjjpkbaaDoor
open Go.RowKit

set_option maxRecDepth 100000 in
set_option maxHeartbeats 4000000 in
theorem eventFields_calls (k f v : Int) (hk : IsInt64 k) (hf : IsInt64 f) (hv : IsInt64 v) (w : World) (ht : TabOk w) :
    Calls Tryd.prog 8 #[.int .i64 k, .int .i64 f, .int .i64 v] w fun e w' => e = .returned (.bool true) ∧ Below w.heap.size w w' := by
  unfold IsInt64 at hk hf hv
  have hw1 := within_calls k 6 w (by omega) (by omega)
  have hw2 := fun w => within_calls f 7 w (by omega) (by omega)
  have hw3 := fun w => within_calls v 100 w (by omega) (by omega)
  obtain ⟨m, hm⟩ : ∃ m : Nat, k % 6 = (m : Int) := ⟨(k % 6).toNat, by omega⟩
  obtain ⟨q, hq⟩ : ∃ q : Nat, f % 7 = (q : Int) := ⟨(f % 7).toNat, by omega⟩
  obtain ⟨u, hu⟩ : ∃ u : Nat, v % 100 = (u : Int) := ⟨(v % 100).toNat, by omega⟩
  have hm6 : m < 6 := by omega
  have hq7 : q < 7 := by omega
  have hu1 : u < 100 := by omega
  rw [hm] at hw1
  rw [hq] at hw2
  rw [hu] at hw3
  clear hm hq hu hk hf hv
  have HW2 := Lib.hid hw2
  have HW3 := Lib.hid hw3
  clear hw2 hw3
  go_enter Tryd.func8, Tryd.ntmps8
  go_wp2_with fail
  refine (hw1).mono ?_
  rintro e w1 ⟨rfl, rfl⟩
  clear hw1
  have hl0 : (0 : Int) ≤ (m : Int) := by omega
  have hl1 : (m : Int) < 6 := by omega
  go_upto_region 2 with fail
  go_cut [7] (fun s7 wx => ∃ g7, s7 = .pointer (some ⟨g7, 0, none⟩) ∧ w1.heap.size ≤ g7 ∧ Blk wx g7 (goodN m).cells 83 ∧ Below w1.heap.size w1 wx)
  case first =>
    obtain ⟨W2, hW2⟩ : ∃ W2, w1.alloc (.cells goodA 83) = W2 := ⟨_, rfl⟩
    have hk2 : Blk W2 w1.heap.size goodA 83 := by rw [← hW2]; exact Blk.new _ _ _
    have HB2 := Lib.hid (show Below w1.heap.size w1 W2 by rw [← hW2]; exact bl_alloc (bl_refl _) _)
    obtain ⟨f0, f1, f2, f3, f4, f5, f6, f7⟩ := goodA_at m hm6
    rw [← hk2.cell] at f0 f1 f2 f3 f4 f5 f6 f7
    have HS2 : W2.heap.size = w1.heap.size + 1 := by rw [← hW2]; simp
    have HSS := Lib.hid HS2
    unfold goodA at hW2
    have HW := Lib.hid hW2
    clear hW2 hk2 HS2
    have hcc := (goodN m).term.cells_ (goodN_ok m).term
    have ho7 := (goodN m).term.one_ (goodN_ok m).term
    have hE : (goodN m).cells = #[.int .i64 (goodN m).kind, .string (goodN m).id, .string (goodN m).name, .string (goodN m).label, .string (goodN m).cur, .int .i64 (goodN m).day, .int .i64 (goodN m).value, (goodN m).term.val] := rfl
    have hto := (goodN_ok m).term
    generalize goodN m = G at *
    go_wp2_with (rw [HW.out])
    go_meet
    rw [hE]
    exact ⟨_, rfl, by rw [HSS.out]; omega, Blk.new _ _ _, bl_alloc HB2.out _⟩
  case rest =>
    obtain ⟨g7, rfl, hg7, hb7, hbl⟩ := hcut
    obtain ⟨hgc, hgs, hgk, hgm⟩ := goodN_check m hm6
    have hok := goodN_ok m
    have hE : Hid ((goodN m).cells = #[.int .i64 (goodN m).kind, .string (goodN m).id, .string (goodN m).name, .string (goodN m).label, .string (goodN m).cur, .int .i64 (goodN m).day, .int .i64 (goodN m).value, (goodN m).term.val]) := rfl
    obtain ⟨f0, f1, f2, f3, f4, f5, f6, f7⟩ := Blk.evs (e := goodN m) hb7
    have hck := echeck_calls (goodN m) hok (by omega) wc (ht.below hbl)
    have hsm := fun w => esame_calls (goodN m) (goodN m) hok hok w
    rw [hgc] at hck
    rw [hgs] at hsm
    unfold Ev.val at hck hsm
    have HK := Lib.hid hgk
    have HSM := Lib.hid hsm
    clear hgc hgs hgk hsm
    generalize hG : goodN m = G at *
    have HG := Lib.hid hG
    clear hG
    go_wp2_with fail
    refine (hck).mono ?_
    rintro e w3 ⟨rfl, hb3⟩
    clear hck
    have hb7b := hb7.below hb3
    clear f0 f1 f2 f3 f4 f5 f6 f7
    obtain ⟨f0, f1, f2, f3, f4, f5, f6, f7⟩ := Blk.evs (e := G) hb7b
    go_wp2_with fail
    refine (HSM.out _).mono ?_
    rintro e w4 ⟨rfl, hb4⟩
    have hb7c := hb7b.below hb4
    have hbl4 := bl_step hb4 (bl_step hb3 hbl)
    clear f0 f1 f2 f3 f4 f5 f6 f7 hb7 hb7b hb3 hb4 hbl
    go_upto_region 5 with fail
    go_cut [8] (fun s8 wx => s8 = .int .u8 (fieldC q).toNat ∧ wx = w4)
    case first =>
      match q, hq7 with
      | 0, _ | 1, _ | 2, _ | 3, _ | 4, _ | 5, _ | 6, _ =>
        go_wp2_with fail
        refine (HW2.out _).mono ?_
        rintro e w5 ⟨rfl, rfl⟩
        go_wp2_with fail
        go_meet
        exact ⟨rfl, rfl⟩
      | _ + 7, h => omega
    case rest =>
      obtain ⟨rfl, rfl⟩ := hcut
      obtain ⟨f0, f1, f2, f3, f4, f5, f6, f7⟩ := Blk.evs (e := G) hb7c
      go_upto_region 6 with fail
      go_cut [9, 10] (fun s9 s10 wx => ∃ g9 g10, s9 = .pointer (some ⟨g9, 0, none⟩) ∧ s10 = .pointer (some ⟨g10, 0, none⟩) ∧ g9 ≠ g10 ∧ g9 ≠ g7 ∧ g10 ≠ g7 ∧ w1.heap.size ≤ g9 ∧ w1.heap.size ≤ g10 ∧ Blk wx g9 G.cells 83 ∧ Blk wx g10 G.cells 83 ∧ Blk wx g7 G.cells 83 ∧ Below w1.heap.size w1 wx)
      case first =>
        have hcc := G.term.cells_ hok.term
        have ho7 := G.term.one_ hok.term
        have hto := hok.term
        have hlt := hb7c.lt
        have hn1 := World.new_ne _ _ f0
        go_region
        all_goals go_wp2_with fail
        all_goals go_meet
        all_goals rw [hE.out]
        · refine ⟨_, _, rfl, rfl, by omega, by omega, by omega, ?_, ?_, ?_, ?_, ?_, ?_⟩
          · have := hbl4.size; omega
          · have := hbl4.size; omega
          · exact ((Blk.new _ _ _).below (bl_alloc (bl_refl _) _)).drew
          · exact (Blk_new _ _ _ _ (by simp)).drew
          · exact (((hE.out ▸ hb7c).below (bl_alloc (bl_refl _) _)).below (bl_alloc (bl_refl _) _)).drew
          ·
            repeat (first | exact bl_refl _ | refine bl_alloc ?_ _ | refine bl_drew ?_ | refine bl_drewN ?_ _ | refine bl_step (by assumption) ?_)
        · refine ⟨_, _, rfl, rfl, by omega, by omega, by omega, ?_, ?_, ?_, ?_, ?_, ?_⟩
          · have := hbl4.size; omega
          · have := hbl4.size; omega
          · exact (Blk_new _ _ _ _ (by simp)).drew
          · exact ((Blk.new _ _ _).below (bl_alloc (bl_refl _) _)).drew
          · exact (((hE.out ▸ hb7c).below (bl_alloc (bl_refl _) _)).below (bl_alloc (bl_refl _) _)).drew
          ·
            repeat (first | exact bl_refl _ | refine bl_alloc ?_ _ | refine bl_drew ?_ | refine bl_drewN ?_ _ | refine bl_step (by assumption) ?_)
      case rest =>
        clear f0 f1 f2 f3 f4 f5 f6 f7 hb7c hbl4
        obtain ⟨g9, g10, rfl, rfl, hn1, hn2, hn3, hg9, hg10, hb9, hb10, hb7, hbl⟩ := hcut
        rename World => w6
        have HB7 := Lib.hid hb7; have HB9 := Lib.hid hb9; have HB10 := Lib.hid hb10
        clear hb7 hb9 hb10
        have hfc := fun w => fields_calls (1 + m) w
        have HIS : Hid (isN m q = (fieldsS (1 + m)).data.toList.contains (fieldC q)) := rfl
        have hsm : (fieldsS (1 + m)).size ≤ 3 ∧ ∀ i (h : i < (fieldsS (1 + m)).size), ((fieldsS (1 + m))[i]'h).toNat < 128 := by
          match m, hm6 with
          | 0, _ | 1, _ | 2, _ | 3, _ | 4, _ | 5, _ => decide +kernel
          | _ + 6, h => omega
        generalize hfs : fieldsS (1 + m) = fs at *
        generalize hfq : fieldC q = c at *
        have HFQ := Lib.hid hfq
        have HFC := Lib.hid hfc
        obtain ⟨hsz, hsa⟩ := hsm
        have HSA := Lib.hid hsa
        clear hfs hfq hfc hsa
        go_upto_block 0 with (go_at_call 28; refine (HFC.out _).mono ?_; rintro e w5 ⟨rfl, rfl⟩)
        change Code.wp _ _ _ _ (w6.iter fs 0)
        go_cut [11] (fun s11 wx => ∃ pos, s11 = .bool (isN m q) ∧ wx = w6.iter fs pos)
        case first =>
          go_wp2_with fail
          go_loopw [11] (fun is wr => ∃ pos, pos ≤ fs.size ∧ is = .bool ((fs.data.toList.take pos).contains c) ∧ wr = w6.iter fs pos) (fun _ wr => fs.size - wr.iterPos w6.heap.size)
          case atStart => exact ⟨0, by omega, rfl, rfl⟩
          case round =>
            obtain ⟨pos, hps, rfl, rfl⟩ := hrel
            by_cases hlt : pos < fs.size
            · have hnx : ∀ ty, (Instr.next (.pointer (some ⟨w6.heap.size, 0, none⟩)) true ty).run Tryd.prog (w6.iter fs pos) = .ok (.tuple #[.bool true, .int .i64 pos, .int .i32 (fs[pos]'hlt).toNat]) (w6.iter fs (pos + 1)) := fun ty => by
                rw [run_next_any w6 fs pos ty hlt, decode_ascii fs pos hlt (HSA.out pos hlt)]
              have hidx : ∀ w, (Instr.index 9 (.string fs) (.int .i64 pos)).run Tryd.prog w = .ok (.int .u8 (fs[pos]'hlt).toNat) w := fun w => by
                rw [run_index_string _ _ _ _ _ (by kernel_rfl), dif_pos (by omega)]
                simp
              have htk : (fs.data.toList.take (pos + 1)).contains c = ((fs.data.toList.take pos).contains c || (fs[pos]'hlt == c)) := by
                have e : fs.data.toList.take (pos + 1) = fs.data.toList.take pos ++ [fs[pos]'hlt] := by
                  rw [List.take_add_one]
                  congr 1
                  have : fs.data.toList[pos]? = some (fs[pos]'hlt) := by
                    rw [List.getElem?_eq_getElem (by simpa using hlt)]
                    rfl
                  rw [this]; rfl
                rw [e]
                by_cases hh : c = fs[pos]'hlt
                · simp [hh]
                · have hh2 : ¬ fs[pos]'hlt = c := fun h => hh h.symm
                  simp [hh, hh2]
              generalize fs[pos]'hlt = b at *
              have HTK := Lib.hid htk
              clear htk
              cases hB : (fs.data.toList.take pos).contains c with
              | true =>
                have HB := Lib.hid hB
                clear hB
                go_wp2_with fail
                exact ⟨⟨pos + 1, by omega, by rw [HTK.out, HB.out]; rfl, rfl⟩, by simp; omega⟩
              | false =>
                have HB := Lib.hid hB
                clear hB
                by_cases hbc : b = c
                · subst hbc
                  go_wp2_with (go_at_call 28; refine (HFC.out _).mono ?_; rintro e w5 ⟨rfl, rfl⟩)
                  exact ⟨⟨pos + 1, by omega, by rw [HTK.out]; simp, rfl⟩, by simp; omega⟩
                · have h1 : ((b.toNat : Int) == (c.toNat : Int)) = false := by
                    simp only [beq_eq_false_iff_ne, ne_eq]
                    intro h
                    exact hbc (UInt8.toNat_inj.1 (by omega))
                  have h2 : (b == c) = false := by simpa using hbc
                  have H2 := Lib.hid h2
                  clear h2 hbc
                  go_wp2_with (go_at_call 28; refine (HFC.out _).mono ?_; rintro e w5 ⟨rfl, rfl⟩)
                  exact ⟨⟨pos + 1, by omega, by rw [HTK.out, HB.out, H2.out]; rfl, rfl⟩, by simp; omega⟩
            · have hnx : ∀ ty, (Instr.next (.pointer (some ⟨w6.heap.size, 0, none⟩)) true ty).run Tryd.prog (w6.iter fs pos) = _ := fun ty => run_next_end w6 fs pos ty hlt
              go_wp2_with fail
              go_meet
              refine ⟨pos, ?_, rfl⟩
              rw [HIS.out, List.take_of_length_le (by simpa using Nat.le_of_not_lt hlt)]
        case rest =>
          obtain ⟨pos, rfl, hw5⟩ := hcut
          have hb5 : Below w6.heap.size w6 (w6.iter fs pos) := bl_alloc (bl_refl _) _
          rw [← hw5] at hb5
          have hb9 := HB9.out.below hb5
          have hb10 := HB10.out.below hb5
          have hb7 := HB7.out.below hb5
          have hbl5 := bl_step hb5 hbl
          clear HB9 HB10 HB7 hb5 hbl hw5
          have HB9 := Lib.hid hb9; have HB10 := Lib.hid hb10; have HB7 := Lib.hid hb7; have HBL := Lib.hid hbl5
          clear hb9 hb10 hb7 hbl5
          generalize hI : isN m q = is
          have HI := Lib.hid hI
          clear hI
          go_upto_block 2 with fail
          go_cut [] (fun wx => Blk wx g7 G.cells 83 ∧ Blk wx g9 (badN m q u).cells 83 ∧ Blk wx g10 (otherN m q).cells 83 ∧ Below w1.heap.size w1 wx)
          case first =>
            clear HIS HFC HSM
            have hG := HG.out
            subst hG
            obtain rfl | rfl | rfl | rfl | rfl | rfl | rfl : q = 0 ∨ q = 1 ∨ q = 2 ∨ q = 3 ∨ q = 4 ∨ q = 5 ∨ q = 6 := by omega
            · obtain rfl : c = 73 := HFQ.out.symm
              have hb9 := HB9.out
              have hb10 := HB10.out
              have c9 := hb9.cell 1
              have c10 := hb10.cell 1
              have z9 := hb9.frozen 1
              have z10 := hb10.frozen 1
              rw [hE.out] at c9 c10
              have HE9 := Lib.hid hb9
              clear hb9 hb10
              go_wp2_with fail
              go_meet
              refine ⟨(HB7.out.far _ ?_ _).far _ ?_ _, ?_, ?_, ?_⟩
              · exact fun h => hn2 h.symm
              · exact fun h => hn3 h.symm
              · exact (HB9.out.set 1 (.string ⟨#[49]⟩)).far _ hn1 _
              · exact (HB10.out.far _ (fun h => hn1 h.symm) _).set 1 (.string ⟨#[120]⟩)
              · exact bl_set (bl_set HBL.out _ _ hg9 _) _ _ hg10 _
            · obtain rfl : c = 84 := HFQ.out.symm
              have hb9 := HB9.out
              have hb10 := HB10.out
              have c9 := hb9.cell 7
              have c10 := hb10.cell 7
              have z9 := hb9.frozen 7
              have z10 := hb10.frozen 7
              rw [hE.out] at c9 c10
              have HE9 := Lib.hid hb9
              clear hb9 hb10
              go_wp2_with fail
              go_meet
              refine ⟨(HB7.out.far _ ?_ _).far _ ?_ _, ?_, ?_, ?_⟩
              · exact fun h => hn2 h.symm
              · exact fun h => hn3 h.symm
              · exact (HB9.out.set 7 (.iface 24 (.agg #[.string ⟨#[]⟩]))).far _ hn1 _
              · exact (HB10.out.far _ (fun h => hn1 h.symm) _).set 7 (.iface 24 (.agg #[.string ⟨#[101, 117, 114]⟩]))
              · exact bl_set (bl_set HBL.out _ _ hg9 _) _ _ hg10 _
            · obtain rfl : c = 78 := HFQ.out.symm
              have hb9 := HB9.out
              have hb10 := HB10.out
              have c9 := hb9.cell 2
              have c10 := hb10.cell 2
              have z9 := hb9.frozen 2
              have z10 := hb10.frozen 2
              rw [hE.out] at c9 c10
              have HE9 := Lib.hid hb9
              clear hb9 hb10
              go_wp2_with fail
              go_meet
              refine ⟨(HB7.out.far _ ?_ _).far _ ?_ _, ?_, ?_, ?_⟩
              · exact fun h => hn2 h.symm
              · exact fun h => hn3 h.symm
              · exact (HB9.out.set 2 (.string ⟨#[65]⟩)).far _ hn1 _
              · exact (HB10.out.far _ (fun h => hn1 h.symm) _).set 2 (.string ⟨#[120]⟩)
              · exact bl_set (bl_set HBL.out _ _ hg9 _) _ _ hg10 _
            · obtain rfl : c = 68 := HFQ.out.symm
              have hb9 := HB9.out
              have hb10 := HB10.out
              have c9 := hb9.cell 5
              have c10 := hb10.cell 5
              have z9 := hb9.frozen 5
              have z10 := hb10.frozen 5
              rw [hE.out] at c9 c10
              have HE9 := Lib.hid hb9
              clear hb9 hb10
              go_wp2_with fail
              go_meet
              refine ⟨(HB7.out.far _ ?_ _).far _ ?_ _, ?_, ?_, ?_⟩
              · exact fun h => hn2 h.symm
              · exact fun h => hn3 h.symm
              · exact (HB9.out.set 5 (.int .i64 10001)).far _ hn1 _
              · exact (HB10.out.far _ (fun h => hn1 h.symm) _).set 5 (.int .i64 9)
              · exact bl_set (bl_set HBL.out _ _ hg9 _) _ _ hg10 _
            · obtain rfl : c = 86 := HFQ.out.symm
              have hb9 := HB9.out
              have hb10 := HB10.out
              have c9 := hb9.cell 6
              have c10 := hb10.cell 6
              have z9 := hb9.frozen 6
              have z10 := hb10.frozen 6
              rw [hE.out] at c9 c10
              clear hb9 hb10
              by_cases hm3 : m = 3
              · subst hm3
                cases is with
                | true =>
                  go_wp2_with (go_at_call 9; refine (HW3.out _).mono ?_; rintro e w5 ⟨rfl, rfl⟩)
                  go_meet
                  refine ⟨((HB7.out.far _ (fun h => hn2 h.symm) _).far _ (fun h => hn3 h.symm) _).far _ (fun h => hn2 h.symm) _, ?_, ?_, ?_⟩
                  · exact ((HB9.out.set 6 (.int .i64 1000000000001)).far _ hn1 _).set 6 (.int .i64 (2 + u))
                  · exact ((HB10.out.far _ (fun h => hn1 h.symm) _).set 6 (.int .i64 0)).far _ (fun h => hn1 h.symm) _
                  · exact bl_set (bl_set (bl_set HBL.out _ _ hg9 _) _ _ hg10 _) _ _ hg9 _
                | false => exact absurd HI.out (by decide)
              · have hk4 : ((1 + (m : Int)) == 4) = false := by simp; omega
                have HB4 : Hid ((badN m 4 u).cells = ((goodN m).cells.setIfInBounds 6 (.int .i64 1000000000001))) := by
                  have e : (badN m 4 u).cells = ((goodN m).cells.setIfInBounds 6 (.int .i64 (if m = 3 then 2 + u else 1000000000001))) := rfl
                  rw [if_neg hm3] at e
                  exact e
                cases is with
                | true =>
                  have HO4 : Hid ((otherN m 4).cells = ((goodN m).cells.setIfInBounds 6 (.int .i64 0))) := by
                    have e : (otherN m 4).cells = ((goodN m).cells.setIfInBounds 6 (.int .i64 (if isN m 4 then 0 else 3))) := rfl
                    rw [HI.out] at e
                    exact e
                  go_wp2_with fail
                  go_meet
                  rw [HB4.out, HO4.out]
                  refine ⟨(HB7.out.far _ (fun h => hn2 h.symm) _).far _ (fun h => hn3 h.symm) _, ?_, ?_, ?_⟩
                  · exact (HB9.out.set 6 (.int .i64 1000000000001)).far _ hn1 _
                  · exact (HB10.out.far _ (fun h => hn1 h.symm) _).set 6 (.int .i64 0)
                  · exact bl_set (bl_set HBL.out _ _ hg9 _) _ _ hg10 _
                | false =>
                  have HO4 : Hid ((otherN m 4).cells = (((goodN m).cells.setIfInBounds 6 (.int .i64 0)).setIfInBounds 6 (.int .i64 3))) := by
                    have e : (otherN m 4).cells = (((goodN m).cells.setIfInBounds 6 (.int .i64 0)).setIfInBounds 6 (.int .i64 (if isN m 4 then 0 else 3))) := rfl
                    rw [HI.out] at e
                    exact e
                  go_wp2_with fail
                  go_meet
                  rw [HB4.out, HO4.out]
                  refine ⟨((HB7.out.far _ (fun h => hn2 h.symm) _).far _ (fun h => hn3 h.symm) _).far _ (fun h => hn3 h.symm) _, ?_, ?_, ?_⟩
                  · exact ((HB9.out.set 6 (.int .i64 1000000000001)).far _ hn1 _).far _ hn1 _
                  · exact ((HB10.out.far _ (fun h => hn1 h.symm) _).set 6 (.int .i64 0)).set 6 (.int .i64 3)
                  · exact bl_set (bl_set (bl_set HBL.out _ _ hg9 _) _ _ hg10 _) _ _ hg10 _
            · obtain rfl : c = 76 := HFQ.out.symm
              have hb9 := HB9.out
              have hb10 := HB10.out
              have c9 := hb9.cell 3
              have c10 := hb10.cell 3
              have z9 := hb9.frozen 3
              have z10 := hb10.frozen 3
              rw [hE.out] at c9 c10
              have HE9 := Lib.hid hb9
              clear hb9 hb10
              go_wp2_with fail
              go_meet
              refine ⟨(HB7.out.far _ ?_ _).far _ ?_ _, ?_, ?_, ?_⟩
              · exact fun h => hn2 h.symm
              · exact fun h => hn3 h.symm
              · exact (HB9.out.set 3 (.string ⟨#[32]⟩)).far _ hn1 _
              · exact (HB10.out.far _ (fun h => hn1 h.symm) _).set 3 (.string ⟨#[120]⟩)
              · exact bl_set (bl_set HBL.out _ _ hg9 _) _ _ hg10 _
            · obtain rfl : c = 67 := HFQ.out.symm
              have hb9 := HB9.out
              have hb10 := HB10.out
              have c9 := hb9.cell 4
              have c10 := hb10.cell 4
              have z9 := hb9.frozen 4
              have z10 := hb10.frozen 4
              rw [hE.out] at c9 c10
              have HE9 := Lib.hid hb9
              clear hb9 hb10
              go_wp2_with fail
              go_meet
              refine ⟨(HB7.out.far _ ?_ _).far _ ?_ _, ?_, ?_, ?_⟩
              · exact fun h => hn2 h.symm
              · exact fun h => hn3 h.symm
              · exact (HB9.out.set 4 (.string ⟨#[117, 115, 100, 33]⟩)).far _ hn1 _
              · exact (HB10.out.far _ (fun h => hn1 h.symm) _).set 4 (.string ⟨#[120]⟩)
              · exact bl_set (bl_set HBL.out _ _ hg9 _) _ _ hg10 _
          case rest =>
            obtain ⟨hb7, hb9, hb10, hbl⟩ := hcut
            rename World => w7
            have hcO := (other_pure m hm6 q hq7).1
            have hsO := (other_pure m hm6 q hq7).2.1
            have hmO := (other_pure m hm6 q hq7).2.2
            have hcB := (bad_pure m hm6 q hq7 u hu1).1
            have hmB := (bad_pure m hm6 q hq7 u hu1).2
            have hoB := badN_ok m q u hu1
            have hoO := otherN_ok m q
            clear HSM HIS HFC HB9 HB10 HB7 HBL
            rw [HG.out] at hsO
            have HW : Hid (wantN m q = if q = 1 ∧ isN m 1 = true then 2 else 1) := rfl
            have HSO := Lib.hid hsO; have HCB := Lib.hid hcB; have HCO := Lib.hid hcO
            clear hsO hcB hcO
            generalize badN m q u = B at *
            generalize otherN m q = O at *
            by_cases hq1 : q = 1
            · subst hq1
              obtain rfl : c = 84 := HFQ.out.symm
              cases is with
              | true =>
                have hwn : wantN m 1 = 2 := by rw [HW.out, HI.out]; rfl
                rw [hwn] at HCB
                rw [HI.out] at HCO
                have hckB := echeck_calls B hoB (by omega) w7 (ht.below hbl)
                rw [HCB.out] at hckB
                have hckO := fun w ht => echeck_calls O hoO (by omega) w ht
                have hsmO := fun w => esame_calls G O hok hoO w
                rw [HSO.out] at hsmO
                unfold Ev.val at hckB hckO hsmO
                have HCKO := Lib.hid hckO; have HSMO := Lib.hid hsmO
                clear hckO hsmO hwn
                obtain ⟨f0, f1, f2, f3, f4, f5, f6, f7⟩ := Blk.evs (e := B) hb9
                go_upto_region 33 with fail
                go_wp2_with fail
                refine (hckB).mono ?_
                rintro e w8 ⟨rfl, hb8⟩
                clear f0 f1 f2 f3 f4 f5 f6 f7 hckB
                have hbl8 := bl_step hb8 hbl
                have hb10b := hb10.below hb8
                have hb7b := hb7.below hb8
                obtain ⟨f0, f1, f2, f3, f4, f5, f6, f7⟩ := Blk.evs (e := O) hb10b
                go_wp2_with fail
                refine (HCKO.out _ (ht.below hbl8)).mono ?_
                rintro e w9 ⟨rfl, hb9'⟩
                clear f0 f1 f2 f3 f4 f5 f6 f7
                have hbl9 := bl_step hb9' hbl8
                have hb10c := hb10b.below hb9'
                have hb7c := hb7b.below hb9'
                obtain ⟨f0, f1, f2, f3, f4, f5, f6, f7⟩ := Blk.evs (e := O) hb10c
                obtain ⟨g0, g1, g2, g3, g4, g5, g6, g7'⟩ := Blk.evs (e := G) hb7c
                have hco := HCO.out
                go_wp2_with fail
                refine (HSMO.out _).mono ?_
                rintro e w10 ⟨rfl, hb10'⟩
                have hbl10 := bl_step hb10' hbl9
                clear f0 f1 f2 f3 f4 f5 f6 f7 g0 g1 g2 g3 g4 g5 g6 g7'
                go_wp2_with fail
                refine (wakes11_calls _ (ht.below hbl10)).mono ?_
                rintro e w11 ⟨rfl, hb11⟩
                go_wp2_with fail
                go_ret
                exact ⟨rfl, bl_step hb11 hbl10⟩
              | false =>
                have hwn : wantN m 1 = 1 := by rw [HW.out, HI.out]; rfl
                rw [hwn] at HCB
                rw [HI.out] at HCO
                have hckB := echeck_calls B hoB (by omega) w7 (ht.below hbl)
                rw [HCB.out] at hckB
                have hckO := fun w ht => echeck_calls O hoO (by omega) w ht
                have hsmO := fun w => esame_calls G O hok hoO w
                rw [HSO.out] at hsmO
                unfold Ev.val at hckB hckO hsmO
                have HCKO := Lib.hid hckO; have HSMO := Lib.hid hsmO
                clear hckO hsmO hwn
                obtain ⟨f0, f1, f2, f3, f4, f5, f6, f7⟩ := Blk.evs (e := B) hb9
                go_upto_region 33 with fail
                go_wp2_with fail
                refine (hckB).mono ?_
                rintro e w8 ⟨rfl, hb8⟩
                clear f0 f1 f2 f3 f4 f5 f6 f7 hckB
                have hbl8 := bl_step hb8 hbl
                have hb10b := hb10.below hb8
                have hb7b := hb7.below hb8
                obtain ⟨f0, f1, f2, f3, f4, f5, f6, f7⟩ := Blk.evs (e := O) hb10b
                go_wp2_with fail
                refine (HCKO.out _ (ht.below hbl8)).mono ?_
                rintro e w9 ⟨rfl, hb9'⟩
                clear f0 f1 f2 f3 f4 f5 f6 f7
                have hbl9 := bl_step hb9' hbl8
                have hb10c := hb10b.below hb9'
                have hb7c := hb7b.below hb9'
                obtain ⟨f0, f1, f2, f3, f4, f5, f6, f7⟩ := Blk.evs (e := O) hb10c
                obtain ⟨g0, g1, g2, g3, g4, g5, g6, g7'⟩ := Blk.evs (e := G) hb7c
                have hco := HCO.out
                go_wp2_with fail
                refine (HSMO.out _).mono ?_
                rintro e w10 ⟨rfl, hb10'⟩
                have hbl10 := bl_step hb10' hbl9
                clear f0 f1 f2 f3 f4 f5 f6 f7 g0 g1 g2 g3 g4 g5 g6 g7'
                go_wp2_with fail
                refine (wakes11_calls _ (ht.below hbl10)).mono ?_
                rintro e w11 ⟨rfl, hb11⟩
                go_wp2_with fail
                go_ret
                exact ⟨rfl, bl_step hb11 hbl10⟩
            · have hc84 : ((c.toNat : Int) == 84) = false := by
                have e : c ≠ 84 := by
                  rw [← HFQ.out]
                  match q, hq7, hq1 with
                  | 0, _, _ | 2, _, _ | 3, _, _ | 4, _, _ | 5, _, _ | 6, _, _ => decide
                  | 1, _, h => exact absurd rfl h
                  | _ + 7, h, _ => omega
                simp only [beq_eq_false_iff_ne, ne_eq]
                intro h
                exact e (UInt8.toNat_inj.1 (by have : (84 : UInt8).toNat = 84 := rfl; omega))
              have hwn : wantN m q = 1 := by rw [HW.out, if_neg (fun h => hq1 h.1)]
              rw [hwn] at HCB
              rw [HI.out] at HCO
              have hckB := echeck_calls B hoB (by omega) w7 (ht.below hbl)
              rw [HCB.out] at hckB
              have hckO := fun w ht => echeck_calls O hoO (by omega) w ht
              have hsmO := fun w => esame_calls G O hok hoO w
              rw [HSO.out] at hsmO
              unfold Ev.val at hckB hckO hsmO
              have HCKO := Lib.hid hckO; have HSMO := Lib.hid hsmO
              clear hckO hsmO hwn
              obtain ⟨f0, f1, f2, f3, f4, f5, f6, f7⟩ := Blk.evs (e := B) hb9
              go_upto_region 33 with fail
              go_wp2_with fail
              refine (hckB).mono ?_
              rintro e w8 ⟨rfl, hb8⟩
              clear f0 f1 f2 f3 f4 f5 f6 f7 hckB
              have hbl8 := bl_step hb8 hbl
              have hb10b := hb10.below hb8
              have hb7b := hb7.below hb8
              obtain ⟨f0, f1, f2, f3, f4, f5, f6, f7⟩ := Blk.evs (e := O) hb10b
              go_wp2_with fail
              refine (HCKO.out _ (ht.below hbl8)).mono ?_
              rintro e w9 ⟨rfl, hb9'⟩
              clear f0 f1 f2 f3 f4 f5 f6 f7
              have hbl9 := bl_step hb9' hbl8
              have hb10c := hb10b.below hb9'
              have hb7c := hb7b.below hb9'
              obtain ⟨f0, f1, f2, f3, f4, f5, f6, f7⟩ := Blk.evs (e := O) hb10c
              obtain ⟨g0, g1, g2, g3, g4, g5, g6, g7'⟩ := Blk.evs (e := G) hb7c
              have hco := HCO.out
              go_wp2_with fail
              refine (HSMO.out _).mono ?_
              rintro e w10 ⟨rfl, hb10'⟩
              have hbl10 := bl_step hb10' hbl9
              clear f0 f1 f2 f3 f4 f5 f6 f7 g0 g1 g2 g3 g4 g5 g6 g7'
              go_wp2_with fail
              refine (wakes11_calls _ (ht.below hbl10)).mono ?_
              rintro e w11 ⟨rfl, hb11⟩
              go_wp2_with fail
              go_ret
              exact ⟨rfl, bl_step hb11 hbl10⟩
end Go.Proofs.YtgcglongjjpkbaaDoor
