/- LedgerErrors: the walk. -/
import Derived.Test.YtnekcijganhknaaGreatDoorLawLErW0
import Derived.Test.YtnekcijganhknaaGreatDoorOneB
namespace Go.Proofs.YtnekcijganhknaaGreatDoor
open Go.RowKit
set_option linter.unusedVariables false
set_option linter.unusedSimpArgs false

set_option maxRecDepth 100000 in
set_option maxHeartbeats 1000000 in
theorem knm_calls (a : Nat) (ha : a < 6) (w : World) :
    Calls Tryz.prog 30 #[.string ⟨#[109]⟩, .int .i64 a, .int .i64 9] w fun e w' => e = .returned (.string (knm a)) ∧ Below w.heap.size w w' := by
  have hw := within_calls a 9 w (by omega) (by omega)
  rw [show (a : Int) % 9 = (a : Int) by omega] at hw
  have hcv := fun W b hc => one_back (97 + a) (by omega) W b hc
  have hbA := bl_alloc (bl_refl w) (.cells #[.int .u8 (97 + (a : Int))] 5)
  rw [show ((97 + a : Nat) : Int) = 97 + (a : Int) by omega] at hcv
  have hs2 : IntKind.u8.wrap (97 + (a : Int)) = 97 + (a : Int) := IntWalk.u8_in _ (by omega)
  have HN : Hid (knm a = ⟨#[109]⟩ ++ ⟨#[UInt8.ofNat (97 + a)]⟩) := rfl
  rw [HN.out]
  clear HN
  generalize UInt8.ofNat (97 + a) = c at *
  have h1s : (⟨#[c]⟩ : ByteArray).size = 1 := rfl
  generalize (⟨#[c]⟩ : ByteArray) = C at *
  go_enter Tryz.func30, Tryz.ntmps30
  go_wp2_with fail
  refine (hw).mono ?_
  rintro e w1 ⟨rfl, rfl⟩
  go_wp2_with fail
  go_ret
  exact ⟨rfl, hbA⟩
set_option maxRecDepth 100000 in
set_option maxHeartbeats 8000000 in
theorem lawErrors_calls (x : Int) (hx : IsInt64 x) (w : World) (ht : TabOk w) :
    Calls Tryz.prog 8 #[.int .i64 x] w fun e w' => e = .returned (.bool true) ∧ Below w.heap.size w w' := by
  have HT := Lib.hid ht
  have hwx := fun w => within_calls x 50 w (by unfold IsInt64 at hx; omega) (by omega)
  have a0 := Int.emod_nonneg x (show (50 : Int) ≠ 0 by omega)
  have a1 := Int.emod_lt_of_pos x (show (0 : Int) < 50 by omega)
  generalize x % 50 = a' at *
  obtain ⟨D, hD⟩ : ∃ D, 2 + a' = D := ⟨_, rfl⟩
  have wa : IntKind.i64.wrap (2 + a') = D := by rw [hD]; exact wrap_in (by omega)
  have wd : IntKind.i64.wrap (D + 1) = D + 1 := wrap_in (by omega)
  have hDD : dayB D = true := by unfold dayB; simp; omega
  have hD1 : dayB (D + 1) = true := by unfold dayB; simp; omega
  have hD0 : 0 < D := by omega
  have HWX := Lib.hid hwx
  have HALL := Lib.hid (er_all hDD hD1 hD0); have HDD := Lib.hid (And.intro hDD (Int.le_of_lt hD0))
  have HTAB := Lib.hid (erCells_eq D)
  clear hwx a0 a1 hD hx ht hDD hD1 hD0
  go_enter Tryz.func8, Tryz.ntmps8
  go_wp2_with fail
  refine (lsnew_calls (bl_refl w)).mono ?_
  rintro e w1 ⟨g, rfl, h1⟩
  have H1 := Lib.hid h1
  clear h1
  go_upto_region 6 with fail
  obtain ⟨W3, hW3⟩ : ∃ W3, (w1.alloc (.cells #[.iface 26 (.agg #[.int .i64 1000000000000]), .iface 32 (.agg #[.iface 34 (.agg #[.string ⟨#[120]⟩]), .iface 28 (.agg #[.string ⟨#[117, 115, 100]⟩])])] 32)).alloc (.cells #[.string ⟨#[97]⟩, .iface 28 (.agg #[.string ⟨#[117, 115, 100]⟩]), .iface 90 (.agg #[])] 78) = W3 := ⟨_, rfl⟩
  have hb3 : Below w1.heap.size w1 W3 := by rw [← hW3]; exact bl_alloc (bl_alloc (bl_refl _) _) _
  have hk8 : Blk W3 w1.heap.size #[.iface 26 (.agg #[.int .i64 1000000000000]), .iface 32 (.agg #[.iface 34 (.agg #[.string ⟨#[120]⟩]), .iface 28 (.agg #[.string ⟨#[117, 115, 100]⟩])])] 32 := by rw [← hW3]; exact (Blk.new w1 _ _).below (bl_alloc (bl_refl _) _)
  have hk9 : Blk W3 (w1.heap.size + 1) #[.string ⟨#[97]⟩, .iface 28 (.agg #[.string ⟨#[117, 115, 100]⟩]), .iface 90 (.agg #[])] 78 := by rw [← hW3]; exact Blk_new _ _ _ _ (by simp)
  rw [hW3]
  have H3 := Lib.hid (H1.out.below hb3)
  have c80 := hk8.cell 0
  have c81 := hk8.cell 1
  have c90 := hk9.cell 0
  have c91 := hk9.cell 1
  have c92 := hk9.cell 2
  clear hW3 hb3 hk8 hk9
  go_wp2_with fail
  refine (HWX.out _).mono ?_
  rintro e w4 ⟨rfl, hw4⟩
  subst hw4
  go_upto_region 8 with fail
  obtain ⟨W5, hW5⟩ : ∃ W5, w4.alloc (.cells (erCells D (D + 1) 3 32 78 80 32 (.int .i64 5) (.agg #[.iface 26 (.agg #[.int .i64 1000000000000]), .iface 32 (.agg #[.iface 34 (.agg #[.string ⟨#[120]⟩]), .iface 28 (.agg #[.string ⟨#[117, 115, 100]⟩])])]) (.agg #[.string ⟨#[97]⟩, .iface 28 (.agg #[.string ⟨#[117, 115, 100]⟩]), .iface 90 (.agg #[])]) (.agg #[.int .i64 D, .iface 93 (.agg #[.iface 78 (.agg #[.string ⟨#[97]⟩, .iface 28 (.agg #[.string ⟨#[117, 115, 100]⟩]), .iface 90 (.agg #[])])])]) (.agg #[.iface 26 (.agg #[.int .i64 2]), .iface 32 (.agg #[.iface 26 (.agg #[.int .i64 1000000000000]), .iface 78 (.agg #[.string ⟨#[97]⟩, .iface 28 (.agg #[.string ⟨#[117, 115, 100]⟩]), .iface 90 (.agg #[])])])])) 91) = W5 := ⟨_, rfl⟩
  rw [hW5]
  rw [← HTAB.out] at hW5
  have hb5 : Below w4.heap.size w4 W5 := by rw [← hW5]; exact bl_alloc (bl_refl _) _
  have hk5 : Blk W5 w4.heap.size ((erRows D).flatMap erRow).toArray 91 := by rw [← hW5]; exact Blk.new _ _ _
  obtain ⟨q5, hq5⟩ : ∃ q5, w4.heap.size = q5 := ⟨_, rfl⟩
  rw [hq5] at hk5
  obtain ⟨ad, had⟩ : ∃ ad : Addr, (⟨q5, 0, none⟩ : Addr) = ad := ⟨_, rfl⟩
  rw [hq5, had]
  have H5 := Lib.hid (H3.out.below hb5); have HK5 := Lib.hid hk5; have HAD := Lib.hid had
  clear hW5 hb5 hk5 hq5 had c80 c81 c90 c91 c92 H3 HTAB wa
  go_loopw [114] (fun i wr => ∃ (k : Nat) (l : Lg), k ≤ 26 ∧ i = .int .i64 k ∧ (erSts D)[k]? = some l ∧ LS w wr g l k ∧ Blk wr q5 ((erRows D).flatMap erRow).toArray 91) (fun i _ => 26 - (intOf i).toNat)
  case atStart => exact ⟨0, _, by omega, rfl, rfl, H5.out, HK5.out⟩
  case round =>
    obtain ⟨k, l, hk, rfl, hl, hls, hkr⟩ := hrel
    have HLS := Lib.hid hls; have HKR := Lib.hid hkr
    clear hls hkr H5 HK5
    by_cases hlt : k < 26
    · obtain ⟨⟨e, b, o⟩, l1, l2, hx, hl1, hl2, hf, hdn⟩ := HALL.out k hlt
      obtain rfl : l1 = l := by rw [hl] at hl1; injection hl1 with h; exact h.symm
      have hrow := rows_rd (k := 10) erRow_length (by have := HKR.out.rd; rw [HAD.out] at this; simpa using this) hx
      have hok : e.term.ok := hf.ok.term
      have e1 := e.term.cells_ hok; have e2 := e.term.one_ hf.ok.term; have e3 := e.term.isI hf.ok.term
      have htr : (l1.try_ e b).2 = o := by rw [← done_two, hdn]
      have HROW := Lib.hid hrow; have HF := Lib.hid hf; have HDN := Lib.hid hdn; have HTR := Lib.hid htr; have HL2 := Lib.hid hl2
      clear hl hl1 hrow hf hdn htr hx hl2
      have hkI : (k : Int) < 26 := by omega
      have hk0I : (0 : Int) ≤ (k : Int) := by omega
      go_upto_region 10 with (refine wpList_load_rd rfl 91 _ rfl (ad.add (k * 10)) rfl [.int .i64 e.kind, .string e.id, .string e.name, .string e.label, .string e.cur, .int .i64 e.day, .int .i64 e.value, e.term.val, .int .i64 b, .int .i64 o] _ HROW.out Tryz.underlying91 rfl (by kernel_rfl) ?_; simp only [Act.put, List.setIfInBounds_toArray, List.set_cons_zero, List.set_cons_succ])
      obtain ⟨w6, hW6⟩ : ∃ w6, wr.alloc (.cells #[.int .i64 e.kind, .string e.id, .string e.name, .string e.label, .string e.cur, .int .i64 e.day, .int .i64 e.value, e.term.val, .int .i64 b, .int .i64 o] 91) = w6 := ⟨_, rfl⟩
      have hb6 : Below wr.heap.size wr w6 := by rw [← hW6]; exact bl_alloc (bl_refl _) _
      have hk6 : Blk w6 wr.heap.size #[.int .i64 e.kind, .string e.id, .string e.name, .string e.label, .string e.cur, .int .i64 e.day, .int .i64 e.value, e.term.val, .int .i64 b, .int .i64 o] 91 := by rw [← hW6]; exact Blk.new _ _ _
      obtain ⟨q, hq⟩ : ∃ q, wr.heap.size = q := ⟨_, rfl⟩
      rw [hq] at hk6
      rw [hW6, hq]
      have HL6 := Lib.hid (HLS.out.below hb6); have HQ6 := Lib.hid hk6; have HK6 := Lib.hid (HKR.out.below hb6)
      clear hW6 hb6 hk6 hq HLS HKR HROW
      refine wp_region_noPanic ?_
      refine wp_region_held_drew (S := fun w' => w'.rangeAt q 0 [.int .i64 e.kind, .string e.id, .string e.name, .string e.label, .string e.cur, .int .i64 e.day, .int .i64 e.value, e.term.val] ∧ w'.cell? ⟨q, 8, none⟩ = some (.int .i64 b) ∧ w'.cell? ⟨q, 9, none⟩ = some (.int .i64 o)) (by kernel_rfl) (er_S HQ6.out) (fun hHeld => ?_)
      refine wpAnyH_world (fun W => Below w6.heap.size w6 W) (bl_drew (bl_refl _)) (fun W6d hbd => ?_)
      refine wpAnyH_lst #[false, false, false, false, false, false, false, false, false, false, false, false, false, false, false, false, false, false, false, false] (by rfl) ?_
      clear hHeld
      refine wpAnyH_named (fun A0 hA0 => ?_)
      have HA0 := Lib.hid hA0
      refine sp_in A0 [118, 119, 120, 121, 122, 123, 124, 125, 126, 127, 128, 129, 130, 131, 132, 133, 134, 135, 136, 137] 174 [(8, .pointer (some ⟨q, 0, none⟩)), (3, .pointer (some ⟨g, 0, none⟩))] (by rw [hA0]; rfl) (er_S (HQ6.out.below hbd)) (by rw [hA0]; exact ⟨rfl, rfl, trivial⟩) ?_
      clear hA0
      replace HL6 := Lib.hid (HL6.out.below hbd); replace HQ6 := Lib.hid (HQ6.out.below hbd); replace HK6 := Lib.hid (HK6.out.below hbd)
      clear hbd
      refine st 0 [3] rfl ?_
      refine st 1 [8] rfl ?_
      refine st 3 [8] rfl ?_
      refine st 6 [8] rfl ?_
      refine sl 2 119 rfl q 0 [.int .i64 e.kind, .string e.id, .string e.name, .string e.label, .string e.cur, .int .i64 e.day, .int .i64 e.value, e.term.val] _ (fun w h => h.1) Tryz.underlying40 er_ev8 ?_
      refine st 4 [121] rfl ?_
      refine st 7 [124] rfl ?_
      refine sr 5 (sc 5 [118, 120, 122] rfl (show Calls Tryz.prog 25 #[.pointer (some ⟨g, 0, none⟩), .agg #[.int .i64 e.kind, .string e.id, .string e.name, .string e.label, .string e.cur, .int .i64 e.day, .int .i64 e.value, e.term.val], .int .i64 b] W6d _ from HL6.out.try_ (by omega) HT.out e b HF.out HTR.out) ?_)
      rintro en w7 ⟨rfl, h7, hb7⟩
      have HL7 := Lib.hid h7
      have HQ7 := Lib.hid (HQ6.out.below hb7); have HK7 := Lib.hid (HK6.out.below hb7)
      refine ⟨_, rfl, er_S HQ7.out, ?_⟩
      clear h7 hb7
      refine st (v := .bool false) 8 [123, 125] rfl ?_
      refine st 9 [126] rfl ?_
      refine st 10 [3] rfl ?_
      refine st 11 [8] rfl ?_
      refine st 13 [8] rfl ?_
      refine st 16 [8] rfl ?_
      refine sl 12 129 rfl q 0 [.int .i64 e.kind, .string e.id, .string e.name, .string e.label, .string e.cur, .int .i64 e.day, .int .i64 e.value, e.term.val] _ (fun w h => h.1) Tryz.underlying40 er_ev8 ?_
      refine st 14 [131] rfl ?_
      refine st 17 [134] rfl ?_
      refine sr 15 (sc 15 [128, 130, 132] rfl (show Calls Tryz.prog 13 #[.pointer (some ⟨g, 0, none⟩), .agg #[.int .i64 e.kind, .string e.id, .string e.name, .string e.label, .string e.cur, .int .i64 e.day, .int .i64 e.value, e.term.val], .int .i64 b] w7 _ from HL7.out.do_ (by omega) HT.out e b HF.out HDN.out) ?_)
      rintro en w8 ⟨rfl, h8, hg8⟩
      obtain ⟨cs8, hl8⟩ := HL7.out.at_.blk
      have HQ8 := Lib.hid (HQ7.out.grown hg8 (fun e => by injection e with e; exact hl8.no_ty HQ7.out (by decide) e)); have HK8 := Lib.hid (HK7.out.grown hg8 (fun e => by injection e with e; exact hl8.no_ty HK7.out (by decide) e))
      have HL8 := Lib.hid h8
      refine ⟨_, rfl, er_S HQ8.out, ?_⟩
      clear h8 hg8 hl8 cs8
      refine st (v := .bool false) 18 [133, 135] rfl ?_
      refine st 19 [127, 136] rfl ?_
      refine sp_done (fun A hO hN hS => NoPanic.normal ?_)
      obtain ⟨fo, hfo⟩ := hO.lit HA0.out
      have g137 := hN.get 137 rfl
      clear hO hN
      dsimp only [putL, List.set_cons_zero, List.set_cons_succ] at hfo
      subst hfo
      have g137 : fo 137 = .bool false := g137
      go_wp2_with fail
      go_roundw
      case rel => exact ⟨k + 1, l2, by omega, by go_num, HL2.out, HL8.out, HK8.out⟩
      case measure => simp [intOf]; omega
    · obtain rfl : k = 26 := by omega
      obtain rfl : erS7 D = l := by injection hl
      clear HALL HKR hl hlt hk wd
      rw [show ((26 : Nat) : Int) = (26 : Int) from rfl]
      have HM := Lib.hid (show LS w wr g (erM D 0) 26 from HLS.out)
      go_upto_region 14 with fail
      go_loopw [9] (fun i wr => ∃ (k : Nat), k ≤ 6 ∧ i = .int .i64 k ∧ LS w wr g (erM D k) (26 + k)) (fun i _ => 6 - (intOf i).toNat)
      case atStart => exact ⟨0, by omega, rfl, HM.out⟩
      case round =>
        obtain ⟨k, hk, rfl, hls⟩ := hrel
        have HLS := Lib.hid hls
        clear hls HM
        by_cases hlt : k < 6
        · have hkI : (k : Int) < 6 := by omega
          have hmod : (k : Int).tmod 2 = (k : Int) % 2 := Int.tmod_eq_emod_of_nonneg (by omega)
          have HMB := Lib.hid (show (k : Int) % 2 = 0 ∨ (k : Int) % 2 = 1 by omega)
          go_wp2_with fail
          refine (knm_calls k hlt _).mono ?_
          rintro e w6 ⟨rfl, hb6⟩
          have HL6 := Lib.hid (HLS.out.below hb6)
          clear hb6
          go_wp2_with fail
          refine (HL6.out.do_ (by omega) HT.out (evT (knm k) .zero) ((k : Int) % 2) (evT_fair (by rw [show (knm k).size = 2 from rfl]; decide) zero_ok (by decide)) (er_more HDD.out.1 hlt HMB.out)).mono ?_
          rintro e w7 ⟨rfl, h7, -⟩
          have HL7 := Lib.hid h7
          clear h7
          go_wp2_with fail
          go_roundw
          case rel => exact ⟨k + 1, by omega, by go_num, HL7.out⟩
          case measure => simp [intOf]; omega
        · obtain rfl : k = 6 := by omega
          go_wp2_with fail
          refine (HLS.out.try_ (by omega) HT.out (evT sMore .zero) 0 (evT_fair (by decide) zero_ok (by decide)) (er_limit D)).mono ?_
          rintro e w6 ⟨rfl, h6, -⟩
          have H6 := Lib.hid h6
          clear h6
          go_wp2_with fail
          refine (H6.out.deals (n := 8) rfl).mono ?_
          rintro e w7 ⟨A7, c7, rfl, h7, -⟩
          have H7 := Lib.hid h7
          clear h7
          go_wp2_with fail
          refine (H7.out.waits (er_waits6 HDD.out.1 HDD.out.2)).mono ?_
          rintro e w8 ⟨A8, c8, rfl, -, -, h8, -⟩
          have H8 := Lib.hid h8
          clear h8
          go_wp2_with fail
          refine (wakes14_calls _ (HT.out.below H8.out.bel)).mono ?_
          rintro e w9 ⟨rfl, hb9⟩
          have HB9 := Lib.hid (bl_step hb9 H8.out.bel)
          clear hb9
          go_wp2_with fail
          go_ret
          exact ⟨rfl, HB9.out⟩
end Go.Proofs.YtnekcijganhknaaGreatDoor
