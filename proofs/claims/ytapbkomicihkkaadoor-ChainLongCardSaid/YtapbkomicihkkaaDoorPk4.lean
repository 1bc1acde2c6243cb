/- An event, an entry, as bytes. -/
import Derived.Test.YtapbkomicihkkaaDoorPk3
namespace Go.Proofs.YtapbkomicihkkaaDoor
open Go.RowKit
set_option linter.unusedVariables false
set_option linter.unusedSimpArgs false

/-- An event's texts are none too long. -/
structure Ev.small (e : Ev) : Prop where
  ok : e.ok
  meas : e.term.meas ≤ 1099511627776
  id : e.id.size ≤ 1000000
  name : e.name.size ≤ 1000000
  label : e.label.size ≤ 1000000
  cur : e.cur.size ≤ 1000000
theorem pfield_calls (e : Ev) (h : e.small) (c : UInt8) (hc : c ∈ ordB) (w : World) (ht : TabOk w) :
    Calls Tryd.prog 96 #[e.val, .int .i32 (c.toNat : Int)] w (RetPk w (e.fieldB c) (e.fieldE c)) := by
  simp only [ordB, List.mem_cons, List.not_mem_nil, or_false] at hc
  rcases hc with rfl | rfl | rfl | rfl | rfl | rfl | rfl
  · exact pfield_I e h.ok h.id w
  · exact pfield_N e h.ok h.name w
  · exact pfield_L e h.ok h.label w
  · exact pfield_C e h.ok h.cur w
  · exact pfield_D e h.ok w
  · exact pfield_V e h.ok w
  · exact pfield_T e h.ok h.meas w ht
theorem write_size (t : Tm) : t.write.1.size ≤ 1000 := by
  unfold Tm.write
  split
  · unfold toldS; split
    · decide
    · show t.text.size ≤ 1000; omega
  · show (⟨#[]⟩ : ByteArray).size ≤ 1000; decide
theorem Ev.fieldB_len (e : Ev) (h : e.small) (c : UInt8) : (e.fieldB c).length ≤ 1000010 := by
  have hw := write_size e.term
  have h1 := h.id; have h2 := h.name; have h3 := h.label; have h4 := h.cur
  unfold Ev.fieldB
  split
  · rw [beI_length]; omega
  split
  · rw [beI_length]; omega
  split
  · unfold rowW; rw [List.length_cons, List.length_cons, ba_len]; omega
  · unfold rowB Ev.strOf
    rw [List.length_cons, ba_len]
    split
    · omega
    split
    · omega
    split
    · omega
    split
    · omega
    · show 0 + 1 ≤ _; omega
theorem ordF_mem (l o : List UInt8) {c : UInt8} (h : c ∈ ordF l o) : c ∈ o ∧ c ∈ l := by
  unfold ordF at h
  obtain ⟨r, hr, hc⟩ := List.mem_flatMap.1 h
  obtain ⟨h1, h2⟩ := List.mem_filter.1 hc
  obtain rfl : c = r := by simpa using h2
  exact ⟨hr, h1⟩
theorem fields_T (k : Int) (h : (84 : UInt8) ∈ fieldsL k) : k = 2 := by
  revert h
  unfold fieldsL
  repeat' split
  all_goals first
    | (intro _; assumption)
    | (intro h; exact absurd h (by decide))
theorem order_E (e : Ev) (hz : e.check = 0) {c : UInt8} (h : c ∈ Ev.order e.kind) : e.fieldE c = 0 := by
  unfold Ev.fieldE
  split
  · rename_i hc
    subst hc
    have hk := fields_T e.kind (ordF_mem _ _ h).2
    unfold Ev.check at hz
    split at hz
    · exact absurd hz (by decide)
    split at hz
    · exact absurd hz (by decide)
    split at hz
    · exact absurd hz (by decide)
    first | exact hz | (rw [if_pos hk] at hz; exact hz)
  · rfl
theorem order_len (k : Int) : (Ev.order k).length ≤ 21 := by
  have h1 := ordF_len (fieldsL k) ordB
  have h2 := fieldsL_len k
  have h3 := Nat.mul_le_mul (show ordB.length ≤ 7 by decide) h2
  unfold Ev.order
  omega
/-- An event's bytes. -/
def Ev.bytes (e : Ev) : List UInt8 := UInt8.ofNat (e.kind % 256).toNat :: (Ev.order e.kind).flatMap e.fieldB
def Ev.pack (e : Ev) : List UInt8 := if e.check = 0 then e.bytes else []
theorem Ev.bytes_len (e : Ev) (h : e.small) (j : Nat) : ((Ev.order e.kind).take j |>.flatMap e.fieldB).length ≤ 21000210 := by
  have h1 := order_len e.kind
  have h2 : ∀ l : List UInt8, (l.flatMap e.fieldB).length ≤ l.length * 1000010 := by
    intro l
    induction l with
    | nil => simp
    | cons c l ih =>
      rw [List.flatMap_cons, List.length_append, List.length_cons, Nat.succ_mul]
      have := e.fieldB_len h c
      omega
  have h3 := h2 ((Ev.order e.kind).take j)
  have h4 : ((Ev.order e.kind).take j).length ≤ 21 := by rw [List.length_take]; omega
  omega
theorem Own.apart {w0 w1 W : World} {e e' size size' n n' : Nat} {v v' : Value} {xs xs' : List Value} (h : Own w0 W e size v n xs) (h' : Own w1 W e' size' v' n' xs') (ne : e ≠ e') : v.ownBlock = none ∨ v.ownBlock ≠ v'.ownBlock := by
  rcases h.2 with ⟨rfl, _⟩ | ⟨g, cap, cur, rfl, _, hh, _⟩
  · exact .inl rfl
  · right
    rcases h'.2 with ⟨rfl, _⟩ | ⟨g', cap', cur', rfl, _, hh', _⟩
    · intro e; cases e
    · intro e
      have : g = g' := by simpa [Value.ownBlock] using e
      subst this
      rw [hh] at hh'
      injection hh' with hh'
      injection hh' with _ h2
      exact ne h2
set_option maxRecDepth 100000 in
set_option maxHeartbeats 4000000 in
theorem pevent_calls (e : Ev) (h : e.small) (w : World) (ht : TabOk w) :
    Calls Tryd.prog 79 #[e.val] w (RetPk w e.pack e.check) := by
  have hck := fun W hW => echeck_calls e h.ok h.meas W hW
  have hfc := fun c hc W hW => pfield_calls e h c hc W hW
  have hpf := fun W => pfields_calls e.kind W
  have hlen := e.bytes_len h
  have hcc := e.term.cells_ h.ok.term
  have ho7 := e.term.one_ h.ok.term
  have hb0 := Blk.new w e.cells 84
  have hbA := bl_alloc (bl_refl w) (.cells e.cells 84)
  have hev : e.val = .agg #[.int .i64 e.kind, .string e.id, .string e.name, .string e.label, .string e.cur, .int .i64 e.day, .int .i64 e.value, e.term.val] := rfl
  rw [hev] at hck hfc ⊢
  clear hev
  unfold Ev.cells at *
  obtain ⟨f0, f1, f2, f3, f4, f5, f6, f7⟩ := Blk.evs (e := e) hb0
  obtain ⟨W1, hW1⟩ : ∃ W1, w.alloc (.cells #[.int .i64 e.kind, .string e.id, .string e.name, .string e.label, .string e.cur, .int .i64 e.day, .int .i64 e.value, e.term.val] 84) = W1 := ⟨_, rfl⟩
  rw [hW1] at f0 f1 f2 f3 f4 f5 f6 f7 hbA hb0
  have HT := Lib.hid ht; have HW1 := Lib.hid hW1; have HCK := Lib.hid hck; have HFC := Lib.hid hfc; have HPF := Lib.hid hpf; have HB0 := Lib.hid hb0; have HBA := Lib.hid hbA; have HLEN := Lib.hid hlen
  clear hW1 hck hfc hpf hb0 hbA hlen ht
  by_cases hz : e.check = 0
  · have hoe := fun c hc => order_E e hz (c := c) hc
    have HP : Hid (e.pack = e.bytes) := by show _ = _; unfold Ev.pack; rw [if_pos hz]
    have HOE := Lib.hid hoe
    rw [hz] at HCK ⊢
    rw [HP.out]
    clear hz hoe HP
    have hmem := fun c (hc : c ∈ Ev.order e.kind) => (ordF_mem _ _ hc).1
    have HMEM := Lib.hid hmem
    have hol := order_len e.kind
    unfold Ev.bytes
    have HOL := Lib.hid hol
    clear hmem hol
    go_enter Tryd.func79, Tryd.ntmps79
    go_upto_region 1 with fail
    rw [HW1.out]
    go_wp2_with fail
    refine (HCK.out _ (HT.out.below HBA.out)).mono ?_
    rintro en w2 ⟨rfl, hb2⟩
    clear f0 f1 f2 f3 f4 f5 f6 f7
    have HB2 := Lib.hid (bl_step hb2 HBA.out); have HK2 := Lib.hid (HB0.out.below hb2)
    clear hb2
    obtain ⟨f0, f1, f2, f3, f4, f5, f6, f7⟩ := Blk.evs (e := e) HK2.out
    have hbs := fun (x : Int) (W : World) => bs_u8 x W
    go_upto_region 5 with fail
    clear hbs
    have hO0 : Own w (w2.alloc (.cells #[.int .u8 (e.kind % 256)] 5)) 5 1 (.slice (some ⟨w2.heap.size, 0, none⟩) 1 1) 1 [.int .u8 (e.kind % 256)] := Own.of_blk (w0 := w) (Blk.new w2 #[.int .u8 (e.kind % 256)] 5) (xs := [.int .u8 (e.kind % 256)]) HB2.out.size rfl (by show 1 ≤ maxLen; decide)
    have hB3 := bl_alloc HB2.out (.cells #[.int .u8 (e.kind % 256)] 5)
    have hK3 := HK2.out.below (bl_alloc (bl_refl _) (.cells #[.int .u8 (e.kind % 256)] 5))
    clear f0 f1 f2 f3 f4 f5 f6 f7
    obtain ⟨W3, hW3⟩ : ∃ W3, w2.alloc (.cells #[.int .u8 (e.kind % 256)] 5) = W3 := ⟨_, rfl⟩
    rw [hW3] at hO0 hB3 hK3 ⊢
    obtain ⟨f0, f1, f2, f3, f4, f5, f6, f7⟩ := Blk.evs (e := e) hK3
    obtain ⟨v0, hv0⟩ : ∃ v0, Value.slice (some ⟨w2.heap.size, 0, none⟩) 1 1 = v0 := ⟨_, rfl⟩
    rw [hv0] at hO0 ⊢
    have HO0 := Lib.hid hO0; have HB3 := Lib.hid hB3; have HK3 := Lib.hid hK3
    clear hO0 hB3 hK3 HK2 HB2 hW3 hv0
    have hpf := HPF.out
    unfold RetRunes at hpf
    have HPF2 := Lib.hid hpf
    clear hpf HPF
    clear w2
    go_wp2_with fail
    refine (HPF2.out _).mono ?_
    rintro en w4 ⟨vr, rfl, hR, hb4⟩
    obtain ⟨A, cr, rfl, hRd, -, -⟩ := hR.read
    have hO4 := HO0.out.below hb4
    have hB4 := bl_step hb4 HB3.out
    have hK4 := HK3.out.below hb4
    have hR4 := hR.mono HB3.out.size
    clear f0 f1 f2 f3 f4 f5 f6 f7 HO0 HB3 HK3 hR hb4 HPF2 hRd
    obtain ⟨c0, hc0⟩ : ∃ c0, UInt8.ofNat (e.kind % 256).toNat = c0 := ⟨_, rfl⟩
    have hc0v : Value.int .u8 (e.kind % 256) = .int .u8 (c0.toNat : Int) := by
      rw [← hc0]; congr 1; simp; omega
    rw [hc0v] at hO4
    have HC0 := Lib.hid hc0
    clear hc0v hc0
    generalize Ev.order e.kind = ol at *
    obtain ⟨N, hN⟩ : ∃ N, ol.length = N := ⟨_, rfl⟩
    rw [hN] at hR4 HOL ⊢
    have HN := Lib.hid hN
    clear hN
    go_wp2_with fail
    go_loopw [5, 23] (fun o i wr => ∃ j m : Nat, j ≤ N ∧ i = .int .i64 j ∧ m = 1 + ((ol.take j).flatMap e.fieldB).length ∧ Own w wr 5 1 o m (byts (c0 :: (ol.take j).flatMap e.fieldB)) ∧ Own w wr 21 1 (.slice A N cr) N (rvals ol) ∧ Blk wr w.heap.size #[.int .i64 e.kind, .string e.id, .string e.name, .string e.label, .string e.cur, .int .i64 e.day, .int .i64 e.value, e.term.val] 84 ∧ Below w.heap.size w wr) (fun _ i _ => N - (intOf i).toNat)
    case atStart => exact ⟨0, 1, by omega, rfl, by simp, by simpa [byts] using hO4, hR4, hK4, hB4⟩
    case round =>
      clear hO4 hB4 hK4 hR4
      obtain ⟨j, m, hj, rfl, hm, hO, hR, hK, hB⟩ := hrel
      have hml : m ≤ 21000211 := by have := HLEN.out j; omega
      have hNl := HOL.out
      have HM := Lib.hid hm
      clear hm
      by_cases hlt : j < N
      · have hjl : j < ol.length := by rw [HN.out]; exact hlt
        have hcm : ol[j] ∈ ol := List.getElem_mem hjl
        have hfm := List.take_succ_eq_append_getElem hjl
        obtain ⟨A1, c1, hv, hRd, -, -⟩ := hR.read
        obtain ⟨rfl, rfl⟩ : A = A1 ∧ cr = c1 := by injection hv with h1 _ h2; exact ⟨h1, h2⟩
        obtain ⟨ad, rfl, hcell⟩ := hRd j (.int .i32 (ol[j].toNat : Int)) (by simp [rvals, hjl])
        generalize ol[j] = c at *
        have hfc := HFC.out c (HMEM.out c hcm) wr (HT.out.below hB)
        rw [HOE.out c hcm] at hfc
        have hfl := e.fieldB_len h c
        have HFL := Lib.hid hfm
        have HFC2 := Lib.hid hfc
        have hz0 : (0 : Int) ≤ (j : Int) := by omega
        have hz1 : (j : Int) < (N : Int) := by omega
        clear hfc hfm hv hRd hcm hjl
        obtain ⟨f0, f1, f2, f3, f4, f5, f6, f7⟩ := Blk.evs (e := e) hK
        have HO := Lib.hid hO; have HR := Lib.hid hR; have HK := Lib.hid hK; have HB := Lib.hid hB
        clear hO hR hK hB
        unfold RetPk at HFC2
        go_wp2_with fail
        refine (HFC2.out).mono ?_
        rintro en w5 ⟨vb, rfl, hOb, hb5⟩
        obtain ⟨Ab, cb, rfl, hRb, -, -⟩ := hOb.read
        have hO5 := HO.out.below hb5
        have hR5 := HR.out.below hb5
        have hK5 := HK.out.below hb5
        have hB5 := bl_step hb5 HB.out
        clear f0 f1 f2 f3 f4 f5 f6 f7 hcell HO HR HK HB hOb hb5 HFC2
        have HO5 := Lib.hid hO5; have HR5 := Lib.hid hR5; have HK5 := Lib.hid hK5; have HB5 := Lib.hid hB5; have HRb := Lib.hid hRb
        clear hO5 hR5 hK5 hB5 hRb
        go_wp2_with (at_builtin; refine append_any (w0 := w) rfl _ _ 74 5 _ 1 1 rfl Tryd.underlying74 info_u8 rfl (by decide) _ m _ Ab _ cb _ HO5.out HB5.out HRb.out rfl rfl (by rw [byts_length, Nat.mul_one]) (byts_one _) (by omega) (by omega) ?_; intro v1 w6 HO6 HB6 HG6)
        go_roundw
        case rel => exact ⟨j + 1, m + (e.fieldB c).length, by omega, by go_num, by rw [HFL.out, List.flatMap_append, List.length_append, HM.out]; simp [Nat.add_assoc], by rw [HFL.out, List.flatMap_append, ← List.cons_append]; simpa [byts] using HO6, HR5.out.kept HG6 (HR5.out.apart HO5.out (by decide)), HK5.out.grown HG6 (HO5.out.ne_blk HK5.out (by decide)), HB6⟩
        case measure => simp [intOf]; omega
      · obtain rfl : j = N := by omega
        have hO7 := hO
        rw [show ol.take j = ol by rw [List.take_of_length_le (by rw [HN.out]; exact Nat.le_refl _)]] at hO7
        have hM := HM.out
        rw [show ol.take j = ol by rw [List.take_of_length_le (by rw [HN.out]; exact Nat.le_refl _)]] at hM
        have HO7 := Lib.hid hO7; have HB7 := Lib.hid hB
        clear hO hR hK hB hO7
        go_wp2_with fail
        go_ret2
        exact RetPk.of (by rw [HC0.out]) (by rw [List.length_cons]; omega) HO7.out HB7.out
  · have HP : Hid (e.pack = []) := by show _ = _; unfold Ev.pack; rw [if_neg hz]
    have hzb : (e.check != 0) = true := by simp [hz]
    rw [HP.out]
    generalize e.check = er at *
    clear hz HP
    go_enter Tryd.func79, Tryd.ntmps79
    go_upto_region 1 with fail
    rw [HW1.out]
    go_wp2_with fail
    refine (HCK.out _ (HT.out.below HBA.out)).mono ?_
    rintro en w2 ⟨rfl, hb2⟩
    go_wp2_with fail
    go_ret2
    exact RetPk.of rfl rfl (Own.nil _ _ _ _) (bl_step hb2 HBA.out)
end Go.Proofs.YtapbkomicihkkaaDoor
