/- A command's event: its names; what it may be. -/
import Derived.Test.YtapbkomicihkkaaGreatDoorPlan1
import Derived.Deep.RegionWith
import Derived.Laws.IdiomStrings
import Derived.Lib.ItoaLen
import Derived.Test.YtapbkomicihkkaaGreatDoorEvent1
namespace Go.Proofs.YtapbkomicihkkaaGreatDoor
open Go.RowKit
set_option linter.unusedVariables false
set_option linter.unusedSimpArgs false

theorem one_back (u : Nat) (hu : u < 256) (W : World) (b : Nat) (hc : W.cell? ⟨b, 0, none⟩ = some (.int .u8 (u : Int))) :
    (convert 51 9 (.slice (some ⟨b, 0, none⟩) 1 1)).run Tryz.prog W = .ok (.string ⟨#[UInt8.ofNat u]⟩) W := by
  refine run_convert_bytes_back W _ _ 5 ⟨b, 0, none⟩ 1 [UInt8.ofNat u] (by kernel_rfl) (by kernel_rfl) (by kernel_rfl) ?_
  intro j hj
  have : j = 0 := by simpa using hj
  subst this
  simp only [Addr.add, if_true, List.getElem_cons_zero]
  rw [hc]
  simp
  omega
set_option maxRecDepth 100000 in
set_option maxHeartbeats 1000000 in
theorem digits_small (u : Nat) (hu : u < 10) (w : World) :
    Calls Tryz.prog 62 #[.int .i64 u] w fun e w' => e = .returned (.string ⟨(Lib.decDigits u).toArray⟩) ∧ Below w.heap.size w w' := by
  rw [Lib.decDigits_one hu]
  have hcv := fun W b hc => one_back (48 + u) (by omega) W b hc
  have hbA := bl_alloc (bl_refl w) (.cells #[.int .u8 (48 + (u : Int))] 5)
  rw [show ((48 + u : Nat) : Int) = 48 + (u : Int) by omega] at hcv
  generalize UInt8.ofNat (48 + u) = c at *
  go_enter Tryz.func62, Tryz.ntmps62
  go_wp2
  go_ret
  exact ⟨rfl, hbA⟩
theorem str_app (a b : List UInt8) : (⟨a.toArray⟩ : ByteArray) ++ ⟨b.toArray⟩ = ⟨(a ++ b).toArray⟩ := by
  apply ByteArray.ext
  simp
set_option maxRecDepth 100000 in
set_option maxHeartbeats 1000000 in
theorem digits_nat : ∀ (u : Nat), u ≤ 9223372036854775807 → ∀ w, Calls Tryz.prog 62 #[.int .i64 u] w fun e w' => e = .returned (.string ⟨(Lib.decDigits u).toArray⟩) ∧ Below w.heap.size w w' := by
  intro u
  induction u using Nat.strongRecOn with
  | _ u ih =>
    intro hu w
    by_cases h : u < 10
    · exact digits_small u h w
    · have hd := fun w => ih (u / 10) (by omega) (by omega) w
      have hsz : (⟨(Lib.decDigits (u / 10)).toArray⟩ : ByteArray).size ≤ 20 := by
        have := Lib.nDigits_le20 (u / 10) (by omega)
        rw [← Lib.decDigits_length] at this
        exact this
      have HA : Hid ((⟨(Lib.decDigits (u / 10)).toArray⟩ : ByteArray) ++ ⟨#[UInt8.ofNat (48 + u % 10)]⟩ = ⟨(Lib.decDigits (u / 10) ++ [UInt8.ofNat (48 + u % 10)]).toArray⟩) := str_app _ _
      have HE : Hid (Lib.decDigits u = Lib.decDigits (u / 10) ++ [UInt8.ofNat (48 + u % 10)]) := by
        show _ = _
        conv => lhs; rw [Lib.decDigits, dif_neg h]
      clear ih
      rw [HE.out, ← HA.out]
      clear HE HA
      generalize (⟨(Lib.decDigits (u / 10)).toArray⟩ : ByteArray) = S at *
      have HD := Lib.hid hd
      clear hd
      have hcv := fun W b hc => one_back (48 + u % 10) (by omega) W b hc
      have hq : IntKind.i64.wrap ((u : Int) / 10) = ((u / 10 : Nat) : Int) := by rw [IntWalk.i64_in _ (by omega)]; rfl
      have ht : ((u : Int)).tmod 10 = ((u % 10 : Nat) : Int) := by rw [Int.tmod_eq_emod_of_nonneg (by omega)]; omega
      have hs : IntKind.i64.wrap (48 + ((u % 10 : Nat) : Int)) = ((48 + u % 10 : Nat) : Int) := by rw [IntWalk.i64_in _ (by omega)]; rfl
      have hs2 : IntKind.u8.wrap ((48 + u % 10 : Nat) : Int) = ((48 + u % 10 : Nat) : Int) := IntWalk.u8_in _ (by omega)
      have hlt : ((u : Int) < 10) = False := eq_false (by omega)
      have h0 : ((u : Int) < 0) = False := eq_false (by omega)
      generalize UInt8.ofNat (48 + u % 10) = c at *
      have h1s : (⟨#[c]⟩ : ByteArray).size = 1 := rfl
      generalize (⟨#[c]⟩ : ByteArray) = C at *
      generalize hm : 48 + u % 10 = m at *
      generalize hmm : u % 10 = mm at *
      generalize hqq : u / 10 = q at *
      have HMM := Lib.hid hmm; have HMQ := Lib.hid hqq; have HM := Lib.hid hm
      clear hmm hqq hm
      go_enter Tryz.func62, Tryz.ntmps62
      go_wp2_with fail
      go_region_with (go_at_call 62; refine (HD.out _).mono ?_; rintro e w' ⟨rfl, hb⟩; have hbc := (bcell hb).1)
      all_goals go_wp2_with fail
      all_goals go_ret
      all_goals
        refine ⟨rfl, ?_⟩
        repeat (first | exact bl_refl _ | refine bl_alloc ?_ _ | refine bl_drew ?_ | refine bl_drewN ?_ _ | refine bl_step (by assumption) ?_)
set_option maxRecDepth 100000 in
set_option maxHeartbeats 1000000 in
theorem digits_neg : ∀ (u : Nat), 1 ≤ u → u ≤ 9223372036854775808 → ∀ w, Calls Tryz.prog 62 #[.int .i64 (-(u : Int))] w fun e w' => e = .returned (.string ⟨(45 :: Lib.decDigits u).toArray⟩) ∧ Below w.heap.size w w' := by
  intro u
  induction u using Nat.strongRecOn with
  | _ u ih =>
    intro h1 hu w
    have hd0 := fun w => digits_small (u % 10) (by omega) w
    have ht : -((-(u : Int)).tmod 10) = ((u % 10 : Nat) : Int) := by rw [Int.neg_tmod, Int.tmod_eq_emod_of_nonneg (by omega)]; omega
    have hsz0 : (⟨(Lib.decDigits (u % 10)).toArray⟩ : ByteArray).size ≤ 20 := by
      have := Lib.nDigits_le20 (u % 10) (by omega)
      rw [← Lib.decDigits_length] at this
      exact this
    by_cases h : u < 10
    · have e : u % 10 = u := by omega
      rw [e] at hd0 ht hsz0
      have HA : Hid ((⟨#[45]⟩ : ByteArray) ++ ⟨(Lib.decDigits u).toArray⟩ = ⟨(45 :: Lib.decDigits u).toArray⟩) := str_app [45] _
      rw [← HA.out]
      generalize (⟨(Lib.decDigits u).toArray⟩ : ByteArray) = S at *
      have HD := Lib.hid hd0
      clear hd0 e ih
      have hlt : (-(u : Int) > -10) := by omega
      have hlt0 : (-(u : Int) < 0) := by omega
      go_enter Tryz.func62, Tryz.ntmps62
      go_wp2_with fail
      rw [show ((u : Int) % 10) = (u : Int) by omega]
      refine (HD.out _).mono ?_
      rintro e w' ⟨rfl, hb⟩
      go_wp2_with fail
      go_ret
      exact ⟨rfl, hb⟩
    · have hd := fun w => ih (u / 10) (by omega) (by omega) (by omega) w
      have hq : IntKind.i64.wrap ((-(u : Int)).tdiv 10) = -((u / 10 : Nat) : Int) := by
        rw [Int.neg_tdiv, Int.tdiv_eq_ediv_of_nonneg (by omega), IntWalk.i64_in _ (by omega)]; omega
      have hsz : (⟨(45 :: Lib.decDigits (u / 10)).toArray⟩ : ByteArray).size ≤ 21 := by
        have := Lib.nDigits_le20 (u / 10) (by omega)
        rw [← Lib.decDigits_length] at this
        show (45 :: Lib.decDigits (u / 10)).length ≤ 21
        simp; omega
      have HE : Hid (Lib.decDigits u = Lib.decDigits (u / 10) ++ Lib.decDigits (u % 10)) := by
        show _ = _
        rw [Lib.decDigits_one (show u % 10 < 10 by omega)]
        conv => lhs; rw [Lib.decDigits, dif_neg h]
      have HA : Hid ((⟨(45 :: Lib.decDigits (u / 10)).toArray⟩ : ByteArray) ++ ⟨(Lib.decDigits (u % 10)).toArray⟩ = ⟨(45 :: (Lib.decDigits (u / 10) ++ Lib.decDigits (u % 10))).toArray⟩) := str_app (45 :: _) _
      rw [HE.out, ← HA.out]
      clear HE HA ih
      generalize (⟨(45 :: Lib.decDigits (u / 10)).toArray⟩ : ByteArray) = S at *
      generalize (⟨(Lib.decDigits (u % 10)).toArray⟩ : ByteArray) = C at *
      have HD := Lib.hid hd0; have HD2 := Lib.hid hd
      clear hd0 hd
      have hlt : ¬ (-(u : Int) > -10) := by omega
      have hlt0 : (-(u : Int) < 0) := by omega
      go_enter Tryz.func62, Tryz.ntmps62
      go_wp2_with fail
      rw [show ((u : Int) % 10) = ((u % 10 : Nat) : Int) by omega]
      refine (HD.out _).mono ?_
      rintro e w' ⟨rfl, hb⟩
      go_wp2_with fail
      rw [show (-((u : Int) / 10)) = -((u / 10 : Nat) : Int) by omega]
      refine (HD2.out _).mono ?_
      rintro e w2 ⟨rfl, hb2⟩
      go_wp2_with fail
      go_ret
      exact ⟨rfl, bl_step hb2 hb⟩
theorem digits_calls (n : Int) (h0 : -9223372036854775808 ≤ n) (h1 : n ≤ 9223372036854775807) (w : World) :
    Calls Tryz.prog 62 #[.int .i64 n] w fun e w' => e = .returned (.string (itoaS n)) ∧ Below w.heap.size w w' := by
  by_cases h : n < 0
  · obtain ⟨u, rfl⟩ : ∃ u : Nat, n = -(u : Int) := ⟨n.natAbs, by omega⟩
    have := digits_neg u (by omega) (by omega) w
    unfold itoaS
    rw [Lib.itoa_neg u (by omega)]
    exact this
  · obtain ⟨u, rfl⟩ : ∃ u : Nat, n = (u : Int) := ⟨n.toNat, by omega⟩
    have := digits_nat u (by omega) w
    unfold itoaS
    rw [Lib.itoa_nonneg]
    exact this
end Go.Proofs.YtapbkomicihkkaaGreatDoor
namespace Go.Proofs.YtapbkomicihkkaaGreatDoor
open Go.RowKit
set_option linter.unusedVariables false
set_option linter.unusedSimpArgs false

def nameS (u : Nat) : ByteArray := ⟨#[116]⟩ ++ ⟨#[UInt8.ofNat (97 + u)]⟩
set_option maxRecDepth 100000 in
set_option maxHeartbeats 1000000 in
theorem kname_calls (a : Int) (ha : IsInt64 a) (w : World) :
    Calls Tryz.prog 58 #[.string ⟨#[116]⟩, .int .i64 a, .int .i64 5] w fun e w' => e = .returned (.string (nameS (a % 5).toNat)) ∧ Below w.heap.size w w' := by
  unfold IsInt64 at ha
  have hw := within_calls a 5 w (by omega) (by omega)
  obtain ⟨u, hu⟩ : ∃ u : Nat, a % 5 = (u : Int) := ⟨(a % 5).toNat, by omega⟩
  have hu5 : u < 5 := by omega
  rw [hu] at hw ⊢
  rw [Int.toNat_natCast]
  have hcv := fun W b hc => one_back (97 + u) (by omega) W b hc
  have hbA := bl_alloc (bl_refl w) (.cells #[.int .u8 (97 + (u : Int))] 5)
  rw [show ((97 + u : Nat) : Int) = 97 + (u : Int) by omega] at hcv
  have hs2 : IntKind.u8.wrap (97 + (u : Int)) = 97 + (u : Int) := IntWalk.u8_in _ (by omega)
  have HN : Hid (nameS u = ⟨#[116]⟩ ++ ⟨#[UInt8.ofNat (97 + u)]⟩) := rfl
  rw [HN.out]
  clear HN hu ha
  generalize UInt8.ofNat (97 + u) = c at *
  have h1s : (⟨#[c]⟩ : ByteArray).size = 1 := rfl
  generalize (⟨#[c]⟩ : ByteArray) = C at *
  go_enter Tryz.func58, Tryz.ntmps58
  go_wp2_with fail
  refine (hw).mono ?_
  rintro e w1 ⟨rfl, rfl⟩
  go_wp2_with fail
  go_ret
  exact ⟨rfl, hbA⟩
theorem nameS_size (u : Nat) : (nameS u).size = 2 := by simp [nameS]; rfl
/-- A command: its numbers, its word; its plan beside it. -/
structure Cm where
  kind : Int
  a : Int
  b : Int
  day : Int
  value : Int
  word : ByteArray
structure Cm.ok (c : Cm) : Prop where
  kind : IsInt64 c.kind
  a : IsInt64 c.a
  b : IsInt64 c.b
  day : IsInt64 c.day
  value : IsInt64 c.value
  word : c.word.size ≤ 9223372036854775807
def Cm.val (c : Cm) (vN vW : Value) : Value := .agg #[.int .i64 c.kind, .int .i64 c.a, .int .i64 c.b, .int .i64 c.day, .int .i64 c.value, .string c.word, vN, vW]
def Cm.cells (c : Cm) (vN vW : Value) : Array Value := #[.int .i64 c.kind, .int .i64 c.a, .int .i64 c.b, .int .i64 c.day, .int .i64 c.value, .string c.word, vN, vW]
/-- A term that a command gives: none, or a plan's contract. -/
def Tm.fit (t : Tm) : Prop := t = .odd .nilIface ∨ (t.fine ∧ t.parts ≤ 34)
theorem Tm.fit.ok {t : Tm} (h : t.fit) : t.ok := by
  rcases h with rfl | h
  · exact .inl rfl
  · exact h.1.ok
/-- An event that a command gives. -/
structure Ev.fit (e : Ev) : Prop where
  kind : 0 ≤ e.kind ∧ e.kind ≤ 8
  id : e.id.size ≤ 100
  name : e.name.size ≤ 100
  label : e.label.size ≤ 100
  cur : e.cur.size ≤ 100
  day : IsInt64 e.day
  value : IsInt64 e.value
  term : e.term.fit
/-- The document's event in memory. -/
def EvAt (x : Nat) (w : World) (e : Ev) (v : Value) : Prop := ∃ c0 c1 c2 c3, v = .agg #[.int .i64 e.kind, .string e.id, .string e.name, .string e.label, .string e.cur, .int .i64 e.day, .int .i64 e.value, c0, c1, c2, c3] ∧ TrAt x w e.term.tr (.agg #[c0, c1, c2, c3])
theorem EvAt.below {x : Nat} {w w' : World} {e : Ev} {v : Value} (h : EvAt x w e v) (hb : Below w.heap.size w w') : EvAt x w' e v := by
  obtain ⟨c0, c1, c2, c3, h1, h2⟩ := h
  exact ⟨c0, c1, c2, c3, h1, h2.below hb⟩
theorem EvAt.mono {x y : Nat} {w : World} {e : Ev} {v : Value} (h : EvAt x w e v) (hx : y ≤ x) : EvAt y w e v := by
  obtain ⟨c0, c1, c2, c3, h1, h2⟩ := h
  exact ⟨c0, c1, c2, c3, h1, h2.mono hx⟩
def GivesEv (w : World) (e : Ending) (w' : World) : Prop := ∃ (v : Ev) (x : Value), e = .returned x ∧ EvAt w.heap.size w' v x ∧ v.fit ∧ Below w.heap.size w w'
end Go.Proofs.YtapbkomicihkkaaGreatDoor
