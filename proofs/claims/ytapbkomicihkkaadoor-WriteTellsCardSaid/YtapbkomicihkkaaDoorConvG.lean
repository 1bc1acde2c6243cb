/- Any tree gives a number, a contract: of no more parts. -/
import Derived.Test.YtapbkomicihkkaaDoorPlan1
import Derived.Test.YtapbkomicihkkaaDoorConv1
import Derived.Test.YtapbkomicihkkaaDoorRefG
namespace Go.Proofs.YtapbkomicihkkaaDoor
open Go.RowKit
set_option linter.unusedVariables false
set_option linter.unusedSimpArgs false

def RowP (x : Nat) (P : Nat → Prop) (w : World) (A : Option Addr) (cs : List Value) : Prop := (A = none ∧ cs = []) ∨ ∃ b, A = some ⟨b, 0, none⟩ ∧ x ≤ b ∧ (cs ≠ [] → P b) ∧ ∀ j (v : Value), cs[j]? = some v → w.cell? ⟨b, j, none⟩ = some v
mutual
def TrP (x : Nat) (P : Nat → Prop) (w : World) : Tr → Value → Prop
  | .mk kind s n ks, v => ∃ A c cs, v = .agg #[.int .i64 kind, .string s, .int .i64 n, .slice A ks.length c] ∧ RowP x P w A cs ∧ TrsP x P w ks cs
def TrsP (x : Nat) (P : Nat → Prop) (w : World) : List Tr → List Value → Prop
  | [], cs => cs = []
  | t :: ts, cs => ∃ c0 c1 c2 c3 rest, cs = c0 :: c1 :: c2 :: c3 :: rest ∧ TrP x P w t (.agg #[c0, c1, c2, c3]) ∧ TrsP x P w ts rest
end
mutual
theorem TrP.keep {x : Nat} {P P' : Nat → Prop} {w w' : World} (h : ∀ A cs, RowP x P w A cs → RowP x P' w' A cs) : ∀ (t : Tr) (v : Value), TrP x P w t v → TrP x P' w' t v
  | .mk kind s n ks, v, hv => by
    unfold TrP at hv ⊢
    obtain ⟨A, c, cs, h1, h2, h3⟩ := hv
    exact ⟨A, c, cs, h1, h _ _ h2, TrsP.keep h ks cs h3⟩
theorem TrsP.keep {x : Nat} {P P' : Nat → Prop} {w w' : World} (h : ∀ A cs, RowP x P w A cs → RowP x P' w' A cs) : ∀ (ts : List Tr) (cs : List Value), TrsP x P w ts cs → TrsP x P' w' ts cs
  | [], cs, hv => by unfold TrsP at hv ⊢; exact hv
  | t :: ts, cs, hv => by
    unfold TrsP at hv ⊢
    obtain ⟨c0, c1, c2, c3, rest, h1, h2, h3⟩ := hv
    exact ⟨c0, c1, c2, c3, rest, h1, TrP.keep h t _ h2, TrsP.keep h ts rest h3⟩
end
mutual
theorem TrP.of {x : Nat} {w : World} : ∀ (t : Tr) (v : Value), TrAt x w t v → TrP x (fun _ => True) w t v
  | .mk kind s n ks, v, hv => by
    obtain ⟨A, c, cs, rfl, hr, ht⟩ := hv.open_
    unfold TrP
    refine ⟨A, c, cs, rfl, ?_, TrsP.of ks cs ht⟩
    rcases hr with h | ⟨b, h1, h2, h3⟩
    · exact .inl h
    · exact .inr ⟨b, h1, h2, fun _ => trivial, h3⟩
theorem TrsP.of {x : Nat} {w : World} : ∀ (ts : List Tr) (cs : List Value), TrsAt x w ts cs → TrsP x (fun _ => True) w ts cs
  | [], cs, hv => by unfold TrsAt at hv; unfold TrsP; exact hv
  | t :: ts, cs, hv => by
    obtain ⟨c0, c1, c2, c3, rest, rfl, h0, hs⟩ := hv.uncons
    unfold TrsP
    exact ⟨c0, c1, c2, c3, rest, rfl, TrP.of t _ h0, TrsP.of ts rest hs⟩
end
mutual
theorem TrP.to {x : Nat} {w : World} {P : Nat → Prop} : ∀ (t : Tr) (v : Value), TrP x P w t v → TrAt x w t v
  | .mk kind s n ks, v, hv => by
    unfold TrP at hv
    obtain ⟨A, c, cs, rfl, hr, ht⟩ := hv
    refine TrAt.mk_ ?_ (TrsP.to ks cs ht)
    rcases hr with h | ⟨b, h1, h2, _, h3⟩
    · exact .inl h
    · exact .inr ⟨b, h1, h2, h3⟩
theorem TrsP.to {x : Nat} {w : World} {P : Nat → Prop} : ∀ (ts : List Tr) (cs : List Value), TrsP x P w ts cs → TrsAt x w ts cs
  | [], cs, hv => by unfold TrsP at hv; subst hv; exact TrsAt.nil _ _
  | t :: ts, cs, hv => by
    unfold TrsP at hv
    obtain ⟨c0, c1, c2, c3, rest, rfl, h0, hs⟩ := hv
    exact TrsAt.cons (TrP.to t _ h0) (TrsP.to ts rest hs)
end
theorem TrP.open_ {x : Nat} {P : Nat → Prop} {w : World} {t : Tr} {v : Value} (h : TrP x P w t v) : ∃ A c cs, v = .agg #[.int .i64 t.kind, .string t.s, .int .i64 t.n, .slice A t.ks.length c] ∧ RowP x P w A cs ∧ TrsP x P w t.ks cs := by
  cases t; unfold TrP at h; exact h
theorem TrP.mk_ {x : Nat} {P : Nat → Prop} {w : World} {k : Int} {s : ByteArray} {n : Int} {ks : List Tr} {A : Option Addr} {c : Nat} {cs : List Value} (hrow : RowP x P w A cs) (hts : TrsP x P w ks cs) : TrP x P w (.mk k s n ks) (.agg #[.int .i64 k, .string s, .int .i64 n, .slice A ks.length c]) := by unfold TrP; exact ⟨A, c, cs, rfl, hrow, hts⟩
theorem TrP.leaf (x : Nat) (P : Nat → Prop) (w : World) (k : Int) (s : ByteArray) (n : Int) (c : Nat) : TrP x P w (.mk k s n []) (.agg #[.int .i64 k, .string s, .int .i64 n, .slice none 0 c]) := TrP.mk_ (.inl ⟨rfl, rfl⟩) (by unfold TrsP; rfl)
theorem TrsP.uncons {x : Nat} {P : Nat → Prop} {w : World} {t : Tr} {ts : List Tr} {cs : List Value} (h : TrsP x P w (t :: ts) cs) : ∃ c0 c1 c2 c3 rest, cs = c0 :: c1 :: c2 :: c3 :: rest ∧ TrP x P w t (.agg #[c0, c1, c2, c3]) ∧ TrsP x P w ts rest := by unfold TrsP at h; exact h
theorem TrsP.nil (x : Nat) (P : Nat → Prop) (w : World) : TrsP x P w [] [] := by unfold TrsP; rfl
theorem TrsP.length {x : Nat} {P : Nat → Prop} {w : World} : ∀ {ts : List Tr} {cs : List Value}, TrsP x P w ts cs → cs.length = ts.length * 4
  | [], cs, h => by unfold TrsP at h; subst h; rfl
  | t :: ts, cs, h => by
    obtain ⟨c0, c1, c2, c3, rest, rfl, _, hs⟩ := h.uncons
    have := TrsP.length hs
    simp only [List.length_cons, this]; omega
theorem TrsP.snoc {x : Nat} {P : Nat → Prop} {w : World} {t : Tr} {c0 c1 c2 c3 : Value} (ht : TrP x P w t (.agg #[c0, c1, c2, c3])) : ∀ {ts : List Tr} {cs : List Value}, TrsP x P w ts cs → TrsP x P w (ts ++ [t]) (cs ++ [c0, c1, c2, c3])
  | [], cs, h => by
    unfold TrsP at h; subst h
    unfold TrsP TrsP
    exact ⟨c0, c1, c2, c3, [], rfl, ht, rfl⟩
  | u :: ts, cs, h => by
    obtain ⟨d0, d1, d2, d3, rest, rfl, h0, hs⟩ := h.uncons
    unfold TrsP
    exact ⟨d0, d1, d2, d3, rest ++ [c0, c1, c2, c3], rfl, h0, TrsP.snoc ht hs⟩
attribute [irreducible] TrP TrsP
theorem RowP.below {x : Nat} {P : Nat → Prop} {w w' : World} {A : Option Addr} {cs : List Value} (h : RowP x P w A cs) (hb : Below w.heap.size w w') : RowP x P w' A cs := by
  rcases h with h | ⟨b, h1, hx0, h2, h3⟩
  · exact .inl h
  · exact .inr ⟨b, h1, hx0, h2, fun j v hv => cell_below hb (h3 j v hv)⟩
theorem RowP.grown {x : Nat} {P : Nat → Prop} {g : Nat} {w w' : World} {A : Option Addr} {cs : List Value} (h : RowP x P w A cs) (hb : w.grownBy w' (some g)) (hx : ¬ P g) : RowP x P w' A cs := by
  rcases h with h | ⟨b, h1, hx0, h2, h3⟩
  · exact .inl h
  · exact .inr ⟨b, h1, hx0, h2, fun j v hv => gb_cell hb (by rintro rfl; exact hx (h2 (by rintro rfl; simp at hv))) (h3 j v hv)⟩
theorem RowP.mono {x : Nat} {P P' : Nat → Prop} {w : World} {A : Option Addr} {cs : List Value} (h : RowP x P w A cs) (hx : ∀ b, P b → P' b) : RowP x P' w A cs := by
  rcases h with h | ⟨b, h1, hx0, h2, h3⟩
  · exact .inl h
  · exact .inr ⟨b, h1, hx0, fun hc => hx b (h2 hc), h3⟩
/-- What stood there lies in blocks that stood there. -/
theorem RowP.old {x : Nat} {P : Nat → Prop} {w w' : World} {A : Option Addr} {cs : List Value} {n : Nat} (h : RowP x P w A cs) (hb : Below w.heap.size w w') (hn : w.heap.size ≤ n) : RowP x (fun b => P b ∧ b ≠ n) w' A cs := by
  rcases h with h | ⟨b, h1, hx0, h2, h3⟩
  · exact .inl h
  · refine .inr ⟨b, h1, hx0, fun hc => ⟨h2 hc, ?_⟩, fun j v hv => cell_below hb (h3 j v hv)⟩
    cases cs with
    | nil => exact absurd rfl hc
    | cons v cs =>
      have := World.block_lt_of_cell? w _ (h3 0 v rfl)
      rintro rfl
      simp at this
      omega
theorem TrP.below {x : Nat} {P : Nat → Prop} {w w' : World} {t : Tr} {v : Value} (h : TrP x P w t v) (hb : Below w.heap.size w w') : TrP x P w' t v := TrP.keep (fun _ _ h => h.below hb) t v h
theorem TrP.mono {x : Nat} {P P' : Nat → Prop} {w : World} {t : Tr} {v : Value} (h : TrP x P w t v) (hx : ∀ b, P b → P' b) : TrP x P' w t v := TrP.keep (fun _ _ h => h.mono hx) t v h
theorem TrsP.below {x : Nat} {P : Nat → Prop} {w w' : World} {t : List Tr} {v : List Value} (h : TrsP x P w t v) (hb : Below w.heap.size w w') : TrsP x P w' t v := TrsP.keep (fun _ _ h => h.below hb) t v h
theorem TrsP.mono {x : Nat} {P P' : Nat → Prop} {w : World} {t : List Tr} {v : List Value} (h : TrsP x P w t v) (hx : ∀ b, P b → P' b) : TrsP x P' w t v := TrsP.keep (fun _ _ h => h.mono hx) t v h
theorem TrsP.grown {x : Nat} {P : Nat → Prop} {g : Nat} {w w' : World} {t : List Tr} {v : List Value} (h : TrsP x P w t v) (hb : w.grownBy w' (some g)) (hx : ¬ P g) : TrsP x P w' t v := TrsP.keep (fun _ _ h => h.grown hb hx) t v h
theorem TrP.grown {x : Nat} {P : Nat → Prop} {g : Nat} {w w' : World} {t : Tr} {v : Value} (h : TrP x P w t v) (hb : w.grownBy w' (some g)) (hx : ¬ P g) : TrP x P w' t v := TrP.keep (fun _ _ h => h.grown hb hx) t v h
theorem TrP.old {x : Nat} {P : Nat → Prop} {w w' : World} {t : Tr} {v : Value} {n : Nat} (h : TrP x P w t v) (hb : Below w.heap.size w w') (hn : w.heap.size ≤ n) : TrP x (fun b => P b ∧ b ≠ n) w' t v := TrP.keep (fun _ _ h => h.old hb hn) t v h
theorem TrsP.old {x : Nat} {P : Nat → Prop} {w w' : World} {t : List Tr} {v : List Value} {n : Nat} (h : TrsP x P w t v) (hb : Below w.heap.size w w') (hn : w.heap.size ≤ n) : TrsP x (fun b => P b ∧ b ≠ n) w' t v := TrsP.keep (fun _ _ h => h.old hb hn) t v h
theorem TrP.oldset {x : Nat} {P : Nat → Prop} {w w' w2 : World} {t : Tr} {v : Value} {g : Nat} (h : TrP x P w t v) (hb : Below w.heap.size w w') (hn : w.heap.size ≤ g) (hg : w'.grownBy w2 (some g)) : TrP x P w2 t v := ((h.old hb hn).grown hg (fun hh => hh.2 rfl)).mono (fun _ hh => hh.1)
end Go.Proofs.YtapbkomicihkkaaDoor
namespace Go.Proofs.YtapbkomicihkkaaDoor
open Go.RowKit
set_option linter.unusedVariables false
set_option linter.unusedSimpArgs false

def GivesT (w : World) (o : Tm) : Ending → World → Prop := fun e w' => e = .returned o.val ∧ Below w.heap.size w w'
set_option maxRecDepth 100000 in
set_option maxHeartbeats 8000000 in
theorem cterm_calls : ∀ (o : Tm), o.fine → ∀ (x : Nat) (w : World) (v : Value), TrAt x w o.tr v → Calls Tryd.prog 6 #[v] w (GivesT w o) := by
  intro o
  induction o with
  | odd v => intro h; exact h.elim
  | zero =>
    intro hf x w v ht
    obtain ⟨A, c, cs, rfl, -, -⟩ := ht.open_
    unfold Tm.tr at *
    simp only [Tr.kind, Tr.s, Tr.n, Tr.ks, List.length_nil]
    clear ht
    unfold nS
    obtain ⟨W1, hW1⟩ : ∃ W1, w.alloc (.cells #[.int .i64 1, .string ⟨#[]⟩, .int .i64 0, .slice A 0 c] 30) = W1 := ⟨_, rfl⟩
    have hk := Blk.new w #[.int .i64 1, .string ⟨#[]⟩, .int .i64 0, .slice A 0 c] 30
    have hbA := bl_alloc (bl_refl w) (.cells #[.int .i64 1, .string ⟨#[]⟩, .int .i64 0, .slice A 0 c] 30)
    rw [hW1] at hk hbA
    obtain ⟨k0, k1, k2, k3⟩ := hk.fours
    have HW1 := Lib.hid hW1
    clear hW1 hk
    go_enter Tryd.func6, Tryd.ntmps6
    go_wp2_with (rw [HW1.out])
    go_ret
    exact ⟨rfl, hbA⟩
  | one s =>
    intro hf x w v ht
    obtain ⟨A, c, cs, rfl, -, -⟩ := ht.open_
    unfold Tm.tr at *
    simp only [Tr.kind, Tr.s, Tr.n, Tr.ks, List.length_nil]
    clear ht
    obtain ⟨W1, hW1⟩ : ∃ W1, w.alloc (.cells #[.int .i64 2, .string s, .int .i64 0, .slice A 0 c] 30) = W1 := ⟨_, rfl⟩
    have hk := Blk.new w #[.int .i64 2, .string s, .int .i64 0, .slice A 0 c] 30
    have hbA := bl_alloc (bl_refl w) (.cells #[.int .i64 2, .string s, .int .i64 0, .slice A 0 c] 30)
    rw [hW1] at hk hbA
    obtain ⟨k0, k1, k2, k3⟩ := hk.fours
    have HW1 := Lib.hid hW1
    clear hW1 hk
    go_enter Tryd.func6, Tryd.ntmps6
    go_wp2_with (rw [HW1.out])
    go_ret
    exact ⟨rfl, hbA⟩
  | give o ih =>
    intro hf x w v ht
    obtain ⟨q, c, c0, c1, c2, c3, rfl, ⟨h0, h1, h2, h3⟩, ha⟩ := ht.one
    clear ht
    obtain ⟨W1, hW1⟩ : ∃ W1, w.alloc (.cells #[.int .i64 3, .string nS, .int .i64 0, .slice (some ⟨q, 0, none⟩) 1 c] 30) = W1 := ⟨_, rfl⟩
    have hk := Blk.new w #[.int .i64 3, .string nS, .int .i64 0, .slice (some ⟨q, 0, none⟩) 1 c] 30
    have hbA := bl_alloc (bl_refl w) (.cells #[.int .i64 3, .string nS, .int .i64 0, .slice (some ⟨q, 0, none⟩) 1 c] 30)
    rw [hW1] at hk hbA
    obtain ⟨k0, k1, k2, k3⟩ := hk.fours
    have HW1 := Lib.hid hW1
    clear hW1 hk
    replace h0 := cell_below hbA h0
    replace h1 := cell_below hbA h1
    replace h2 := cell_below hbA h2
    replace h3 := cell_below hbA h3
    have HA := Lib.hid (ha.below hbA)
    clear ha
    have hl := o.isI (Tm.fine.ok (t := o) hf)
    have hn := ih hf x W1 _ HA.out
    unfold GivesT at *
    unfold nS at *
    have HN := Lib.hid hn
    clear hn ih
    go_enter Tryd.func6, Tryd.ntmps6
    go_wp2_with (rw [HW1.out])
    refine HN.out.mono ?_
    rintro e wX ⟨rfl, hbX⟩
    go_wp2_with fail
    go_ret
    exact ⟨rfl, bl_step hbX hbA⟩
  | and l r ihl ihr =>
    intro hf x w v ht
    obtain ⟨q, c, c0, c1, c2, c3, c4, c5, c6, c7, rfl, ⟨h0, h1, h2, h3⟩, ⟨h4, h5, h6, h7⟩, ha, hb⟩ := ht.two
    clear ht
    obtain ⟨W1, hW1⟩ : ∃ W1, w.alloc (.cells #[.int .i64 4, .string nS, .int .i64 0, .slice (some ⟨q, 0, none⟩) 2 c] 30) = W1 := ⟨_, rfl⟩
    have hk := Blk.new w #[.int .i64 4, .string nS, .int .i64 0, .slice (some ⟨q, 0, none⟩) 2 c] 30
    have hbA := bl_alloc (bl_refl w) (.cells #[.int .i64 4, .string nS, .int .i64 0, .slice (some ⟨q, 0, none⟩) 2 c] 30)
    rw [hW1] at hk hbA
    obtain ⟨k0, k1, k2, k3⟩ := hk.fours
    have HW1 := Lib.hid hW1
    clear hW1 hk
    replace h0 := cell_below hbA h0
    replace h1 := cell_below hbA h1
    replace h2 := cell_below hbA h2
    replace h3 := cell_below hbA h3
    replace h4 := cell_below hbA h4
    replace h5 := cell_below hbA h5
    replace h6 := cell_below hbA h6
    replace h7 := cell_below hbA h7
    have HA := Lib.hid (ha.below hbA); have HB := Lib.hid (hb.below hbA)
    clear ha hb
    have hl := l.isI hf.1.ok
    have hr := r.isI hf.2.ok
    have IL := Lib.hid (ihl hf.1); have IR := Lib.hid (ihr hf.2)
    clear ihl ihr
    unfold GivesT at *
    unfold nS at *
    go_enter Tryd.func6, Tryd.ntmps6
    go_upto_region 9 with (rw [HW1.out])
    have HA1 := Lib.hid (HA.out.below (bl_drew (bl_refl _)))
    go_region_held3 (fun w' => w'.cell? ⟨w.heap.size, 3, none⟩ = some (.slice (some ⟨q, 0, none⟩) 2 c) ∧ w'.cell? ⟨q, 0, none⟩ = some c0 ∧ w'.cell? ⟨q, 1, none⟩ = some c1 ∧ w'.cell? ⟨q, 2, none⟩ = some c2 ∧ w'.cell? ⟨q, 3, none⟩ = some c3 ∧ w'.cell? ⟨q, 4, none⟩ = some c4 ∧ w'.cell? ⟨q, 5, none⟩ = some c5 ∧ w'.cell? ⟨q, 6, none⟩ = some c6 ∧ w'.cell? ⟨q, 7, none⟩ = some c7) (first | exact ⟨cell_below hbX k3, cell_below hbX h0, cell_below hbX h1, cell_below hbX h2, cell_below hbX h3, cell_below hbX h4, cell_below hbX h5, cell_below hbX h6, cell_below hbX h7⟩ | exact ⟨k3, h0, h1, h2, h3, h4, h5, h6, h7⟩ | go_keep) (((first | go_at_call 6 | go_at_call 6); first | (refine (IR.out x wX _ HB2.out).mono ?_; rintro e wY ⟨rfl, hb0⟩; have hbZ := bl_step hb0 hbX; clear hbX; have hbX := hbZ) | (refine (IL.out x W1.drew _ HA1.out).mono ?_; rintro e wX ⟨rfl, hb0⟩; have hbX := bl_step hb0 (bl_drew (bl_refl W1)); have HB2 := Lib.hid (HB.out.below hbX))))
    go_wp2_with fail
    go_ret
    exact ⟨rfl, bl_step hbX hbA⟩
  | or s l r ihl ihr =>
    intro hf x w v ht
    obtain ⟨q, c, c0, c1, c2, c3, c4, c5, c6, c7, rfl, ⟨h0, h1, h2, h3⟩, ⟨h4, h5, h6, h7⟩, ha, hb⟩ := ht.two
    clear ht
    obtain ⟨W1, hW1⟩ : ∃ W1, w.alloc (.cells #[.int .i64 5, .string s, .int .i64 0, .slice (some ⟨q, 0, none⟩) 2 c] 30) = W1 := ⟨_, rfl⟩
    have hk := Blk.new w #[.int .i64 5, .string s, .int .i64 0, .slice (some ⟨q, 0, none⟩) 2 c] 30
    have hbA := bl_alloc (bl_refl w) (.cells #[.int .i64 5, .string s, .int .i64 0, .slice (some ⟨q, 0, none⟩) 2 c] 30)
    rw [hW1] at hk hbA
    obtain ⟨k0, k1, k2, k3⟩ := hk.fours
    have HW1 := Lib.hid hW1
    clear hW1 hk
    replace h0 := cell_below hbA h0
    replace h1 := cell_below hbA h1
    replace h2 := cell_below hbA h2
    replace h3 := cell_below hbA h3
    replace h4 := cell_below hbA h4
    replace h5 := cell_below hbA h5
    replace h6 := cell_below hbA h6
    replace h7 := cell_below hbA h7
    have HA := Lib.hid (ha.below hbA); have HB := Lib.hid (hb.below hbA)
    clear ha hb
    have hl := l.isI hf.2.1.ok
    have hr := r.isI hf.2.2.ok
    have IL := Lib.hid (ihl hf.2.1); have IR := Lib.hid (ihr hf.2.2)
    clear ihl ihr
    unfold GivesT at *
    go_enter Tryd.func6, Tryd.ntmps6
    go_upto_region 11 with (rw [HW1.out])
    have HA1 := Lib.hid (HA.out.below (bl_drew (bl_refl _)))
    go_region_held3 (fun w' => w'.cell? ⟨w.heap.size, 1, none⟩ = some (.string s) ∧ w'.cell? ⟨w.heap.size, 3, none⟩ = some (.slice (some ⟨q, 0, none⟩) 2 c) ∧ w'.cell? ⟨q, 0, none⟩ = some c0 ∧ w'.cell? ⟨q, 1, none⟩ = some c1 ∧ w'.cell? ⟨q, 2, none⟩ = some c2 ∧ w'.cell? ⟨q, 3, none⟩ = some c3 ∧ w'.cell? ⟨q, 4, none⟩ = some c4 ∧ w'.cell? ⟨q, 5, none⟩ = some c5 ∧ w'.cell? ⟨q, 6, none⟩ = some c6 ∧ w'.cell? ⟨q, 7, none⟩ = some c7) (first | exact ⟨cell_below hbX k1, cell_below hbX k3, cell_below hbX h0, cell_below hbX h1, cell_below hbX h2, cell_below hbX h3, cell_below hbX h4, cell_below hbX h5, cell_below hbX h6, cell_below hbX h7⟩ | exact ⟨k1, k3, h0, h1, h2, h3, h4, h5, h6, h7⟩ | go_keep) (((first | go_at_call 6 | go_at_call 6); first | (refine (IR.out x wX _ HB2.out).mono ?_; rintro e wY ⟨rfl, hb0⟩; have hbZ := bl_step hb0 hbX; clear hbX; have hbX := hbZ) | (refine (IL.out x W1.drew _ HA1.out).mono ?_; rintro e wX ⟨rfl, hb0⟩; have hbX := bl_step hb0 (bl_drew (bl_refl W1)); have HB2 := Lib.hid (HB.out.below hbX))))
    go_wp2_with fail
    go_ret
    exact ⟨rfl, bl_step hbX hbA⟩
  | scale l r ihr =>
    intro hf x w v ht
    obtain ⟨q, c, c0, c1, c2, c3, c4, c5, c6, c7, rfl, ⟨h0, h1, h2, h3⟩, ⟨h4, h5, h6, h7⟩, ha, hb⟩ := ht.two
    clear ht
    obtain ⟨W1, hW1⟩ : ∃ W1, w.alloc (.cells #[.int .i64 6, .string nS, .int .i64 0, .slice (some ⟨q, 0, none⟩) 2 c] 30) = W1 := ⟨_, rfl⟩
    have hk := Blk.new w #[.int .i64 6, .string nS, .int .i64 0, .slice (some ⟨q, 0, none⟩) 2 c] 30
    have hbA := bl_alloc (bl_refl w) (.cells #[.int .i64 6, .string nS, .int .i64 0, .slice (some ⟨q, 0, none⟩) 2 c] 30)
    rw [hW1] at hk hbA
    obtain ⟨k0, k1, k2, k3⟩ := hk.fours
    have HW1 := Lib.hid hW1
    clear hW1 hk
    replace h0 := cell_below hbA h0
    replace h1 := cell_below hbA h1
    replace h2 := cell_below hbA h2
    replace h3 := cell_below hbA h3
    replace h4 := cell_below hbA h4
    replace h5 := cell_below hbA h5
    replace h6 := cell_below hbA h6
    replace h7 := cell_below hbA h7
    have HA := Lib.hid (ha.below hbA); have HB := Lib.hid (hb.below hbA)
    clear ha hb
    have hl := l.isI hf.1.ok
    have hr := r.isI hf.2.ok
    have IL := Lib.hid (cobs_calls l hf.1); have IR := Lib.hid (ihr hf.2)
    clear ihr
    unfold GivesT at *
    unfold GivesO at *
    unfold nS at *
    go_enter Tryd.func6, Tryd.ntmps6
    go_upto_region 13 with (rw [HW1.out])
    have HA1 := Lib.hid (HA.out.below (bl_drew (bl_refl _)))
    go_region_held3 (fun w' => w'.cell? ⟨w.heap.size, 3, none⟩ = some (.slice (some ⟨q, 0, none⟩) 2 c) ∧ w'.cell? ⟨q, 0, none⟩ = some c0 ∧ w'.cell? ⟨q, 1, none⟩ = some c1 ∧ w'.cell? ⟨q, 2, none⟩ = some c2 ∧ w'.cell? ⟨q, 3, none⟩ = some c3 ∧ w'.cell? ⟨q, 4, none⟩ = some c4 ∧ w'.cell? ⟨q, 5, none⟩ = some c5 ∧ w'.cell? ⟨q, 6, none⟩ = some c6 ∧ w'.cell? ⟨q, 7, none⟩ = some c7) (first | exact ⟨cell_below hbX k3, cell_below hbX h0, cell_below hbX h1, cell_below hbX h2, cell_below hbX h3, cell_below hbX h4, cell_below hbX h5, cell_below hbX h6, cell_below hbX h7⟩ | exact ⟨k3, h0, h1, h2, h3, h4, h5, h6, h7⟩ | go_keep) (((first | go_at_call 6 | go_at_call 22); first | (refine (IR.out x wX _ HB2.out).mono ?_; rintro e wY ⟨rfl, hb0⟩; have hbZ := bl_step hb0 hbX; clear hbX; have hbX := hbZ) | (refine (IL.out x W1.drew _ HA1.out).mono ?_; rintro e wX ⟨rfl, hb0⟩; have hbX := bl_step hb0 (bl_drew (bl_refl W1)); have HB2 := Lib.hid (HB.out.below hbX))))
    go_wp2_with fail
    go_ret
    exact ⟨rfl, bl_step hbX hbA⟩
  | when_ n l ihl =>
    intro hf x w v ht
    obtain ⟨q, c, c0, c1, c2, c3, rfl, ⟨h0, h1, h2, h3⟩, ha⟩ := ht.one
    clear ht
    obtain ⟨W1, hW1⟩ : ∃ W1, w.alloc (.cells #[.int .i64 7, .string nS, .int .i64 n, .slice (some ⟨q, 0, none⟩) 1 c] 30) = W1 := ⟨_, rfl⟩
    have hk := Blk.new w #[.int .i64 7, .string nS, .int .i64 n, .slice (some ⟨q, 0, none⟩) 1 c] 30
    have hbA := bl_alloc (bl_refl w) (.cells #[.int .i64 7, .string nS, .int .i64 n, .slice (some ⟨q, 0, none⟩) 1 c] 30)
    rw [hW1] at hk hbA
    obtain ⟨k0, k1, k2, k3⟩ := hk.fours
    have HW1 := Lib.hid hW1
    clear hW1 hk
    replace h0 := cell_below hbA h0
    replace h1 := cell_below hbA h1
    replace h2 := cell_below hbA h2
    replace h3 := cell_below hbA h3
    have HA := Lib.hid (ha.below hbA)
    clear ha
    have hl := l.isI hf.2.ok
    have IL := Lib.hid (ihl hf.2)
    clear ihl
    unfold GivesT at *
    unfold nS at *
    go_enter Tryd.func6, Tryd.ntmps6
    go_upto_region 15 with (rw [HW1.out])
    have HA1 := Lib.hid (HA.out.below (bl_drew (bl_refl _)))
    go_region_held3 (fun w' => w'.cell? ⟨w.heap.size, 2, none⟩ = some (.int .i64 n) ∧ w'.cell? ⟨w.heap.size, 3, none⟩ = some (.slice (some ⟨q, 0, none⟩) 1 c) ∧ w'.cell? ⟨q, 0, none⟩ = some c0 ∧ w'.cell? ⟨q, 1, none⟩ = some c1 ∧ w'.cell? ⟨q, 2, none⟩ = some c2 ∧ w'.cell? ⟨q, 3, none⟩ = some c3) (first | exact ⟨cell_below hbX k2, cell_below hbX k3, cell_below hbX h0, cell_below hbX h1, cell_below hbX h2, cell_below hbX h3⟩ | exact ⟨k2, k3, h0, h1, h2, h3⟩ | go_keep) ((go_at_call 6; refine (IL.out x W1.drew _ HA1.out).mono ?_; rintro e wX ⟨rfl, hb0⟩; have hbX := bl_step hb0 (bl_drew (bl_refl W1))))
    go_wp2_with fail
    go_ret
    exact ⟨rfl, bl_step hbX hbA⟩
  | if_ l r d ihr ihd =>
    intro hf x w v ht
    obtain ⟨q, c, c0, c1, c2, c3, c4, c5, c6, c7, c8, c9, ca, cb, rfl, ⟨h0, h1, h2, h3⟩, ⟨h4, h5, h6, h7⟩, ⟨h8, h9, h10, h11⟩, ha, hb, hd⟩ := ht.three
    clear ht
    obtain ⟨W1, hW1⟩ : ∃ W1, w.alloc (.cells #[.int .i64 8, .string nS, .int .i64 0, .slice (some ⟨q, 0, none⟩) 3 c] 30) = W1 := ⟨_, rfl⟩
    have hk := Blk.new w #[.int .i64 8, .string nS, .int .i64 0, .slice (some ⟨q, 0, none⟩) 3 c] 30
    have hbA := bl_alloc (bl_refl w) (.cells #[.int .i64 8, .string nS, .int .i64 0, .slice (some ⟨q, 0, none⟩) 3 c] 30)
    rw [hW1] at hk hbA
    obtain ⟨k0, k1, k2, k3⟩ := hk.fours
    have HW1 := Lib.hid hW1
    clear hW1 hk
    replace h0 := cell_below hbA h0
    replace h1 := cell_below hbA h1
    replace h2 := cell_below hbA h2
    replace h3 := cell_below hbA h3
    replace h4 := cell_below hbA h4
    replace h5 := cell_below hbA h5
    replace h6 := cell_below hbA h6
    replace h7 := cell_below hbA h7
    replace h8 := cell_below hbA h8
    replace h9 := cell_below hbA h9
    replace h10 := cell_below hbA h10
    replace h11 := cell_below hbA h11
    have HA := Lib.hid (ha.below hbA); have HB := Lib.hid (hb.below hbA); have HD := Lib.hid (hd.below hbA)
    clear ha hb hd
    have hl := l.isI hf.1.ok
    have hr := r.isI hf.2.1.ok
    have hd := d.isI hf.2.2.ok
    have IL := Lib.hid (cobs_calls l hf.1); have IR := Lib.hid (ihr hf.2.1); have ID := Lib.hid (ihd hf.2.2)
    clear ihr ihd
    unfold GivesT at *
    unfold GivesO at *
    unfold nS at *
    go_enter Tryd.func6, Tryd.ntmps6
    go_upto_region 17 with (rw [HW1.out])
    have HA1 := Lib.hid (HA.out.below (bl_drew (bl_refl _)))
    go_region_held3 (fun w' => w'.cell? ⟨w.heap.size, 3, none⟩ = some (.slice (some ⟨q, 0, none⟩) 3 c) ∧ w'.cell? ⟨q, 0, none⟩ = some c0 ∧ w'.cell? ⟨q, 1, none⟩ = some c1 ∧ w'.cell? ⟨q, 2, none⟩ = some c2 ∧ w'.cell? ⟨q, 3, none⟩ = some c3 ∧ w'.cell? ⟨q, 4, none⟩ = some c4 ∧ w'.cell? ⟨q, 5, none⟩ = some c5 ∧ w'.cell? ⟨q, 6, none⟩ = some c6 ∧ w'.cell? ⟨q, 7, none⟩ = some c7 ∧ w'.cell? ⟨q, 8, none⟩ = some c8 ∧ w'.cell? ⟨q, 9, none⟩ = some c9 ∧ w'.cell? ⟨q, 10, none⟩ = some ca ∧ w'.cell? ⟨q, 11, none⟩ = some cb) (first | exact ⟨cell_below hbX k3, cell_below hbX h0, cell_below hbX h1, cell_below hbX h2, cell_below hbX h3, cell_below hbX h4, cell_below hbX h5, cell_below hbX h6, cell_below hbX h7, cell_below hbX h8, cell_below hbX h9, cell_below hbX h10, cell_below hbX h11⟩ | exact ⟨k3, h0, h1, h2, h3, h4, h5, h6, h7, h8, h9, h10, h11⟩ | go_keep) (((first | go_at_call 6 | go_at_call 22); first | (refine (ID.out x wY _ HD2.out).mono ?_; rintro e wZ ⟨rfl, hb0⟩; have hbZ := bl_step hb0 hbX; clear hbX; have hbX := hbZ) | (refine (IR.out x wX _ HB2.out).mono ?_; rintro e wY ⟨rfl, hb0⟩; have hbZ := bl_step hb0 hbX; clear hbX; have hbX := hbZ; have HD2 := Lib.hid (HD.out.below hbX)) | (refine (IL.out x W1.drew _ HA1.out).mono ?_; rintro e wX ⟨rfl, hb0⟩; have hbX := bl_step hb0 (bl_drew (bl_refl W1)); have HB2 := Lib.hid (HB.out.below hbX))))
    go_wp2_with fail
    go_ret
    exact ⟨rfl, bl_step hbX hbA⟩
end Go.Proofs.YtapbkomicihkkaaDoor
namespace Go.Proofs.YtapbkomicihkkaaDoor
open Go.RowKit
set_option linter.unusedVariables false
set_option linter.unusedSimpArgs false

/-- A number is what a tree gives. -/
def Ob.from_ : Ob → Tr → Prop
  | .const n, t => ∃ s ks, t = .mk 11 s n ks
  | .fix s, t => ∃ n ks, t = .mk 12 s n ks
  | .add l r, t => ∃ s n a b, t = .mk 13 s n [a, b] ∧ l.from_ a ∧ r.from_ b
  | .neg o, t => ∃ s n a, t = .mk 14 s n [a] ∧ o.from_ a
  | .mul l r, t => ∃ s n a b, t = .mk 15 s n [a, b] ∧ l.from_ a ∧ r.from_ b
  | .max l r, t => ∃ s n a b, t = .mk 16 s n [a, b] ∧ l.from_ a ∧ r.from_ b
  | .odd v, t => v = .nilIface ∧ ¬ (11 ≤ t.kind ∧ t.kind ≤ 16)
def Tm.from_ : Tm → Tr → Prop
  | .zero, t => ∃ s n ks, t = .mk 1 s n ks
  | .one s, t => ∃ n ks, t = .mk 2 s n ks
  | .give o, t => ∃ s n a, t = .mk 3 s n [a] ∧ o.from_ a
  | .and l r, t => ∃ s n a b, t = .mk 4 s n [a, b] ∧ l.from_ a ∧ r.from_ b
  | .or s l r, t => ∃ n a b, t = .mk 5 s n [a, b] ∧ l.from_ a ∧ r.from_ b
  | .scale l r, t => ∃ s n a b, t = .mk 6 s n [a, b] ∧ l.from_ a ∧ r.from_ b
  | .when_ n o, t => ∃ s a, t = .mk 7 s n [a] ∧ o.from_ a
  | .if_ l r d, t => ∃ s n a b e, t = .mk 8 s n [a, b, e] ∧ l.from_ a ∧ r.from_ b ∧ d.from_ e
  | .odd v, t => v = .nilIface ∧ ¬ (1 ≤ t.kind ∧ t.kind ≤ 8)
set_option maxRecDepth 100000 in
set_option maxHeartbeats 4000000 in
theorem cobs_from : ∀ (o : Ob) (t : Tr), o.from_ t → o.ok → ∀ (x : Nat) (w : World) (v : Value), TrAt x w t v → Calls Tryd.prog 22 #[v] w (GivesO w o) := by
  intro o
  induction o with
  | odd v =>
    intro t hf hok x w v ht
    obtain ⟨k, s, n, ks⟩ := t
    obtain ⟨rfl, hk⟩ := hf
    obtain ⟨A, c, cs, rfl, -, -⟩ := ht.open_
    simp only [Tr.kind, Tr.s, Tr.n, Tr.ks] at *
    clear ht
    generalize ks.length = m
    obtain ⟨W1, hW1⟩ : ∃ W1, w.alloc (.cells #[.int .i64 k, .string s, .int .i64 n, .slice A m c] 30) = W1 := ⟨_, rfl⟩
    have hk := Blk.new w #[.int .i64 k, .string s, .int .i64 n, .slice A m c] 30
    have hbA := bl_alloc (bl_refl w) (.cells #[.int .i64 k, .string s, .int .i64 n, .slice A m c] 30)
    rw [hW1] at hk hbA
    obtain ⟨k0, k1, k2, k3⟩ := hk.fours
    have HW1 := Lib.hid hW1
    clear hW1 hk
    have h1 : (k == 11) = false := by simp; omega
    have h2 : (k == 12) = false := by simp; omega
    have h3 : (k == 13) = false := by simp; omega
    have h4 : (k == 14) = false := by simp; omega
    have h5 : (k == 15) = false := by simp; omega
    have h6 : (k == 16) = false := by simp; omega
    clear hk
    go_enter Tryd.func22, Tryd.ntmps22
    go_wp2_with (rw [HW1.out])
    go_ret
    exact ⟨rfl, hbA⟩
  | const n =>
    intro t hf hok x w v ht
    obtain ⟨s, ks, rfl⟩ := hf
    obtain ⟨A, c, cs, rfl, -, -⟩ := ht.open_
    simp only [Tr.kind, Tr.s, Tr.n, Tr.ks]
    clear ht
    generalize ks.length = m
    obtain ⟨W1, hW1⟩ : ∃ W1, w.alloc (.cells #[.int .i64 11, .string s, .int .i64 n, .slice A m c] 30) = W1 := ⟨_, rfl⟩
    have hk := Blk.new w #[.int .i64 11, .string s, .int .i64 n, .slice A m c] 30
    have hbA := bl_alloc (bl_refl w) (.cells #[.int .i64 11, .string s, .int .i64 n, .slice A m c] 30)
    rw [hW1] at hk hbA
    obtain ⟨k0, k1, k2, k3⟩ := hk.fours
    have HW1 := Lib.hid hW1
    clear hW1 hk
    go_enter Tryd.func22, Tryd.ntmps22
    go_wp2_with (rw [HW1.out])
    go_ret
    exact ⟨rfl, hbA⟩
  | fix s =>
    intro t hf hok x w v ht
    obtain ⟨n, ks, rfl⟩ := hf
    obtain ⟨A, c, cs, rfl, -, -⟩ := ht.open_
    simp only [Tr.kind, Tr.s, Tr.n, Tr.ks]
    clear ht
    generalize ks.length = m
    obtain ⟨W1, hW1⟩ : ∃ W1, w.alloc (.cells #[.int .i64 12, .string s, .int .i64 n, .slice A m c] 30) = W1 := ⟨_, rfl⟩
    have hk := Blk.new w #[.int .i64 12, .string s, .int .i64 n, .slice A m c] 30
    have hbA := bl_alloc (bl_refl w) (.cells #[.int .i64 12, .string s, .int .i64 n, .slice A m c] 30)
    rw [hW1] at hk hbA
    obtain ⟨k0, k1, k2, k3⟩ := hk.fours
    have HW1 := Lib.hid hW1
    clear hW1 hk
    go_enter Tryd.func22, Tryd.ntmps22
    go_wp2_with (rw [HW1.out])
    go_ret
    exact ⟨rfl, hbA⟩
  | neg o ih =>
    intro t hf hok x w v ht
    obtain ⟨s, n, a, rfl, hfa⟩ := hf
    obtain ⟨q, c, c0, c1, c2, c3, rfl, ⟨h0, h1, h2, h3⟩, ha⟩ := ht.one
    clear ht
    obtain ⟨W1, hW1⟩ : ∃ W1, w.alloc (.cells #[.int .i64 14, .string s, .int .i64 n, .slice (some ⟨q, 0, none⟩) 1 c] 30) = W1 := ⟨_, rfl⟩
    have hk := Blk.new w #[.int .i64 14, .string s, .int .i64 n, .slice (some ⟨q, 0, none⟩) 1 c] 30
    have hbA := bl_alloc (bl_refl w) (.cells #[.int .i64 14, .string s, .int .i64 n, .slice (some ⟨q, 0, none⟩) 1 c] 30)
    rw [hW1] at hk hbA
    obtain ⟨k0, k1, k2, k3⟩ := hk.fours
    have HW1 := Lib.hid hW1
    clear hW1 hk
    replace h0 := cell_below hbA h0
    replace h1 := cell_below hbA h1
    replace h2 := cell_below hbA h2
    replace h3 := cell_below hbA h3
    have HA := Lib.hid (ha.below hbA)
    clear ha
    have hl := o.isI hok
    have hn := ih a hfa hok x W1 _ HA.out
    unfold GivesO at *
    have HN := Lib.hid hn
    clear hn ih
    go_enter Tryd.func22, Tryd.ntmps22
    go_wp2_with (rw [HW1.out])
    refine HN.out.mono ?_
    rintro e wX ⟨rfl, hbX⟩
    go_wp2_with fail
    go_ret
    exact ⟨rfl, bl_step hbX hbA⟩
  | add l r ihl ihr =>
    intro t hf hok x w v ht
    obtain ⟨s, n, a, b, rfl, hfl, hfr⟩ := hf
    obtain ⟨q, c, c0, c1, c2, c3, c4, c5, c6, c7, rfl, ⟨h0, h1, h2, h3⟩, ⟨h4, h5, h6, h7⟩, ha, hb⟩ := ht.two
    clear ht
    obtain ⟨W1, hW1⟩ : ∃ W1, w.alloc (.cells #[.int .i64 13, .string s, .int .i64 n, .slice (some ⟨q, 0, none⟩) 2 c] 30) = W1 := ⟨_, rfl⟩
    have hk := Blk.new w #[.int .i64 13, .string s, .int .i64 n, .slice (some ⟨q, 0, none⟩) 2 c] 30
    have hbA := bl_alloc (bl_refl w) (.cells #[.int .i64 13, .string s, .int .i64 n, .slice (some ⟨q, 0, none⟩) 2 c] 30)
    rw [hW1] at hk hbA
    obtain ⟨k0, k1, k2, k3⟩ := hk.fours
    have HW1 := Lib.hid hW1
    clear hW1 hk
    replace h0 := cell_below hbA h0
    replace h1 := cell_below hbA h1
    replace h2 := cell_below hbA h2
    replace h3 := cell_below hbA h3
    replace h4 := cell_below hbA h4
    replace h5 := cell_below hbA h5
    replace h6 := cell_below hbA h6
    replace h7 := cell_below hbA h7
    have HA := Lib.hid (ha.below hbA); have HB := Lib.hid (hb.below hbA)
    clear ha hb
    have hl := l.isI hok.1
    have hr := r.isI hok.2
    have IL := Lib.hid (ihl a hfl hok.1); have IR := Lib.hid (ihr b hfr hok.2)
    clear ihl ihr
    unfold GivesO at *
    go_enter Tryd.func22, Tryd.ntmps22
    go_upto_region 7 with (rw [HW1.out])
    have HA1 := Lib.hid (HA.out.below (bl_drew (bl_refl _)))
    go_region_held3 (fun w' => w'.cell? ⟨w.heap.size, 3, none⟩ = some (.slice (some ⟨q, 0, none⟩) 2 c) ∧ w'.cell? ⟨q, 0, none⟩ = some c0 ∧ w'.cell? ⟨q, 1, none⟩ = some c1 ∧ w'.cell? ⟨q, 2, none⟩ = some c2 ∧ w'.cell? ⟨q, 3, none⟩ = some c3 ∧ w'.cell? ⟨q, 4, none⟩ = some c4 ∧ w'.cell? ⟨q, 5, none⟩ = some c5 ∧ w'.cell? ⟨q, 6, none⟩ = some c6 ∧ w'.cell? ⟨q, 7, none⟩ = some c7) (first | exact ⟨cell_below hbX k3, cell_below hbX h0, cell_below hbX h1, cell_below hbX h2, cell_below hbX h3, cell_below hbX h4, cell_below hbX h5, cell_below hbX h6, cell_below hbX h7⟩ | exact ⟨k3, h0, h1, h2, h3, h4, h5, h6, h7⟩ | go_keep) (((first | go_at_call 22 | go_at_call 22); first | (refine (IR.out x wX _ HB2.out).mono ?_; rintro e wY ⟨rfl, hb0⟩; have hbZ := bl_step hb0 hbX; clear hbX; have hbX := hbZ) | (refine (IL.out x W1.drew _ HA1.out).mono ?_; rintro e wX ⟨rfl, hb0⟩; have hbX := bl_step hb0 (bl_drew (bl_refl W1)); have HB2 := Lib.hid (HB.out.below hbX))))
    go_wp2_with fail
    go_ret
    exact ⟨rfl, bl_step hbX hbA⟩
  | mul l r ihl ihr =>
    intro t hf hok x w v ht
    obtain ⟨s, n, a, b, rfl, hfl, hfr⟩ := hf
    obtain ⟨q, c, c0, c1, c2, c3, c4, c5, c6, c7, rfl, ⟨h0, h1, h2, h3⟩, ⟨h4, h5, h6, h7⟩, ha, hb⟩ := ht.two
    clear ht
    obtain ⟨W1, hW1⟩ : ∃ W1, w.alloc (.cells #[.int .i64 15, .string s, .int .i64 n, .slice (some ⟨q, 0, none⟩) 2 c] 30) = W1 := ⟨_, rfl⟩
    have hk := Blk.new w #[.int .i64 15, .string s, .int .i64 n, .slice (some ⟨q, 0, none⟩) 2 c] 30
    have hbA := bl_alloc (bl_refl w) (.cells #[.int .i64 15, .string s, .int .i64 n, .slice (some ⟨q, 0, none⟩) 2 c] 30)
    rw [hW1] at hk hbA
    obtain ⟨k0, k1, k2, k3⟩ := hk.fours
    have HW1 := Lib.hid hW1
    clear hW1 hk
    replace h0 := cell_below hbA h0
    replace h1 := cell_below hbA h1
    replace h2 := cell_below hbA h2
    replace h3 := cell_below hbA h3
    replace h4 := cell_below hbA h4
    replace h5 := cell_below hbA h5
    replace h6 := cell_below hbA h6
    replace h7 := cell_below hbA h7
    have HA := Lib.hid (ha.below hbA); have HB := Lib.hid (hb.below hbA)
    clear ha hb
    have hl := l.isI hok.1
    have hr := r.isI hok.2
    have IL := Lib.hid (ihl a hfl hok.1); have IR := Lib.hid (ihr b hfr hok.2)
    clear ihl ihr
    unfold GivesO at *
    go_enter Tryd.func22, Tryd.ntmps22
    go_upto_region 11 with (rw [HW1.out])
    have HA1 := Lib.hid (HA.out.below (bl_drew (bl_refl _)))
    go_region_held3 (fun w' => w'.cell? ⟨w.heap.size, 3, none⟩ = some (.slice (some ⟨q, 0, none⟩) 2 c) ∧ w'.cell? ⟨q, 0, none⟩ = some c0 ∧ w'.cell? ⟨q, 1, none⟩ = some c1 ∧ w'.cell? ⟨q, 2, none⟩ = some c2 ∧ w'.cell? ⟨q, 3, none⟩ = some c3 ∧ w'.cell? ⟨q, 4, none⟩ = some c4 ∧ w'.cell? ⟨q, 5, none⟩ = some c5 ∧ w'.cell? ⟨q, 6, none⟩ = some c6 ∧ w'.cell? ⟨q, 7, none⟩ = some c7) (first | exact ⟨cell_below hbX k3, cell_below hbX h0, cell_below hbX h1, cell_below hbX h2, cell_below hbX h3, cell_below hbX h4, cell_below hbX h5, cell_below hbX h6, cell_below hbX h7⟩ | exact ⟨k3, h0, h1, h2, h3, h4, h5, h6, h7⟩ | go_keep) (((first | go_at_call 22 | go_at_call 22); first | (refine (IR.out x wX _ HB2.out).mono ?_; rintro e wY ⟨rfl, hb0⟩; have hbZ := bl_step hb0 hbX; clear hbX; have hbX := hbZ) | (refine (IL.out x W1.drew _ HA1.out).mono ?_; rintro e wX ⟨rfl, hb0⟩; have hbX := bl_step hb0 (bl_drew (bl_refl W1)); have HB2 := Lib.hid (HB.out.below hbX))))
    go_wp2_with fail
    go_ret
    exact ⟨rfl, bl_step hbX hbA⟩
  | max l r ihl ihr =>
    intro t hf hok x w v ht
    obtain ⟨s, n, a, b, rfl, hfl, hfr⟩ := hf
    obtain ⟨q, c, c0, c1, c2, c3, c4, c5, c6, c7, rfl, ⟨h0, h1, h2, h3⟩, ⟨h4, h5, h6, h7⟩, ha, hb⟩ := ht.two
    clear ht
    obtain ⟨W1, hW1⟩ : ∃ W1, w.alloc (.cells #[.int .i64 16, .string s, .int .i64 n, .slice (some ⟨q, 0, none⟩) 2 c] 30) = W1 := ⟨_, rfl⟩
    have hk := Blk.new w #[.int .i64 16, .string s, .int .i64 n, .slice (some ⟨q, 0, none⟩) 2 c] 30
    have hbA := bl_alloc (bl_refl w) (.cells #[.int .i64 16, .string s, .int .i64 n, .slice (some ⟨q, 0, none⟩) 2 c] 30)
    rw [hW1] at hk hbA
    obtain ⟨k0, k1, k2, k3⟩ := hk.fours
    have HW1 := Lib.hid hW1
    clear hW1 hk
    replace h0 := cell_below hbA h0
    replace h1 := cell_below hbA h1
    replace h2 := cell_below hbA h2
    replace h3 := cell_below hbA h3
    replace h4 := cell_below hbA h4
    replace h5 := cell_below hbA h5
    replace h6 := cell_below hbA h6
    replace h7 := cell_below hbA h7
    have HA := Lib.hid (ha.below hbA); have HB := Lib.hid (hb.below hbA)
    clear ha hb
    have hl := l.isI hok.1
    have hr := r.isI hok.2
    have IL := Lib.hid (ihl a hfl hok.1); have IR := Lib.hid (ihr b hfr hok.2)
    clear ihl ihr
    unfold GivesO at *
    go_enter Tryd.func22, Tryd.ntmps22
    go_upto_region 13 with (rw [HW1.out])
    have HA1 := Lib.hid (HA.out.below (bl_drew (bl_refl _)))
    go_region_held3 (fun w' => w'.cell? ⟨w.heap.size, 3, none⟩ = some (.slice (some ⟨q, 0, none⟩) 2 c) ∧ w'.cell? ⟨q, 0, none⟩ = some c0 ∧ w'.cell? ⟨q, 1, none⟩ = some c1 ∧ w'.cell? ⟨q, 2, none⟩ = some c2 ∧ w'.cell? ⟨q, 3, none⟩ = some c3 ∧ w'.cell? ⟨q, 4, none⟩ = some c4 ∧ w'.cell? ⟨q, 5, none⟩ = some c5 ∧ w'.cell? ⟨q, 6, none⟩ = some c6 ∧ w'.cell? ⟨q, 7, none⟩ = some c7) (first | exact ⟨cell_below hbX k3, cell_below hbX h0, cell_below hbX h1, cell_below hbX h2, cell_below hbX h3, cell_below hbX h4, cell_below hbX h5, cell_below hbX h6, cell_below hbX h7⟩ | exact ⟨k3, h0, h1, h2, h3, h4, h5, h6, h7⟩ | go_keep) (((first | go_at_call 22 | go_at_call 22); first | (refine (IR.out x wX _ HB2.out).mono ?_; rintro e wY ⟨rfl, hb0⟩; have hbZ := bl_step hb0 hbX; clear hbX; have hbX := hbZ) | (refine (IL.out x W1.drew _ HA1.out).mono ?_; rintro e wX ⟨rfl, hb0⟩; have hbX := bl_step hb0 (bl_drew (bl_refl W1)); have HB2 := Lib.hid (HB.out.below hbX))))
    go_wp2_with fail
    go_ret
    exact ⟨rfl, bl_step hbX hbA⟩
set_option maxRecDepth 100000 in
set_option maxHeartbeats 8000000 in
theorem cterm_from : ∀ (o : Tm) (t : Tr), o.from_ t → o.ok → ∀ (x : Nat) (w : World) (v : Value), TrAt x w t v → Calls Tryd.prog 6 #[v] w (GivesT w o) := by
  intro o
  induction o with
  | odd v =>
    intro t hf hok x w v ht
    obtain ⟨k, s, n, ks⟩ := t
    obtain ⟨rfl, hk⟩ := hf
    obtain ⟨A, c, cs, rfl, -, -⟩ := ht.open_
    simp only [Tr.kind, Tr.s, Tr.n, Tr.ks] at *
    clear ht
    generalize ks.length = m
    obtain ⟨W1, hW1⟩ : ∃ W1, w.alloc (.cells #[.int .i64 k, .string s, .int .i64 n, .slice A m c] 30) = W1 := ⟨_, rfl⟩
    have hk := Blk.new w #[.int .i64 k, .string s, .int .i64 n, .slice A m c] 30
    have hbA := bl_alloc (bl_refl w) (.cells #[.int .i64 k, .string s, .int .i64 n, .slice A m c] 30)
    rw [hW1] at hk hbA
    obtain ⟨k0, k1, k2, k3⟩ := hk.fours
    have HW1 := Lib.hid hW1
    clear hW1 hk
    have h1 : (k == 1) = false := by simp; omega
    have h2 : (k == 2) = false := by simp; omega
    have h3 : (k == 3) = false := by simp; omega
    have h4 : (k == 4) = false := by simp; omega
    have h5 : (k == 5) = false := by simp; omega
    have h6 : (k == 6) = false := by simp; omega
    have h7 : (k == 7) = false := by simp; omega
    have h8 : (k == 8) = false := by simp; omega
    clear hk
    go_enter Tryd.func6, Tryd.ntmps6
    go_wp2_with (rw [HW1.out])
    go_ret
    exact ⟨rfl, hbA⟩
  | zero =>
    intro t hf hok x w v ht
    obtain ⟨s, n, ks, rfl⟩ := hf
    obtain ⟨A, c, cs, rfl, -, -⟩ := ht.open_
    simp only [Tr.kind, Tr.s, Tr.n, Tr.ks]
    clear ht
    generalize ks.length = m
    obtain ⟨W1, hW1⟩ : ∃ W1, w.alloc (.cells #[.int .i64 1, .string s, .int .i64 n, .slice A m c] 30) = W1 := ⟨_, rfl⟩
    have hk := Blk.new w #[.int .i64 1, .string s, .int .i64 n, .slice A m c] 30
    have hbA := bl_alloc (bl_refl w) (.cells #[.int .i64 1, .string s, .int .i64 n, .slice A m c] 30)
    rw [hW1] at hk hbA
    obtain ⟨k0, k1, k2, k3⟩ := hk.fours
    have HW1 := Lib.hid hW1
    clear hW1 hk
    go_enter Tryd.func6, Tryd.ntmps6
    go_wp2_with (rw [HW1.out])
    go_ret
    exact ⟨rfl, hbA⟩
  | one s =>
    intro t hf hok x w v ht
    obtain ⟨n, ks, rfl⟩ := hf
    obtain ⟨A, c, cs, rfl, -, -⟩ := ht.open_
    simp only [Tr.kind, Tr.s, Tr.n, Tr.ks]
    clear ht
    generalize ks.length = m
    obtain ⟨W1, hW1⟩ : ∃ W1, w.alloc (.cells #[.int .i64 2, .string s, .int .i64 n, .slice A m c] 30) = W1 := ⟨_, rfl⟩
    have hk := Blk.new w #[.int .i64 2, .string s, .int .i64 n, .slice A m c] 30
    have hbA := bl_alloc (bl_refl w) (.cells #[.int .i64 2, .string s, .int .i64 n, .slice A m c] 30)
    rw [hW1] at hk hbA
    obtain ⟨k0, k1, k2, k3⟩ := hk.fours
    have HW1 := Lib.hid hW1
    clear hW1 hk
    go_enter Tryd.func6, Tryd.ntmps6
    go_wp2_with (rw [HW1.out])
    go_ret
    exact ⟨rfl, hbA⟩
  | give o ih =>
    intro t hf hok x w v ht
    obtain ⟨s, n, a, rfl, hfa⟩ := hf
    obtain ⟨q, c, c0, c1, c2, c3, rfl, ⟨h0, h1, h2, h3⟩, ha⟩ := ht.one
    clear ht
    obtain ⟨W1, hW1⟩ : ∃ W1, w.alloc (.cells #[.int .i64 3, .string s, .int .i64 n, .slice (some ⟨q, 0, none⟩) 1 c] 30) = W1 := ⟨_, rfl⟩
    have hk := Blk.new w #[.int .i64 3, .string s, .int .i64 n, .slice (some ⟨q, 0, none⟩) 1 c] 30
    have hbA := bl_alloc (bl_refl w) (.cells #[.int .i64 3, .string s, .int .i64 n, .slice (some ⟨q, 0, none⟩) 1 c] 30)
    rw [hW1] at hk hbA
    obtain ⟨k0, k1, k2, k3⟩ := hk.fours
    have HW1 := Lib.hid hW1
    clear hW1 hk
    replace h0 := cell_below hbA h0
    replace h1 := cell_below hbA h1
    replace h2 := cell_below hbA h2
    replace h3 := cell_below hbA h3
    have HA := Lib.hid (ha.below hbA)
    clear ha
    have hl := o.isI hok
    have hn := ih a hfa hok x W1 _ HA.out
    unfold GivesT at *
    have HN := Lib.hid hn
    clear hn ih
    go_enter Tryd.func6, Tryd.ntmps6
    go_wp2_with (rw [HW1.out])
    refine HN.out.mono ?_
    rintro e wX ⟨rfl, hbX⟩
    go_wp2_with fail
    go_ret
    exact ⟨rfl, bl_step hbX hbA⟩
  | and l r ihl ihr =>
    intro t hf hok x w v ht
    obtain ⟨s, n, a, b, rfl, hfl, hfr⟩ := hf
    obtain ⟨q, c, c0, c1, c2, c3, c4, c5, c6, c7, rfl, ⟨h0, h1, h2, h3⟩, ⟨h4, h5, h6, h7⟩, ha, hb⟩ := ht.two
    clear ht
    obtain ⟨W1, hW1⟩ : ∃ W1, w.alloc (.cells #[.int .i64 4, .string s, .int .i64 n, .slice (some ⟨q, 0, none⟩) 2 c] 30) = W1 := ⟨_, rfl⟩
    have hk := Blk.new w #[.int .i64 4, .string s, .int .i64 n, .slice (some ⟨q, 0, none⟩) 2 c] 30
    have hbA := bl_alloc (bl_refl w) (.cells #[.int .i64 4, .string s, .int .i64 n, .slice (some ⟨q, 0, none⟩) 2 c] 30)
    rw [hW1] at hk hbA
    obtain ⟨k0, k1, k2, k3⟩ := hk.fours
    have HW1 := Lib.hid hW1
    clear hW1 hk
    replace h0 := cell_below hbA h0
    replace h1 := cell_below hbA h1
    replace h2 := cell_below hbA h2
    replace h3 := cell_below hbA h3
    replace h4 := cell_below hbA h4
    replace h5 := cell_below hbA h5
    replace h6 := cell_below hbA h6
    replace h7 := cell_below hbA h7
    have HA := Lib.hid (ha.below hbA); have HB := Lib.hid (hb.below hbA)
    clear ha hb
    have hl := l.isI hok.1
    have hr := r.isI hok.2
    have IL := Lib.hid (ihl a hfl hok.1); have IR := Lib.hid (ihr b hfr hok.2)
    clear ihl ihr
    unfold GivesT at *
    go_enter Tryd.func6, Tryd.ntmps6
    go_upto_region 9 with (rw [HW1.out])
    have HA1 := Lib.hid (HA.out.below (bl_drew (bl_refl _)))
    go_region_held3 (fun w' => w'.cell? ⟨w.heap.size, 3, none⟩ = some (.slice (some ⟨q, 0, none⟩) 2 c) ∧ w'.cell? ⟨q, 0, none⟩ = some c0 ∧ w'.cell? ⟨q, 1, none⟩ = some c1 ∧ w'.cell? ⟨q, 2, none⟩ = some c2 ∧ w'.cell? ⟨q, 3, none⟩ = some c3 ∧ w'.cell? ⟨q, 4, none⟩ = some c4 ∧ w'.cell? ⟨q, 5, none⟩ = some c5 ∧ w'.cell? ⟨q, 6, none⟩ = some c6 ∧ w'.cell? ⟨q, 7, none⟩ = some c7) (first | exact ⟨cell_below hbX k3, cell_below hbX h0, cell_below hbX h1, cell_below hbX h2, cell_below hbX h3, cell_below hbX h4, cell_below hbX h5, cell_below hbX h6, cell_below hbX h7⟩ | exact ⟨k3, h0, h1, h2, h3, h4, h5, h6, h7⟩ | go_keep) (((first | go_at_call 6 | go_at_call 6); first | (refine (IR.out x wX _ HB2.out).mono ?_; rintro e wY ⟨rfl, hb0⟩; have hbZ := bl_step hb0 hbX; clear hbX; have hbX := hbZ) | (refine (IL.out x W1.drew _ HA1.out).mono ?_; rintro e wX ⟨rfl, hb0⟩; have hbX := bl_step hb0 (bl_drew (bl_refl W1)); have HB2 := Lib.hid (HB.out.below hbX))))
    go_wp2_with fail
    go_ret
    exact ⟨rfl, bl_step hbX hbA⟩
  | or s l r ihl ihr =>
    intro t hf hok x w v ht
    obtain ⟨n, a, b, rfl, hfl, hfr⟩ := hf
    obtain ⟨q, c, c0, c1, c2, c3, c4, c5, c6, c7, rfl, ⟨h0, h1, h2, h3⟩, ⟨h4, h5, h6, h7⟩, ha, hb⟩ := ht.two
    clear ht
    obtain ⟨W1, hW1⟩ : ∃ W1, w.alloc (.cells #[.int .i64 5, .string s, .int .i64 n, .slice (some ⟨q, 0, none⟩) 2 c] 30) = W1 := ⟨_, rfl⟩
    have hk := Blk.new w #[.int .i64 5, .string s, .int .i64 n, .slice (some ⟨q, 0, none⟩) 2 c] 30
    have hbA := bl_alloc (bl_refl w) (.cells #[.int .i64 5, .string s, .int .i64 n, .slice (some ⟨q, 0, none⟩) 2 c] 30)
    rw [hW1] at hk hbA
    obtain ⟨k0, k1, k2, k3⟩ := hk.fours
    have HW1 := Lib.hid hW1
    clear hW1 hk
    replace h0 := cell_below hbA h0
    replace h1 := cell_below hbA h1
    replace h2 := cell_below hbA h2
    replace h3 := cell_below hbA h3
    replace h4 := cell_below hbA h4
    replace h5 := cell_below hbA h5
    replace h6 := cell_below hbA h6
    replace h7 := cell_below hbA h7
    have HA := Lib.hid (ha.below hbA); have HB := Lib.hid (hb.below hbA)
    clear ha hb
    have hl := l.isI hok.2.1
    have hr := r.isI hok.2.2
    have IL := Lib.hid (ihl a hfl hok.2.1); have IR := Lib.hid (ihr b hfr hok.2.2)
    clear ihl ihr
    unfold GivesT at *
    go_enter Tryd.func6, Tryd.ntmps6
    go_upto_region 11 with (rw [HW1.out])
    have HA1 := Lib.hid (HA.out.below (bl_drew (bl_refl _)))
    go_region_held3 (fun w' => w'.cell? ⟨w.heap.size, 1, none⟩ = some (.string s) ∧ w'.cell? ⟨w.heap.size, 3, none⟩ = some (.slice (some ⟨q, 0, none⟩) 2 c) ∧ w'.cell? ⟨q, 0, none⟩ = some c0 ∧ w'.cell? ⟨q, 1, none⟩ = some c1 ∧ w'.cell? ⟨q, 2, none⟩ = some c2 ∧ w'.cell? ⟨q, 3, none⟩ = some c3 ∧ w'.cell? ⟨q, 4, none⟩ = some c4 ∧ w'.cell? ⟨q, 5, none⟩ = some c5 ∧ w'.cell? ⟨q, 6, none⟩ = some c6 ∧ w'.cell? ⟨q, 7, none⟩ = some c7) (first | exact ⟨cell_below hbX k1, cell_below hbX k3, cell_below hbX h0, cell_below hbX h1, cell_below hbX h2, cell_below hbX h3, cell_below hbX h4, cell_below hbX h5, cell_below hbX h6, cell_below hbX h7⟩ | exact ⟨k1, k3, h0, h1, h2, h3, h4, h5, h6, h7⟩ | go_keep) (((first | go_at_call 6 | go_at_call 6); first | (refine (IR.out x wX _ HB2.out).mono ?_; rintro e wY ⟨rfl, hb0⟩; have hbZ := bl_step hb0 hbX; clear hbX; have hbX := hbZ) | (refine (IL.out x W1.drew _ HA1.out).mono ?_; rintro e wX ⟨rfl, hb0⟩; have hbX := bl_step hb0 (bl_drew (bl_refl W1)); have HB2 := Lib.hid (HB.out.below hbX))))
    go_wp2_with fail
    go_ret
    exact ⟨rfl, bl_step hbX hbA⟩
  | scale l r ihr =>
    intro t hf hok x w v ht
    obtain ⟨s, n, a, b, rfl, hfl, hfr⟩ := hf
    obtain ⟨q, c, c0, c1, c2, c3, c4, c5, c6, c7, rfl, ⟨h0, h1, h2, h3⟩, ⟨h4, h5, h6, h7⟩, ha, hb⟩ := ht.two
    clear ht
    obtain ⟨W1, hW1⟩ : ∃ W1, w.alloc (.cells #[.int .i64 6, .string s, .int .i64 n, .slice (some ⟨q, 0, none⟩) 2 c] 30) = W1 := ⟨_, rfl⟩
    have hk := Blk.new w #[.int .i64 6, .string s, .int .i64 n, .slice (some ⟨q, 0, none⟩) 2 c] 30
    have hbA := bl_alloc (bl_refl w) (.cells #[.int .i64 6, .string s, .int .i64 n, .slice (some ⟨q, 0, none⟩) 2 c] 30)
    rw [hW1] at hk hbA
    obtain ⟨k0, k1, k2, k3⟩ := hk.fours
    have HW1 := Lib.hid hW1
    clear hW1 hk
    replace h0 := cell_below hbA h0
    replace h1 := cell_below hbA h1
    replace h2 := cell_below hbA h2
    replace h3 := cell_below hbA h3
    replace h4 := cell_below hbA h4
    replace h5 := cell_below hbA h5
    replace h6 := cell_below hbA h6
    replace h7 := cell_below hbA h7
    have HA := Lib.hid (ha.below hbA); have HB := Lib.hid (hb.below hbA)
    clear ha hb
    have hl := l.isI hok.1
    have hr := r.isI hok.2
    have IL := Lib.hid (cobs_from l a hfl hok.1); have IR := Lib.hid (ihr b hfr hok.2)
    clear ihr
    unfold GivesT at *
    unfold GivesO at *
    go_enter Tryd.func6, Tryd.ntmps6
    go_upto_region 13 with (rw [HW1.out])
    have HA1 := Lib.hid (HA.out.below (bl_drew (bl_refl _)))
    go_region_held3 (fun w' => w'.cell? ⟨w.heap.size, 3, none⟩ = some (.slice (some ⟨q, 0, none⟩) 2 c) ∧ w'.cell? ⟨q, 0, none⟩ = some c0 ∧ w'.cell? ⟨q, 1, none⟩ = some c1 ∧ w'.cell? ⟨q, 2, none⟩ = some c2 ∧ w'.cell? ⟨q, 3, none⟩ = some c3 ∧ w'.cell? ⟨q, 4, none⟩ = some c4 ∧ w'.cell? ⟨q, 5, none⟩ = some c5 ∧ w'.cell? ⟨q, 6, none⟩ = some c6 ∧ w'.cell? ⟨q, 7, none⟩ = some c7) (first | exact ⟨cell_below hbX k3, cell_below hbX h0, cell_below hbX h1, cell_below hbX h2, cell_below hbX h3, cell_below hbX h4, cell_below hbX h5, cell_below hbX h6, cell_below hbX h7⟩ | exact ⟨k3, h0, h1, h2, h3, h4, h5, h6, h7⟩ | go_keep) (((first | go_at_call 6 | go_at_call 22); first | (refine (IR.out x wX _ HB2.out).mono ?_; rintro e wY ⟨rfl, hb0⟩; have hbZ := bl_step hb0 hbX; clear hbX; have hbX := hbZ) | (refine (IL.out x W1.drew _ HA1.out).mono ?_; rintro e wX ⟨rfl, hb0⟩; have hbX := bl_step hb0 (bl_drew (bl_refl W1)); have HB2 := Lib.hid (HB.out.below hbX))))
    go_wp2_with fail
    go_ret
    exact ⟨rfl, bl_step hbX hbA⟩
  | when_ n l ihl =>
    intro t hf hok x w v ht
    obtain ⟨s, a, rfl, hfl⟩ := hf
    obtain ⟨q, c, c0, c1, c2, c3, rfl, ⟨h0, h1, h2, h3⟩, ha⟩ := ht.one
    clear ht
    obtain ⟨W1, hW1⟩ : ∃ W1, w.alloc (.cells #[.int .i64 7, .string s, .int .i64 n, .slice (some ⟨q, 0, none⟩) 1 c] 30) = W1 := ⟨_, rfl⟩
    have hk := Blk.new w #[.int .i64 7, .string s, .int .i64 n, .slice (some ⟨q, 0, none⟩) 1 c] 30
    have hbA := bl_alloc (bl_refl w) (.cells #[.int .i64 7, .string s, .int .i64 n, .slice (some ⟨q, 0, none⟩) 1 c] 30)
    rw [hW1] at hk hbA
    obtain ⟨k0, k1, k2, k3⟩ := hk.fours
    have HW1 := Lib.hid hW1
    clear hW1 hk
    replace h0 := cell_below hbA h0
    replace h1 := cell_below hbA h1
    replace h2 := cell_below hbA h2
    replace h3 := cell_below hbA h3
    have HA := Lib.hid (ha.below hbA)
    clear ha
    have hl := l.isI hok.2
    have IL := Lib.hid (ihl a hfl hok.2)
    clear ihl
    unfold GivesT at *
    go_enter Tryd.func6, Tryd.ntmps6
    go_upto_region 15 with (rw [HW1.out])
    have HA1 := Lib.hid (HA.out.below (bl_drew (bl_refl _)))
    go_region_held3 (fun w' => w'.cell? ⟨w.heap.size, 2, none⟩ = some (.int .i64 n) ∧ w'.cell? ⟨w.heap.size, 3, none⟩ = some (.slice (some ⟨q, 0, none⟩) 1 c) ∧ w'.cell? ⟨q, 0, none⟩ = some c0 ∧ w'.cell? ⟨q, 1, none⟩ = some c1 ∧ w'.cell? ⟨q, 2, none⟩ = some c2 ∧ w'.cell? ⟨q, 3, none⟩ = some c3) (first | exact ⟨cell_below hbX k2, cell_below hbX k3, cell_below hbX h0, cell_below hbX h1, cell_below hbX h2, cell_below hbX h3⟩ | exact ⟨k2, k3, h0, h1, h2, h3⟩ | go_keep) ((go_at_call 6; refine (IL.out x W1.drew _ HA1.out).mono ?_; rintro e wX ⟨rfl, hb0⟩; have hbX := bl_step hb0 (bl_drew (bl_refl W1))))
    go_wp2_with fail
    go_ret
    exact ⟨rfl, bl_step hbX hbA⟩
  | if_ l r d ihr ihd =>
    intro t hf hok x w v ht
    obtain ⟨s, n, a, b, e, rfl, hfl, hfr, hfd⟩ := hf
    obtain ⟨q, c, c0, c1, c2, c3, c4, c5, c6, c7, c8, c9, ca, cb, rfl, ⟨h0, h1, h2, h3⟩, ⟨h4, h5, h6, h7⟩, ⟨h8, h9, h10, h11⟩, ha, hb, hd⟩ := ht.three
    clear ht
    obtain ⟨W1, hW1⟩ : ∃ W1, w.alloc (.cells #[.int .i64 8, .string s, .int .i64 n, .slice (some ⟨q, 0, none⟩) 3 c] 30) = W1 := ⟨_, rfl⟩
    have hk := Blk.new w #[.int .i64 8, .string s, .int .i64 n, .slice (some ⟨q, 0, none⟩) 3 c] 30
    have hbA := bl_alloc (bl_refl w) (.cells #[.int .i64 8, .string s, .int .i64 n, .slice (some ⟨q, 0, none⟩) 3 c] 30)
    rw [hW1] at hk hbA
    obtain ⟨k0, k1, k2, k3⟩ := hk.fours
    have HW1 := Lib.hid hW1
    clear hW1 hk
    replace h0 := cell_below hbA h0
    replace h1 := cell_below hbA h1
    replace h2 := cell_below hbA h2
    replace h3 := cell_below hbA h3
    replace h4 := cell_below hbA h4
    replace h5 := cell_below hbA h5
    replace h6 := cell_below hbA h6
    replace h7 := cell_below hbA h7
    replace h8 := cell_below hbA h8
    replace h9 := cell_below hbA h9
    replace h10 := cell_below hbA h10
    replace h11 := cell_below hbA h11
    have HA := Lib.hid (ha.below hbA); have HB := Lib.hid (hb.below hbA); have HD := Lib.hid (hd.below hbA)
    clear ha hb hd
    have hl := l.isI hok.1
    have hr := r.isI hok.2.1
    have hd := d.isI hok.2.2
    have IL := Lib.hid (cobs_from l a hfl hok.1); have IR := Lib.hid (ihr b hfr hok.2.1); have ID := Lib.hid (ihd e hfd hok.2.2)
    clear ihr ihd
    unfold GivesT at *
    unfold GivesO at *
    go_enter Tryd.func6, Tryd.ntmps6
    go_upto_region 17 with (rw [HW1.out])
    have HA1 := Lib.hid (HA.out.below (bl_drew (bl_refl _)))
    go_region_held3 (fun w' => w'.cell? ⟨w.heap.size, 3, none⟩ = some (.slice (some ⟨q, 0, none⟩) 3 c) ∧ w'.cell? ⟨q, 0, none⟩ = some c0 ∧ w'.cell? ⟨q, 1, none⟩ = some c1 ∧ w'.cell? ⟨q, 2, none⟩ = some c2 ∧ w'.cell? ⟨q, 3, none⟩ = some c3 ∧ w'.cell? ⟨q, 4, none⟩ = some c4 ∧ w'.cell? ⟨q, 5, none⟩ = some c5 ∧ w'.cell? ⟨q, 6, none⟩ = some c6 ∧ w'.cell? ⟨q, 7, none⟩ = some c7 ∧ w'.cell? ⟨q, 8, none⟩ = some c8 ∧ w'.cell? ⟨q, 9, none⟩ = some c9 ∧ w'.cell? ⟨q, 10, none⟩ = some ca ∧ w'.cell? ⟨q, 11, none⟩ = some cb) (first | exact ⟨cell_below hbX k3, cell_below hbX h0, cell_below hbX h1, cell_below hbX h2, cell_below hbX h3, cell_below hbX h4, cell_below hbX h5, cell_below hbX h6, cell_below hbX h7, cell_below hbX h8, cell_below hbX h9, cell_below hbX h10, cell_below hbX h11⟩ | exact ⟨k3, h0, h1, h2, h3, h4, h5, h6, h7, h8, h9, h10, h11⟩ | go_keep) (((first | go_at_call 6 | go_at_call 22); first | (refine (ID.out x wY _ HD2.out).mono ?_; rintro e wZ ⟨rfl, hb0⟩; have hbZ := bl_step hb0 hbX; clear hbX; have hbX := hbZ) | (refine (IR.out x wX _ HB2.out).mono ?_; rintro e wY ⟨rfl, hb0⟩; have hbZ := bl_step hb0 hbX; clear hbX; have hbX := hbZ; have HD2 := Lib.hid (HD.out.below hbX)) | (refine (IL.out x W1.drew _ HA1.out).mono ?_; rintro e wX ⟨rfl, hb0⟩; have hbX := bl_step hb0 (bl_drew (bl_refl W1)); have HB2 := Lib.hid (HB.out.below hbX))))
    go_wp2_with fail
    go_ret
    exact ⟨rfl, bl_step hbX hbA⟩
end Go.Proofs.YtapbkomicihkkaaDoor
namespace Go.Proofs.YtapbkomicihkkaaDoor
open Go.RowKit
set_option linter.unusedVariables false
set_option linter.unusedSimpArgs false

/-- How many parts a kind has. -/
def needN (k : Int) : Nat := if k = 3 ∨ k = 7 ∨ k = 14 then 1 else if k = 4 ∨ k = 5 ∨ k = 6 ∨ k = 13 ∨ k = 15 ∨ k = 16 then 2 else if k = 8 then 3 else 0
mutual
def Tr.shape : Tr → Prop
  | .mk k s n ks => ks.length = needN k ∧ Tr.shapeAll ks
def Tr.shapeAll : List Tr → Prop
  | [] => True
  | t :: ts => t.shape ∧ Tr.shapeAll ts
end
/-- So many parts at most, its names short, its numbers of 64 bits. -/
structure Ob.nice (o : Ob) (m : Nat) : Prop where
  ok : o.ok
  tr : o.tr.ok
  size : o.tr.size ≤ m
  meas : o.meas ≤ m
structure Tm.nice (o : Tm) (m : Nat) : Prop where
  ok : o.ok
  tr : o.tr.ok
  size : o.tr.size ≤ m
  meas : o.meas ≤ m
theorem nodeOk_nil (k : Int) (h : 0 ≤ k ∧ k ≤ 20) : nodeOk k nS 0 := nodeOk_small k nS 0 h (by decide) (by omega)
theorem Tr.okAll_nil : Tr.okAll [] := by unfold Tr.okAll; trivial
theorem Tr.okAll_one {a : Tr} (h : a.ok) : Tr.okAll [a] := by unfold Tr.okAll; exact ⟨h, Tr.okAll_nil⟩
theorem Tr.okAll_two {a b : Tr} (h : a.ok) (h' : b.ok) : Tr.okAll [a, b] := by unfold Tr.okAll; exact ⟨h, Tr.okAll_one h'⟩
theorem Tr.okAll_three {a b c : Tr} (h : a.ok) (h' : b.ok) (h2 : c.ok) : Tr.okAll [a, b, c] := by unfold Tr.okAll; exact ⟨h, Tr.okAll_two h' h2⟩
theorem Ob.nice_nil (m : Nat) (hm : 1 ≤ m) : (Ob.odd .nilIface).nice m :=
  ⟨.inl rfl, by unfold Ob.tr Tr.ok; exact ⟨nodeOk_nil _ (by omega), Tr.okAll_nil⟩, by simp [Ob.tr, Tr.size, Tr.sizeAll]; omega, by simp [Ob.meas]; omega⟩
theorem Tm.nice_nil (m : Nat) (hm : 1 ≤ m) : (Tm.odd .nilIface).nice m :=
  ⟨.inl rfl, by unfold Tm.tr Tr.ok; exact ⟨nodeOk_nil _ (by omega), Tr.okAll_nil⟩, by simp [Tm.tr, Tr.size, Tr.sizeAll]; omega, by simp [Tm.meas]; omega⟩
theorem len_one {α : Type} : ∀ {l : List α}, l.length = 1 → ∃ a, l = [a]
  | [a], _ => ⟨a, rfl⟩
theorem len_two {α : Type} : ∀ {l : List α}, l.length = 2 → ∃ a b, l = [a, b]
  | [a, b], _ => ⟨a, b, rfl⟩
theorem len_three {α : Type} : ∀ {l : List α}, l.length = 3 → ∃ a b c, l = [a, b, c]
  | [a, b, c], _ => ⟨a, b, c, rfl⟩
theorem Ob.from_tree (B : Nat) : ∀ t : Tr, t.size ≤ B → t.shape → t.ok → ∃ o : Ob, o.from_ t ∧ o.nice t.size := by
  induction B with
  | zero => intro t h; have := t.size_pos; omega
  | succ B ih =>
    intro t hs hsh hok
    obtain ⟨k, s, n, ks⟩ := t
    have hnode : nodeOk k s n := by unfold Tr.ok at hok; exact hok.1
    have hoks : Tr.okAll ks := by unfold Tr.ok at hok; exact hok.2
    have hlen : ks.length = needN k := by unfold Tr.shape at hsh; exact hsh.1
    have hsub : Tr.shapeAll ks := by unfold Tr.shape at hsh; exact hsh.2
    have hsz : (Tr.mk k s n ks).size = Tr.sizeAll ks + 1 := by unfold Tr.size; rfl
    rw [hsz] at hs ⊢
    obtain ⟨hk, hss, hn⟩ := hnode
    have two : ∀ (f : Ob → Ob → Ob), needN k = 2 → (∀ l r a b, ks = [a, b] → l.from_ a → r.from_ b → (f l r).from_ (.mk k s n ks)) → (∀ l r (m m' : Nat), l.nice m → r.nice m' → (f l r).nice (m + m' + 1)) → ∃ o : Ob, o.from_ (.mk k s n ks) ∧ o.nice (Tr.sizeAll ks + 1) := by
      intro f hf h1 h2
      obtain ⟨a, b, rfl⟩ := len_two (hlen.trans hf)
      simp only [Tr.sizeAll] at hs ⊢
      unfold Tr.shapeAll Tr.shapeAll Tr.shapeAll at hsub
      unfold Tr.okAll Tr.okAll Tr.okAll at hoks
      obtain ⟨l, hl, gl⟩ := ih a (by omega) hsub.1 hoks.1
      obtain ⟨r, hr, gr⟩ := ih b (by omega) hsub.2.1 hoks.2.1
      exact ⟨f l r, h1 l r a b rfl hl hr, h2 l r _ _ gl gr⟩
    by_cases h11 : k = 11
    · subst h11
      exact ⟨.const n, ⟨s, ks, rfl⟩, ⟨by unfold Ob.ok; omega, by unfold Ob.tr Tr.ok; exact ⟨⟨by omega, by decide, by omega⟩, Tr.okAll_nil⟩, by simp [Ob.tr, Tr.size, Tr.sizeAll], by simp [Ob.meas]⟩⟩
    by_cases h12 : k = 12
    · subst h12
      exact ⟨.fix s, ⟨n, ks, rfl⟩, ⟨by unfold Ob.ok; omega, by unfold Ob.tr Tr.ok; exact ⟨⟨by omega, hss, by omega⟩, Tr.okAll_nil⟩, by simp [Ob.tr, Tr.size, Tr.sizeAll], by simp [Ob.meas]⟩⟩
    by_cases h14 : k = 14
    · subst h14
      obtain ⟨a, rfl⟩ := len_one (hlen.trans (by decide))
      simp only [Tr.sizeAll] at hs ⊢
      unfold Tr.shapeAll Tr.shapeAll at hsub
      unfold Tr.okAll Tr.okAll at hoks
      obtain ⟨o, ho, g⟩ := ih a (by omega) hsub.1 hoks.1
      exact ⟨.neg o, ⟨s, n, a, rfl, ho⟩, ⟨g.ok, by unfold Ob.tr Tr.ok; exact ⟨nodeOk_nil _ (by omega), Tr.okAll_one g.tr⟩, by have := g.size; simp only [Ob.tr, Tr.size, Tr.sizeAll]; omega, by have := g.meas; simp only [Ob.meas]; omega⟩⟩
    by_cases h13 : k = 13
    · subst h13
      exact two .add (by decide) (fun l r a b e hl hr => ⟨s, n, a, b, by rw [e], hl, hr⟩) (fun l r m m' gl gr => ⟨⟨gl.ok, gr.ok⟩, by unfold Ob.tr Tr.ok; exact ⟨nodeOk_nil _ (by omega), Tr.okAll_two gl.tr gr.tr⟩, by have := gl.size; have := gr.size; simp only [Ob.tr, Tr.size, Tr.sizeAll]; omega, by have := gl.meas; have := gr.meas; simp only [Ob.meas]; omega⟩)
    by_cases h15 : k = 15
    · subst h15
      exact two .mul (by decide) (fun l r a b e hl hr => ⟨s, n, a, b, by rw [e], hl, hr⟩) (fun l r m m' gl gr => ⟨⟨gl.ok, gr.ok⟩, by unfold Ob.tr Tr.ok; exact ⟨nodeOk_nil _ (by omega), Tr.okAll_two gl.tr gr.tr⟩, by have := gl.size; have := gr.size; simp only [Ob.tr, Tr.size, Tr.sizeAll]; omega, by have := gl.meas; have := gr.meas; simp only [Ob.meas]; omega⟩)
    by_cases h16 : k = 16
    · subst h16
      exact two .max (by decide) (fun l r a b e hl hr => ⟨s, n, a, b, by rw [e], hl, hr⟩) (fun l r m m' gl gr => ⟨⟨gl.ok, gr.ok⟩, by unfold Ob.tr Tr.ok; exact ⟨nodeOk_nil _ (by omega), Tr.okAll_two gl.tr gr.tr⟩, by have := gl.size; have := gr.size; simp only [Ob.tr, Tr.size, Tr.sizeAll]; omega, by have := gl.meas; have := gr.meas; simp only [Ob.meas]; omega⟩)
    exact ⟨.odd .nilIface, ⟨rfl, by simp only [Tr.kind]; omega⟩, Ob.nice_nil _ (by omega)⟩
theorem Tm.from_tree (B : Nat) : ∀ t : Tr, t.size ≤ B → t.shape → t.ok → ∃ o : Tm, o.from_ t ∧ o.nice t.size := by
  induction B with
  | zero => intro t h; have := t.size_pos; omega
  | succ B ih =>
    intro t hs hsh hok
    obtain ⟨k, s, n, ks⟩ := t
    have hnode : nodeOk k s n := by unfold Tr.ok at hok; exact hok.1
    have hoks : Tr.okAll ks := by unfold Tr.ok at hok; exact hok.2
    have hlen : ks.length = needN k := by unfold Tr.shape at hsh; exact hsh.1
    have hsub : Tr.shapeAll ks := by unfold Tr.shape at hsh; exact hsh.2
    have hsz : (Tr.mk k s n ks).size = Tr.sizeAll ks + 1 := by unfold Tr.size; rfl
    rw [hsz] at hs ⊢
    obtain ⟨hk, hss, hn⟩ := hnode
    by_cases h1 : k = 1
    · subst h1
      exact ⟨.zero, ⟨s, n, ks, rfl⟩, ⟨trivial, by unfold Tm.tr Tr.ok; exact ⟨nodeOk_nil _ (by omega), Tr.okAll_nil⟩, by simp [Tm.tr, Tr.size, Tr.sizeAll], by simp [Tm.meas]⟩⟩
    by_cases h2 : k = 2
    · subst h2
      exact ⟨.one s, ⟨n, ks, rfl⟩, ⟨by unfold Tm.ok; omega, by unfold Tm.tr Tr.ok; exact ⟨⟨by omega, hss, by omega⟩, Tr.okAll_nil⟩, by simp [Tm.tr, Tr.size, Tr.sizeAll], by simp [Tm.meas]⟩⟩
    by_cases h3 : k = 3
    · subst h3
      obtain ⟨a, rfl⟩ := len_one (hlen.trans (by decide))
      simp only [Tr.sizeAll] at hs ⊢
      unfold Tr.shapeAll Tr.shapeAll at hsub
      unfold Tr.okAll Tr.okAll at hoks
      obtain ⟨o, ho, g⟩ := ih a (by omega) hsub.1 hoks.1
      exact ⟨.give o, ⟨s, n, a, rfl, ho⟩, ⟨g.ok, by unfold Tm.tr Tr.ok; exact ⟨nodeOk_nil _ (by omega), Tr.okAll_one g.tr⟩, by have := g.size; simp only [Tm.tr, Tr.size, Tr.sizeAll]; omega, by have := g.meas; simp only [Tm.meas]; omega⟩⟩
    by_cases h7 : k = 7
    · subst h7
      obtain ⟨a, rfl⟩ := len_one (hlen.trans (by decide))
      simp only [Tr.sizeAll] at hs ⊢
      unfold Tr.shapeAll Tr.shapeAll at hsub
      unfold Tr.okAll Tr.okAll at hoks
      obtain ⟨o, ho, g⟩ := ih a (by omega) hsub.1 hoks.1
      exact ⟨.when_ n o, ⟨s, a, rfl, ho⟩, ⟨⟨by omega, g.ok⟩, by unfold Tm.tr Tr.ok; exact ⟨⟨by omega, by decide, hn⟩, Tr.okAll_one g.tr⟩, by have := g.size; simp only [Tm.tr, Tr.size, Tr.sizeAll]; omega, by have := g.meas; simp only [Tm.meas]; omega⟩⟩
    by_cases h4 : k = 4
    · subst h4
      obtain ⟨a, b, rfl⟩ := len_two (hlen.trans (by decide))
      simp only [Tr.sizeAll] at hs ⊢
      unfold Tr.shapeAll Tr.shapeAll Tr.shapeAll at hsub
      unfold Tr.okAll Tr.okAll Tr.okAll at hoks
      obtain ⟨l, hl, gl⟩ := ih a (by omega) hsub.1 hoks.1
      obtain ⟨r, hr, gr⟩ := ih b (by omega) hsub.2.1 hoks.2.1
      exact ⟨.and l r, ⟨s, n, a, b, rfl, hl, hr⟩, ⟨⟨gl.ok, gr.ok⟩, by unfold Tm.tr Tr.ok; exact ⟨nodeOk_nil _ (by omega), Tr.okAll_two gl.tr gr.tr⟩, by have := gl.size; have := gr.size; simp only [Tm.tr, Tr.size, Tr.sizeAll]; omega, by have := gl.meas; have := gr.meas; simp only [Tm.meas]; omega⟩⟩
    by_cases h5 : k = 5
    · subst h5
      obtain ⟨a, b, rfl⟩ := len_two (hlen.trans (by decide))
      simp only [Tr.sizeAll] at hs ⊢
      unfold Tr.shapeAll Tr.shapeAll Tr.shapeAll at hsub
      unfold Tr.okAll Tr.okAll Tr.okAll at hoks
      obtain ⟨l, hl, gl⟩ := ih a (by omega) hsub.1 hoks.1
      obtain ⟨r, hr, gr⟩ := ih b (by omega) hsub.2.1 hoks.2.1
      exact ⟨.or s l r, ⟨n, a, b, rfl, hl, hr⟩, ⟨⟨by omega, gl.ok, gr.ok⟩, by unfold Tm.tr Tr.ok; exact ⟨⟨by omega, hss, by omega⟩, Tr.okAll_two gl.tr gr.tr⟩, by have := gl.size; have := gr.size; simp only [Tm.tr, Tr.size, Tr.sizeAll]; omega, by have := gl.meas; have := gr.meas; simp only [Tm.meas]; omega⟩⟩
    by_cases h6 : k = 6
    · subst h6
      obtain ⟨a, b, rfl⟩ := len_two (hlen.trans (by decide))
      simp only [Tr.sizeAll] at hs ⊢
      unfold Tr.shapeAll Tr.shapeAll Tr.shapeAll at hsub
      unfold Tr.okAll Tr.okAll Tr.okAll at hoks
      obtain ⟨l, hl, gl⟩ := Ob.from_tree B a (by omega) hsub.1 hoks.1
      obtain ⟨r, hr, gr⟩ := ih b (by omega) hsub.2.1 hoks.2.1
      exact ⟨.scale l r, ⟨s, n, a, b, rfl, hl, hr⟩, ⟨⟨gl.ok, gr.ok⟩, by unfold Tm.tr Tr.ok; exact ⟨nodeOk_nil _ (by omega), Tr.okAll_two gl.tr gr.tr⟩, by have := gl.size; have := gr.size; simp only [Tm.tr, Tr.size, Tr.sizeAll]; omega, by have := gl.meas; have := gr.meas; simp only [Tm.meas]; omega⟩⟩
    by_cases h8 : k = 8
    · subst h8
      obtain ⟨a, b, d, rfl⟩ := len_three (hlen.trans (by decide))
      simp only [Tr.sizeAll] at hs ⊢
      unfold Tr.shapeAll Tr.shapeAll Tr.shapeAll Tr.shapeAll at hsub
      unfold Tr.okAll Tr.okAll Tr.okAll Tr.okAll at hoks
      obtain ⟨l, hl, gl⟩ := Ob.from_tree B a (by omega) hsub.1 hoks.1
      obtain ⟨r, hr, gr⟩ := ih b (by omega) hsub.2.1 hoks.2.1
      obtain ⟨e, he, ge⟩ := ih d (by omega) hsub.2.2.1 hoks.2.2.1
      exact ⟨.if_ l r e, ⟨s, n, a, b, d, rfl, hl, hr, he⟩, ⟨⟨gl.ok, gr.ok, ge.ok⟩, by unfold Tm.tr Tr.ok; exact ⟨nodeOk_nil _ (by omega), Tr.okAll_three gl.tr gr.tr ge.tr⟩, by have := gl.size; have := gr.size; have := ge.size; simp only [Tm.tr, Tr.size, Tr.sizeAll]; omega, by have := gl.meas; have := gr.meas; have := ge.meas; simp only [Tm.meas]; omega⟩⟩
    exact ⟨.odd .nilIface, ⟨rfl, by simp only [Tr.kind]; omega⟩, Tm.nice_nil _ (by omega)⟩
end Go.Proofs.YtapbkomicihkkaaDoor
