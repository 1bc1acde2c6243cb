/- A tree spoilt at a place: spoil, Spoilt. -/
import Derived.Test.YtapbkomicihkkaaDoorConvG
import Derived.Test.YtapbkomicihkkaaDoorPlanG
import Derived.Test.YtapbkomicihkkaaDoorPlainG
import Derived.Test.YtapbkomicihkkaaDoorOwn
import Derived.Deep.MidRow
import Derived.Deep.DeepCutAuto
import Derived.Deep.CutBlock
namespace Go.Proofs.YtapbkomicihkkaaDoor
open Go.RowKit
set_option linter.unusedVariables false
set_option linter.unusedSimpArgs false

theorem results_T2 {fn : Func} {t u : Tmp} (h : fn.results = #[.cell t 30, .tmp u]) (tmps : Array Value) (W : World) (r : Nat) (a b c d z : Value) (ty : TypeId) (ht : tmps.getD t undef = .pointer (some ⟨r, 0, none⟩)) (hz : tmps.getD u undef = z) (hk : Blk W r #[a, b, c, d] ty) :
    (results fn tmps).run Tryd.prog W = .ok (.tuple #[.agg #[a, b, c, d], z]) W := by
  obtain ⟨⟨k0, k1, k2, k3⟩, _⟩ := hk.four
  have ht' : tmps[t]?.getD undef = .pointer (some ⟨r, 0, none⟩) := by simpa using ht
  have hz' : tmps[u]?.getD undef = z := by simpa using hz
  simp [results, h, ht', hz', go_sem, k0, k1, k2, k3]
/-- It returns a tree of no more parts, spoilt or not, and how far to go still. -/
def GivesS (x : Nat) (P : Nat → Prop) (w : World) (t : Tr) (a : Int) (e : Ending) (w' : World) : Prop :=
  ∃ (u : Tr) (v : Value) (b : Int), e = .returned (.tuple #[v, .int .i64 b]) ∧ TrP x P w' u v ∧ (u.shape ∧ u.ok ∧ u.size ≤ t.size) ∧ (-1 ≤ b ∧ b ≤ a) ∧ Below w.heap.size w w'
theorem RowP.rd {x : Nat} {P : Nat → Prop} {w : World} {A : Option Addr} {cs : List Value} (h : RowP x P w A cs) : Rd w A cs := by
  intro j v hv
  rcases h with ⟨_, rfl⟩ | ⟨b, rfl, _, _, h3⟩
  · simp at hv
  · refine ⟨_, rfl, ?_⟩
    rw [show (⟨b, 0, none⟩ : Addr).add j = ⟨b, j, none⟩ by unfold Addr.add; split <;> simp_all]
    exact h3 j v hv
theorem TrsP.one {x : Nat} {P : Nat → Prop} {w : World} : ∀ {ts : List Tr} {cs : List Value}, TrsP x P w ts cs → ∀ u ∈ cs, u.oneCell' = true
  | [], cs, h, u, hu => by
    have : cs = [] := by have := h.length; simpa using this
    subst this
    cases hu
  | t :: ts, cs, h, u, hu => by
    obtain ⟨c0, c1, c2, c3, rest, rfl, h0, hs⟩ := h.uncons
    obtain ⟨A, c, cs', hag, -, -⟩ := h0.open_
    have hcc : c0 = .int .i64 t.kind ∧ c1 = .string t.s ∧ c2 = .int .i64 t.n ∧ c3 = .slice A t.ks.length c := by injection hag with hag; simp at hag; exact hag
    obtain ⟨rfl, rfl, rfl, rfl⟩ := hcc
    simp only [List.mem_cons] at hu
    rcases hu with rfl | rfl | rfl | rfl | hu
    · rfl
    · rfl
    · rfl
    · rfl
    · exact TrsP.one hs u hu
theorem info_t4 : (Tryd.prog.info? 30).map (fun i => (i.zero, i.size, i.bytes)) = some (some (.agg #[.int .i64 0, .string ⟨#[]⟩, .int .i64 0, .slice none 0 0]), 4, 56) := by kernel_rfl
theorem size_t4s : (Tryd.prog.info? 30).map (·.size) = some 4 := by kernel_rfl
/-- Cells behind a store of a row. -/
theorem cells_set : ∀ (vs : List Value) (o g : Nat) (w : World) (cs : Array Value) (t : TypeId), Blk w g cs t → o + vs.length ≤ cs.size → ∃ cs', Blk (w.setCells g o vs) g cs' t ∧ cs'.size = cs.size ∧ (∀ (j : Nat) (v : Value), vs[j]? = some v → cs'[o + j]? = some v) ∧ ∀ k, k < o ∨ o + vs.length ≤ k → cs'[k]? = cs[k]?
  | [], o, g, w, cs, t, h, _ => ⟨cs, h, rfl, fun j v hv => by simp at hv, fun _ _ => rfl⟩
  | v :: vs, o, g, w, cs, t, h, hl => by
    rw [List.length_cons] at hl
    obtain ⟨cs', h1, h2, h3, h4⟩ := cells_set vs (o + 1) g _ _ t (h.set o v) (by rw [Array.size_setIfInBounds]; omega)
    refine ⟨cs', by rw [World.setCells]; exact h1, by rw [h2, Array.size_setIfInBounds], ?_, fun k hk => ?_⟩
    · intro j u hu
      cases j with
      | zero =>
        obtain rfl : v = u := by simpa using hu
        have ho : o < cs.size := by omega
        rw [h4 _ (by omega), Nat.add_zero]
        simp [ho]
      | succ j =>
        have := h3 j u (by simpa using hu)
        rw [← this]; congr 1; omega
    · rw [List.length_cons] at hk
      rw [h4 k (by omega), Array.getElem?_setIfInBounds_ne (by omega)]
theorem gb_sets_ {g : Nat} : ∀ (vs : List Value) (o : Nat) (w : World), w.grownBy (w.setCells g o vs) (some g)
  | [], o, w => gb_refl _ _
  | v :: vs, o, w => by rw [World.setCells]; exact gb_trans (gb_set o v) (gb_sets_ vs (o + 1) _)
theorem Blk.thereT {t : TypeId} {g o n : Nat} {w : World} {cs : Array Value} (h : Blk w g cs t) (hl : o + n ≤ cs.size) : w.there g o n := fun j hj => by
  rw [h.cell, h.frozen, Array.getElem?_eq_getElem (by omega)]
  exact ⟨rfl, rfl⟩
/-- The parts, some of them done. -/
structure SpSt (x : Nat) (P : Nat → Prop) (W1 : World) (ks : List Tr) (A : Option Addr) (n i : Nat) (dn td : List Tr) (cd ct : List Value) (wr : World) : Prop where
  ld : dn.length = i
  lt : i + td.length = n
  hd : TrsP x (fun b => P b ∧ some (⟨b, 0, none⟩ : Addr) ≠ A) wr dn cd
  ht : TrsP x (fun b => P b ∧ some (⟨b, 0, none⟩ : Addr) ≠ A) wr td ct
  sd : Tr.shapeAll dn
  st : Tr.shapeAll td
  od : Tr.okAll dn
  ot : Tr.okAll td
  sz : Tr.sizeAll dn + Tr.sizeAll td ≤ Tr.sizeAll ks
  bel : Below W1.heap.size W1 wr
  blk : 0 < n → ∃ g cur, A = some ⟨g, 0, none⟩ ∧ W1.heap.size ≤ g ∧ Blk wr g cur 30 ∧ n * 4 ≤ cur.size ∧ (∀ (j : Nat) (v : Value), cd[j]? = some v → cur[j]? = some v) ∧ ∀ (j : Nat) (v : Value), ct[j]? = some v → cur[i * 4 + j]? = some v
theorem Tr.shapeAll_snoc {t : Tr} (h : t.shape) : ∀ {ts : List Tr}, Tr.shapeAll ts → Tr.shapeAll (ts ++ [t])
  | [], _ => by unfold Tr.shapeAll Tr.shapeAll; exact ⟨h, trivial⟩
  | u :: ts, hs => by unfold Tr.shapeAll at hs; show Tr.shapeAll (u :: (ts ++ [t])); unfold Tr.shapeAll; exact ⟨hs.1, Tr.shapeAll_snoc h hs.2⟩
theorem Tr.okAll_snoc {t : Tr} (h : t.ok) : ∀ {ts : List Tr}, Tr.okAll ts → Tr.okAll (ts ++ [t])
  | [], _ => by unfold Tr.okAll Tr.okAll; exact ⟨h, trivial⟩
  | u :: ts, hs => by unfold Tr.okAll at hs; show Tr.okAll (u :: (ts ++ [t])); unfold Tr.okAll; exact ⟨hs.1, Tr.okAll_snoc h hs.2⟩
theorem Tr.sizeAll_snoc (t : Tr) : ∀ (ts : List Tr), Tr.sizeAll (ts ++ [t]) = Tr.sizeAll ts + t.size
  | [] => by simp [Tr.sizeAll]
  | u :: ts => by show Tr.sizeAll (u :: (ts ++ [t])) = _; simp only [Tr.sizeAll]; rw [Tr.sizeAll_snoc t ts]; omega
/-- One more is done: as it is, or another one that was stored in its place. -/
theorem SpSt.skip {x : Nat} {P : Nat → Prop} {W1 : World} {ks : List Tr} {A : Option Addr} {n i : Nat} {dn td : List Tr} {cd : List Value} {t : Tr} {c0 c1 c2 c3 : Value} {rest : List Value} {wr : World} (h : SpSt x P W1 ks A n i dn (t :: td) cd (c0 :: c1 :: c2 :: c3 :: rest) wr) :
    SpSt x P W1 ks A n (i + 1) (dn ++ [t]) td (cd ++ [c0, c1, c2, c3]) rest wr := by
  obtain ⟨d0, d1, d2, d3, r, e, h0, hs⟩ := h.ht.uncons
  injection e with e1 e; injection e with e2 e; injection e with e3 e; injection e with e4 e5
  subst e1 e2 e3 e4 e5
  have hst := h.st; have hot := h.ot; have hsz := h.sz
  unfold Tr.shapeAll at hst
  unfold Tr.okAll at hot
  simp only [Tr.sizeAll] at hsz
  refine ⟨by rw [List.length_append]; simp [h.ld], by have := h.lt; simp only [List.length_cons] at this; omega, TrsP.snoc h0 h.hd, hs, Tr.shapeAll_snoc hst.1 h.sd, hst.2, Tr.okAll_snoc hot.1 h.od, hot.2, by rw [Tr.sizeAll_snoc]; omega, h.bel, fun hn => ?_⟩
  obtain ⟨g, cur, e1, e2, e3, e4, e5, e6⟩ := h.blk hn
  have hl : cd.length = i * 4 := by rw [h.hd.length, h.ld]
  refine ⟨g, cur, e1, e2, e3, e4, fun j v hv => ?_, fun j v hv => ?_⟩
  · rw [List.getElem?_append] at hv
    split at hv
    · exact e5 j v hv
    · rename_i hj
      have h2 := e6 (j - cd.length) v (by
        rw [show (c0 :: c1 :: c2 :: c3 :: rest) = [c0, c1, c2, c3] ++ rest from rfl, List.getElem?_append_left (List.getElem?_eq_some_iff.1 hv).1]
        exact hv)
      rw [← h2]; congr 1; omega
  · have h2 := e6 (j + 4) v (by exact hv)
    rw [← h2]; congr 1; omega
theorem SpSt.put {x : Nat} {P : Nat → Prop} {W1 : World} {ks : List Tr} {g n i : Nat} {dn td : List Tr} {cd : List Value} {t u : Tr} {c0 c1 c2 c3 d0 d1 d2 d3 : Value} {rest : List Value} {wr w2 : World} (h : SpSt x P W1 ks (some ⟨g, 0, none⟩) n i dn (t :: td) cd (c0 :: c1 :: c2 :: c3 :: rest) wr)
    (hb : Below wr.heap.size wr w2) (hu : TrP x (fun b => P b ∧ some (⟨b, 0, none⟩ : Addr) ≠ some ⟨g, 0, none⟩) w2 u (.agg #[d0, d1, d2, d3])) (hg : u.shape ∧ u.ok ∧ u.size ≤ t.size) :
    SpSt x P W1 ks (some ⟨g, 0, none⟩) n (i + 1) (dn ++ [u]) td (cd ++ [d0, d1, d2, d3]) rest (w2.setCells g (i * 4) [d0, d1, d2, d3]) := by
  obtain ⟨e0, e1, e2, e3, r, e, h0, hs⟩ := h.ht.uncons
  injection e with f1 e; injection e with f2 e; injection e with f3 e; injection e with f4 f5
  subst f1 f2 f3 f4 f5
  have hst := h.st; have hot := h.ot; have hsz := h.sz; have hlt := h.lt
  unfold Tr.shapeAll at hst
  unfold Tr.okAll at hot
  simp only [Tr.sizeAll] at hsz
  simp only [List.length_cons] at hlt
  obtain ⟨g', cur, e1, e2, e3, e4, e5, e6⟩ := h.blk (by omega)
  obtain rfl : g = g' := by injection e1 with e1; injection e1
  have hl : cd.length = i * 4 := by rw [h.hd.length, h.ld]
  have hk2 := e3.below hb
  obtain ⟨cur', hk3, hs3, hv3, ho3⟩ := cells_set [d0, d1, d2, d3] (i * 4) g w2 cur _ hk2 (by simp; omega)
  have hgb := gb_sets_ (g := g) [d0, d1, d2, d3] (i * 4) w2
  have hng : ¬ (fun b => P b ∧ some (⟨b, 0, none⟩ : Addr) ≠ some ⟨g, 0, none⟩) g := fun hh => hh.2 rfl
  refine ⟨by rw [List.length_append]; simp [h.ld], by omega, TrsP.snoc (hu.grown hgb hng) ((h.hd.below hb).grown hgb hng), (hs.below hb).grown hgb hng, Tr.shapeAll_snoc hg.1 h.sd, hst.2, Tr.okAll_snoc hg.2.1 h.od, hot.2, by rw [Tr.sizeAll_snoc]; have := hg.2.2; omega, bl_grown (bl_step hb h.bel) hgb e2, fun _ => ⟨g, cur', rfl, e2, hk3, by omega, fun j v hv => ?_, fun j v hv => ?_⟩⟩
  · rw [List.getElem?_append] at hv
    split at hv
    · rename_i hj
      rw [ho3 j (by omega)]
      exact e5 j v hv
    · rename_i hj
      have h2 := hv3 (j - cd.length) v hv
      rw [← h2]; congr 1; omega
  · rw [ho3 _ (by simp; omega)]
    have h2 := e6 (j + 4) v (by exact hv)
    rw [← h2]; congr 1; omega
set_option maxRecDepth 100000 in
set_option maxHeartbeats 8000000 in
theorem spoil_calls (what v : Int) (s : ByteArray) (hwh : -9223372036854775808 ≤ what ∧ what ≤ 9223372036854775807) (hv : -9223372036854775808 ≤ v ∧ v ≤ 9223372036854775807) (hss : s.size ≤ 9223372036854775807) (B : Nat) (hB : B ≤ 1000000) :
    ∀ (t : Tr), t.size ≤ B → t.shape → t.ok → ∀ (x : Nat) (P : Nat → Prop) (a : Int) (w : World) (vt : Value), 0 ≤ a → a ≤ 1000000 → x ≤ w.heap.size → (∀ b, w.heap.size ≤ b → P b) → TrP x P w t vt →
      Calls Tryd.prog 49 #[vt, .int .i64 a, .int .i64 what, .int .i64 v, .string s] w (GivesS x P w t a) := by
  induction B with
  | zero => intro t h; have := t.size_pos; omega
  | succ B ih =>
    intro t hts hsh hok x P a w vt ha0 ha1 hx hP hT
    have hIH := ih (by omega)
    obtain ⟨A, c, cs, rfl, hrow, htrs⟩ := hT.open_
    obtain ⟨k, s0, n0, ks⟩ := t
    simp only [Tr.kind, Tr.s, Tr.n, Tr.ks] at *
    have hsz : (Tr.mk k s0 n0 ks).size = Tr.sizeAll ks + 1 := by unfold Tr.size; rfl
    have hnode : nodeOk k s0 n0 ∧ Tr.okAll ks := by unfold Tr.ok at hok; exact hok
    have hshp : ks.length = needN k ∧ Tr.shapeAll ks := by unfold Tr.shape at hsh; exact hsh
    obtain ⟨m, hm⟩ : ∃ m, ks.length = m := ⟨_, rfl⟩
    have hlc := htrs.length
    have hml : m ≤ 1000000 := by have := Tr.len_size ks; omega
    rw [hm] at hshp hlc ⊢
    obtain ⟨W1, hW1⟩ : ∃ W1, (w.alloc (.cells #[.int .i64 k, .string s0, .int .i64 n0, .slice A m c] 30)).alloc (.cells #[.int .i64 0, .string ⟨#[]⟩, .int .i64 0, .slice none 0 0] 30) = W1 := ⟨_, rfl⟩
    have hk0 := (Blk.new w #[.int .i64 k, .string s0, .int .i64 n0, .slice A m c] 30).below (bl_alloc (bl_refl _) (.cells #[.int .i64 0, .string ⟨#[]⟩, .int .i64 0, .slice none 0 0] 30))
    have hk1 := Blk_new (w.alloc (.cells #[.int .i64 k, .string s0, .int .i64 n0, .slice A m c] 30)) #[.int .i64 0, .string ⟨#[]⟩, .int .i64 0, .slice none 0 0] 30 (w.heap.size + 1) (by simp)
    have hb1 := bl_alloc (bl_alloc (bl_refl w) (.cells #[.int .i64 k, .string s0, .int .i64 n0, .slice A m c] 30)) (.cells #[.int .i64 0, .string ⟨#[]⟩, .int .i64 0, .slice none 0 0] 30)
    have hs1 : W1.heap.size = w.heap.size + 2 := by rw [← hW1]; simp
    rw [hW1] at hk0 hk1 hb1
    have HW1 := Lib.hid hW1; have HK0 := Lib.hid hk0; have HK1 := Lib.hid hk1; have HB1 := Lib.hid hb1; have HS1 := Lib.hid hs1; have HX := Lib.hid hx; have HPP := Lib.hid hP; have HT := Lib.hid hT; have HROW := Lib.hid hrow; have HTRS := Lib.hid htrs; have HND := Lib.hid hnode; have HSP := Lib.hid hshp; have HSZ := Lib.hid hsz; have HIH := Lib.hid hIH; have HM := Lib.hid hm; have HOK := Lib.hid hok; have HSH := Lib.hid hsh; have HTS := Lib.hid hts; have HLC := Lib.hid hlc
    clear hW1 hk0 hk1 hb1 hs1 hx hP hT hrow htrs hnode hshp hsz hIH ih hm hok hsh hts hlc
    by_cases hz : a = 0
    · subst hz
      obtain ⟨q, hq⟩ : ∃ q : Nat, what % 5 = (q : Int) := ⟨(what % 5).toNat, by have := Int.emod_nonneg what (show (5 : Int) ≠ 0 by omega); omega⟩
      have hq5 : q < 5 := by have := Int.emod_lt_of_pos what (show (0 : Int) < 5 by omega); omega
      have hwi := fun W => within_calls what 5 W hwh (by omega)
      rw [hq] at hwi
      have htx := fun W => text_calls s 20 hss (by omega) W
      have hes : (s.extract 0 (min s.size 20)).size ≤ 1000000 := by rw [ByteArray.size_extract]; omega
      obtain ⟨s2, hs2⟩ : ∃ s2, s.extract 0 (min s.size 20) = s2 := ⟨_, rfl⟩
      rw [hs2] at htx hes
      have HWI := Lib.hid hwi; have HTX := Lib.hid htx
      clear hwi htx hs2 hq hwh
      go_enter Tryd.func49, Tryd.ntmps49
      go_upto_region 1 with fail
      rw [HW1.out]
      go_wp2_with fail
      refine (HWI.out _).mono ?_
      rintro en w2 ⟨rfl, hw⟩
      have hw' := hw.symm
      clear hw
      subst hw'
      obtain ⟨⟨k0, k1, k2, k3⟩, ⟨f0, f1, f2, f3⟩⟩ := HK0.out.four
      go_upto_block 0 with fail
      have hT1 := HT.out.old (bl_refl w) (show w.heap.size ≤ w.heap.size + 1 by omega)
      have HT1 := Lib.hid hT1
      clear hT1
      go_cut [] (fun wx => ∃ (u : Tr) (A2 : Option Addr) (c2 : Nat), Blk wx w.heap.size #[.int .i64 u.kind, .string u.s, .int .i64 u.n, .slice A2 u.ks.length c2] 30 ∧ Blk wx (w.heap.size + 1) #[.int .i64 0, .string ⟨#[]⟩, .int .i64 0, .slice none 0 0] 30 ∧ Below w.heap.size w wx ∧ TrP x (fun b => P b ∧ b ≠ w.heap.size + 1) wx u (.agg #[.int .i64 u.kind, .string u.s, .int .i64 u.n, .slice A2 u.ks.length c2]) ∧ u.shape ∧ u.ok ∧ u.size ≤ Tr.sizeAll ks + 1)
      case first =>
        have hgg : ∀ (W' : World), W1.grownBy W' (some w.heap.size) → Blk W' (w.heap.size + 1) #[.int .i64 0, .string ⟨#[]⟩, .int .i64 0, .slice none 0 0] 30 ∧ Below w.heap.size w W' := fun W' hg => ⟨HK1.out.grown hg (fun e => by injection e with e; omega), bl_grown HB1.out hg (Nat.le_refl _)⟩
        have hleaf : ∀ (W' : World) (k : Int) (n : Int), W1.grownBy W' (some w.heap.size) → 0 ≤ k ∧ k ≤ 20 → needN k = 0 → (-9223372036854775808 ≤ n ∧ n ≤ 9223372036854775807) → Blk W' w.heap.size #[.int .i64 k, .string ⟨#[]⟩, .int .i64 n, .slice none 0 0] 30 → ∃ (u : Tr) (A2 : Option Addr) (c2 : Nat), Blk W' w.heap.size #[.int .i64 u.kind, .string u.s, .int .i64 u.n, .slice A2 u.ks.length c2] 30 ∧ Blk W' (w.heap.size + 1) #[.int .i64 0, .string ⟨#[]⟩, .int .i64 0, .slice none 0 0] 30 ∧ Below w.heap.size w W' ∧ TrP x (fun b => P b ∧ b ≠ w.heap.size + 1) W' u (.agg #[.int .i64 u.kind, .string u.s, .int .i64 u.n, .slice A2 u.ks.length c2]) ∧ u.shape ∧ u.ok ∧ u.size ≤ Tr.sizeAll ks + 1 := fun W' k n hg hk hz hn hb =>
          ⟨.mk k ⟨#[]⟩ n [], none, 0, hb, (hgg W' hg).1, (hgg W' hg).2, TrP.leaf _ _ _ _ _ _ _, by unfold Tr.shape; exact ⟨hz.symm, by unfold Tr.shapeAll; trivial⟩, by unfold Tr.ok; exact ⟨⟨by omega, by decide, hn⟩, by unfold Tr.okAll; trivial⟩, by unfold Tr.size; simp [Tr.sizeAll]⟩
        have hsame : ∀ (W' : World) (s' : ByteArray) (n' : Int), W1.grownBy W' (some w.heap.size) → s'.size ≤ 1000000 → (-9223372036854775808 ≤ n' ∧ n' ≤ 9223372036854775807) → Blk W' w.heap.size #[.int .i64 k, .string s', .int .i64 n', .slice A m c] 30 → ∃ (u : Tr) (A2 : Option Addr) (c2 : Nat), Blk W' w.heap.size #[.int .i64 u.kind, .string u.s, .int .i64 u.n, .slice A2 u.ks.length c2] 30 ∧ Blk W' (w.heap.size + 1) #[.int .i64 0, .string ⟨#[]⟩, .int .i64 0, .slice none 0 0] 30 ∧ Below w.heap.size w W' ∧ TrP x (fun b => P b ∧ b ≠ w.heap.size + 1) W' u (.agg #[.int .i64 u.kind, .string u.s, .int .i64 u.n, .slice A2 u.ks.length c2]) ∧ u.shape ∧ u.ok ∧ u.size ≤ Tr.sizeAll ks + 1 := fun W' s' n' hg hs hn hb => by
          refine ⟨.mk k s' n' ks, A, c, by simp only [Tr.kind, Tr.s, Tr.n, Tr.ks, HM.out]; exact hb, (hgg W' hg).1, (hgg W' hg).2, ?_, by unfold Tr.shape; rw [HM.out]; exact HSP.out, by unfold Tr.ok; exact ⟨⟨HND.out.1.1, hs, hn⟩, HND.out.2⟩, by rw [show (Tr.mk k s' n' ks).size = Tr.sizeAll ks + 1 by unfold Tr.size; rfl]; exact Nat.le_refl _⟩
          have h2 := HT1.out.oldset HB1.out (Nat.le_refl w.heap.size) hg
          obtain ⟨A3, c3, cs3, hag, hr3, ht3⟩ := h2.open_
          simp only [Tr.kind, Tr.s, Tr.n, Tr.ks] at hag hr3 ht3 ⊢
          have hcc : A = A3 ∧ c = c3 := by injection hag with hag; simp at hag; exact hag
          obtain ⟨rfl, rfl⟩ := hcc
          exact TrP.mk_ hr3 ht3
        clear HIH HTRS HROW HT
        obtain rfl | rfl | rfl | rfl | rfl : q = 0 ∨ q = 1 ∨ q = 2 ∨ q = 3 ∨ q = 4 := by omega
        · go_wp2_with fail
          go_meet
          exact hleaf _ 0 0 (gb4 _ _ _ _ _ _) (by omega) (by decide) (by omega) (HK0.out.set4 _ _ _ _)
        · have hq1 := hq5
          go_wp2_with fail
          refine (HTX.out _).mono ?_
          rintro en w3 ⟨rfl, hw⟩
          have hw' := hw.symm
          clear hw
          subst hw'
          go_wp2_with fail
          go_meet
          exact hsame _ s2 n0 (gb_set 1 _) hes HND.out.1.2.2 (HK0.out.set 1 _)
        · go_wp2_with fail
          go_meet
          exact hsame _ s0 v (gb_set 2 _) HND.out.1.2.1 hv (HK0.out.set 2 _)
        · by_cases hk : 11 ≤ k
          · go_wp2_with fail
            go_meet
            exact hleaf _ 1 0 (gb4 _ _ _ _ _ _) (by omega) (by decide) (by omega) (HK0.out.set4 _ _ _ _)
          · go_wp2_with fail
            go_meet
            exact hleaf _ 11 1 (gb4 _ _ _ _ _ _) (by omega) (by decide) (by omega) (HK0.out.set4 _ _ _ _)
        · go_wp2_with fail
          go_meet
          exact hsame _ s0 n0 (gb_refl _ _) HND.out.1.2.1 HND.out.1.2.2 HK0.out
      obtain ⟨u, A2, c2, hk0, hk1, hbx, hTx, hux⟩ := hcut
      rename World => wx
      have hl1 := hk1.lt
      clear k0 k1 k2 k3 f0 f1 f2 f3
      obtain ⟨⟨k0, k1, k2, k3⟩, -⟩ := hk0.four
      obtain ⟨⟨m0, m1, m2, m3⟩, ⟨x0, x1, x2, x3⟩⟩ := hk1.four
      have HK := Lib.hid hk1; have HTX2 := Lib.hid hTx; have HBX := Lib.hid hbx; have HUX := Lib.hid hux
      clear hk0 hk1 hTx hbx hux HIH HTRS HROW HT HT1 HK0 HK1
      go_wp2_with fail
      (try simp only [Exit.inBlock, Exit.then])
      refine bodyPost_ret (results_T2 rfl _ _ (w.heap.size + 1) _ _ _ _ _ _ rfl rfl (HK.out.set4 _ _ _ _)) rfl ?_
      exact ⟨u, _, -1, rfl, (HTX2.out.grown (gb4 _ _ _ _ _ _) (fun hh => hh.2 rfl)).mono (fun _ hh => hh.1), ⟨HUX.out.1, HUX.out.2.1, by rw [HSZ.out]; exact HUX.out.2.2⟩, by omega, bl_grown HBX.out (gb4 _ _ _ _ _ _) (by omega)⟩
    · have hap : 1 ≤ a := by omega
      have hwrp : IntKind.i64.wrap (a - 1) = a - 1 := IntWalk.i64_in _ (by omega)
      have hab : (a == 0) = false := by simp; omega
      have hrd := (HROW.out.below HB1.out).rd
      have hone := HTRS.out.one
      have HRD := Lib.hid hrd; have HONE := Lib.hid hone
      clear hrd hone
      obtain ⟨⟨k0, k1, k2, k3⟩, -⟩ := HK0.out.four
      go_enter Tryd.func49, Tryd.ntmps49
      go_upto_region 1 with fail
      rw [HW1.out]
      go_upto_region 16 with (at_builtin; refine append_any (w0 := W1) rfl _ _ 28 30 _ 4 56 rfl Tryd.underlying28 info_t4 rfl (by decide) _ 0 [] A m c cs (Own.nil _ _ _ _) (bl_refl _) HRD.out rfl rfl HLC.out HONE.out (by omega) (by omega) ?_; intro v1 w3 HO1 HBA HGA)
      rw [Nat.zero_add, List.nil_append] at HO1
      obtain ⟨A1, c1, rfl, hA1, hA2⟩ : ∃ A1 c1, v1 = .slice A1 m c1 ∧ (0 < m → ∃ g cur, A1 = some ⟨g, 0, none⟩ ∧ W1.heap.size ≤ g ∧ Blk w3 g cur 30 ∧ m * 4 ≤ cur.size ∧ ∀ (j : Nat) (v : Value), cs[j]? = some v → cur[j]? = some v) ∧ (A1 = none ∨ ∃ g, A1 = some ⟨g, 0, none⟩ ∧ W1.heap.size ≤ g) := by
        rcases HO1.2 with ⟨rfl, h0⟩ | ⟨g, cap, cur, rfl, hb, hh, hle, _, hsz, hxs⟩
        · have hm0 : m = 0 := h0
          subst hm0
          exact ⟨none, 0, rfl, fun h => by omega, .inl rfl⟩
        · have hx : ∀ (j : Nat) (u : Value), cs[j]? = some u → cur[j]? = some u := fun j u hu => by
            rw [← hxs, List.getElem?_take] at hu
            split at hu
            · simpa using hu
            · cases hu
          have hcz : m * 4 ≤ cur.size := by
            have h1 := congrArg List.length hxs
            rw [List.length_take, HLC.out] at h1
            simp at h1
            omega
          exact ⟨_, cap, rfl, fun _ => ⟨g, cur, rfl, hb, hh, hcz, hx⟩, .inr ⟨g, rfl, hb⟩⟩
      have hbw3 := bl_step HBA HB1.out
      have hg1 := HK0.out.lt
      have hS0 : SpSt x (fun b => P b ∧ b ≠ w.heap.size ∧ b ≠ w.heap.size + 1) W1 ks A1 m 0 [] ks [] cs w3 := by
        have h1 : TrsP x (fun b => P b ∧ b ≠ w.heap.size ∧ b ≠ w.heap.size + 1) w ks cs := ((HTRS.out.old (bl_refl w) (Nat.le_refl _)).old (bl_refl w) (show w.heap.size ≤ w.heap.size + 1 by omega)).mono (fun b hh => ⟨hh.1.1, hh.1.2, hh.2⟩)
        refine ⟨rfl, by rw [Nat.zero_add]; exact HM.out, TrsP.nil _ _ _, ?_, by unfold Tr.shapeAll; trivial, HSP.out.2, by unfold Tr.okAll; trivial, HND.out.2, by simp [Tr.sizeAll], HBA, fun h => ?_⟩
        · rcases hA2 with rfl | ⟨g, rfl, hg⟩
          · exact (h1.below hbw3).mono (fun b hh => ⟨hh, by simp⟩)
          · exact (h1.old hbw3 (show w.heap.size ≤ g by omega)).mono (fun b hh => ⟨hh.1, by intro e; injection e with e; injection e with e; exact hh.2 e⟩)
        · obtain ⟨g, cur, e1, e2, e3, e4, e5⟩ := hA1 h
          exact ⟨g, cur, e1, e2, e3, e4, fun j v hv => by simp at hv, fun j v hv => by rw [Nat.zero_mul, Nat.zero_add]; exact e5 j v hv⟩
      have HS0 := Lib.hid hS0; have HA2 := Lib.hid hA2
      clear hS0 hA1 hA2 HO1 hbw3 HGA HBA HROW HTRS HRD HONE k0 k1 k2 k3
      go_wp2_with fail
      go_loopw [1, 45] (fun av iv wr => ∃ (i : Nat) (b : Int) (dn td : List Tr) (cd ct : List Value), i ≤ m ∧ iv = .int .i64 i ∧ av = .int .i64 b ∧ (-1 ≤ b ∧ b ≤ a - 1) ∧ SpSt x (fun b => P b ∧ b ≠ w.heap.size ∧ b ≠ w.heap.size + 1) W1 ks A1 m i dn td cd ct wr) (fun _ iv _ => m - (intOf iv).toNat)
      case atStart => exact ⟨0, a - 1, [], ks, [], cs, Nat.zero_le _, rfl, rfl, by omega, HS0.out⟩
      case round =>
        clear HS0
        obtain ⟨i, b, dn, td, cd, ct, hi, rfl, rfl, hb, hS⟩ := hrel
        by_cases hlt : i < m
        · have hlt2 := hS.lt
          cases td with
          | nil => simp at hlt2; omega
          | cons t1 td =>
            obtain ⟨d0, d1, d2, d3, rest, rfl, h0, -⟩ := hS.ht.uncons
            have hi0 : (0 : Int) ≤ (i : Int) := by omega
            have hi1 : (i : Int) < (m : Int) := by omega
            by_cases hb0 : 0 ≤ b
            · obtain ⟨g, cur, rfl, hg, hkg, hcz, -, hct⟩ := hS.blk (by omega)
              have hcell : ∀ j (u : Value), [d0, d1, d2, d3][j]? = some u → wr.cell? ⟨g, i * 4 + j, none⟩ = some u := fun j u hu => by
                have hj : j < 4 := by have := (List.getElem?_eq_some_iff.1 hu).1; simpa using this
                have h2 := hct j u (by
                  rw [show (d0 :: d1 :: d2 :: d3 :: rest) = [d0, d1, d2, d3] ++ rest from rfl, List.getElem?_append_left (by simpa using hj)]
                  exact hu)
                rw [hkg.cell]
                exact h2
              have e0 : wr.cell? ⟨g, i * 4, none⟩ = some d0 := hcell 0 _ rfl
              have e1 : wr.cell? ⟨g, i * 4 + 1, none⟩ = some d1 := hcell 1 _ rfl
              have e2 : wr.cell? ⟨g, i * 4 + 2, none⟩ = some d2 := hcell 2 _ rfl
              have e3 : wr.cell? ⟨g, i * 4 + 3, none⟩ = some d3 := hcell 3 _ rfl
              have hst := hS.st; have hot := hS.ot; have hsz2 := hS.sz
              unfold Tr.shapeAll at hst
              unfold Tr.okAll at hot
              simp only [Tr.sizeAll] at hsz2
              have hgl := hkg.lt
              have hwl := hS.bel.size
              have hcall := HIH.out t1 (by have := HTS.out; rw [HSZ.out] at this; omega) hst.1 hot.1 x (fun b => (P b ∧ b ≠ w.heap.size ∧ b ≠ w.heap.size + 1) ∧ some (⟨b, 0, none⟩ : Addr) ≠ some ⟨g, 0, none⟩) b wr _ hb0 (by omega) (by have := HX.out; have := HB1.out.size; omega) (fun q hq => ⟨⟨HPP.out q (by have := HB1.out.size; omega), by have := HS1.out; omega, by have := HS1.out; omega⟩, by intro e; injection e with e; injection e with e; omega⟩) h0
              have hthere := hkg.thereT (o := i * 4) (n := 4) (by omega)
              have HCA := Lib.hid hcall; have HS := Lib.hid hS; have HKG := Lib.hid hkg; have HCZ := Lib.hid hcz
              clear hcell hst hot hsz2 hcall hS hkg hct hlt2 h0 hthere
              go_wp2_with fail
              refine HCA.out.mono ?_
              rintro en w5 ⟨u, vu, b2, rfl, hU, hug, hbb, hb5⟩
              obtain ⟨A5, c5, cs5, rfl, -, -⟩ := hU.open_
              have hth5 := (HKG.out.below hb5).thereT (o := i * 4) (n := 4) (by have := HCZ.out; omega)
              have HTH := Lib.hid hth5; have HU := Lib.hid hU; have HUG := Lib.hid hug; have HB5 := Lib.hid hb5
              clear hth5 hU hug hb5 HCA e0 e1 e2 e3
              go_wp2_with (refine wpList_store_mid rfl 30 _ _ rfl g (i * 4) ?cells ?hx ?hy ?ht ?hi ?h1 ?h)
              case hx => rfl
              case hy => rfl
              case ht => exact HTH.out
              case hi => exact size_t4s
              case h1 => simp [Value.oneCell']
              go_roundw
              case rel => exact ⟨i + 1, b2, _, _, _, _, by omega, by go_num, rfl, by omega, HS.out.put HB5.out HU.out HUG.out⟩
              case measure => simp [intOf]; omega
            · have hb1 : ¬ (0 ≤ b) := hb0
              have HS := Lib.hid hS
              clear hS
              go_wp2_with fail
              go_roundw
              case rel => exact ⟨i + 1, b, _, _, _, _, by omega, by go_num, rfl, by omega, HS.out.skip⟩
              case measure => simp [intOf]; omega
        · obtain rfl : i = m := by omega
          obtain rfl : td = [] := by have := hS.lt; exact List.eq_nil_of_length_eq_zero (by omega)
          have hk0 := HK0.out.below hS.bel
          have hk1 := HK1.out.below hS.bel
          obtain ⟨⟨k0, k1, k2, k3⟩, ⟨f0, f1, f2, f3⟩⟩ := hk0.four
          obtain ⟨⟨m0, m1, m2, m3⟩, ⟨x0, x1, x2, x3⟩⟩ := hk1.four
          have hl1 := hk1.lt
          have hk4 := hk0.set 3 (.slice A1 dn.length c1)
          have hgs := gb_set (w := wr) (g := w.heap.size) 3 (.slice A1 dn.length c1)
          have HS := Lib.hid hS; have HK := Lib.hid (hk1.grown hgs (fun e => by injection e with e; omega)); have HG := Lib.hid hgs
          have hld := hS.ld
          subst hld
          clear hS hk0 hk1 hk4 hgs
          go_wp2_with fail
          (try simp only [Exit.inBlock, Exit.then])
          refine bodyPost_ret (results_T2 rfl _ _ (w.heap.size + 1) _ _ _ _ _ _ rfl rfl (HK.out.set4 _ _ _ _)) rfl ?_
          have hn0 : ¬ ((fun b => P b ∧ b ≠ w.heap.size ∧ b ≠ w.heap.size + 1) w.heap.size) := fun hh => hh.2.1 rfl
          have hn1 : ¬ ((fun b => P b ∧ b ≠ w.heap.size ∧ b ≠ w.heap.size + 1) (w.heap.size + 1)) := fun hh => hh.2.2 rfl
          have hkid := ((((HS.out.hd).mono (fun b hh => hh.1)).grown HG.out hn0).grown (gb4 _ (w.heap.size + 1) (.int .i64 k) (.string s0) (.int .i64 n0) (.slice A1 dn.length c1)) hn1).mono (P' := P) (fun b hh => hh.1)
          have hsz0 := HS.out.sz
          simp only [Tr.sizeAll] at hsz0
          have hbz := bl_grown (bl_grown (bl_step HS.out.bel HB1.out) HG.out (Nat.le_refl _)) (gb4 _ (w.heap.size + 1) (.int .i64 k) (.string s0) (.int .i64 n0) (.slice A1 dn.length c1)) (by omega)
          refine ⟨.mk k s0 n0 dn, _, b, rfl, TrP.mk_ ?_ hkid, ⟨by unfold Tr.shape; exact ⟨HSP.out.1, HS.out.sd⟩, by unfold Tr.ok; exact ⟨HND.out.1, HS.out.od⟩, by rw [HSZ.out, show (Tr.mk k s0 n0 dn).size = Tr.sizeAll dn + 1 by unfold Tr.size; rfl]; omega⟩, by omega, hbz⟩
          by_cases hm0 : 0 < dn.length
          · obtain ⟨g, cur, rfl, hg, hkg, hcz, hcd, -⟩ := HS.out.blk hm0
            have hs1 := HS1.out
            have hk9 := (hkg.grown HG.out (fun e => by injection e with e; omega)).grown (gb4 _ (w.heap.size + 1) (.int .i64 k) (.string s0) (.int .i64 n0) (.slice (some ⟨g, 0, none⟩) dn.length c1)) (fun e => by injection e with e; omega)
            exact .inr ⟨g, rfl, by have := HX.out; omega, fun _ => HPP.out g (by omega), fun j u hu => by rw [hk9.cell]; exact hcd j u hu⟩
          · have hcd : cd = [] := List.eq_nil_of_length_eq_zero (by rw [HS.out.hd.length]; omega)
            subst hcd
            rcases HA2.out with rfl | ⟨g, rfl, hg⟩
            · exact .inl ⟨rfl, rfl⟩
            · exact .inr ⟨g, rfl, by have := HX.out; have := HS1.out; omega, fun h => absurd rfl h, fun j u hu => by simp at hu⟩
end Go.Proofs.YtapbkomicihkkaaDoor
