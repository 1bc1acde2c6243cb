/- Whether an event may be; whether two are alike. -/
import Derived.Test.YtnekcijganhknaaGreatDoorEvent1
import Derived.Carry
namespace Go.Proofs.YtnekcijganhknaaGreatDoor
open Go.RowKit
set_option linter.unusedVariables false
set_option linter.unusedSimpArgs false

/-- The four texts of an event, as the program's table has them. -/
def Ev.tab (e : Ev) : Array MapEntry := #[⟨.string ⟨#[73]⟩, .string e.id, 0⟩, ⟨.string ⟨#[78]⟩, .string e.name, 1⟩, ⟨.string ⟨#[76]⟩, .string e.label, 2⟩, ⟨.string ⟨#[67]⟩, .string e.cur, 3⟩]
def Ev.texts (e : Ev) : List (UInt8 × ByteArray) := [(73, e.id), (78, e.name), (76, e.label), (67, e.cur)]
theorem Ev.tab_mem (e : Ev) {x : MapEntry} (h : x ∈ e.tab.toList) : ∃ c s, x.key = .string ⟨#[c]⟩ ∧ x.val = .string s ∧ (c, s) ∈ e.texts := by
  simp only [Ev.tab, List.mem_cons, List.not_mem_nil, or_false] at h
  rcases h with rfl | rfl | rfl | rfl
  · exact ⟨_, _, rfl, rfl, by simp [Ev.texts]⟩
  · exact ⟨_, _, rfl, rfl, by simp [Ev.texts]⟩
  · exact ⟨_, _, rfl, rfl, by simp [Ev.texts]⟩
  · exact ⟨_, _, rfl, rfl, by simp [Ev.texts]⟩
theorem Ev.tab_all (e : Ev) (p : UInt8 → ByteArray → Prop) (h : ∀ x ∈ e.tab.toList, ∀ c s, x.key = .string ⟨#[c]⟩ → x.val = .string s → p c s) : ∀ c s, (c, s) ∈ e.texts → p c s := by
  intro c s hm
  simp only [Ev.texts, List.mem_cons, List.not_mem_nil, or_false, Prod.mk.injEq] at hm
  rcases hm with ⟨rfl, rfl⟩ | ⟨rfl, rfl⟩ | ⟨rfl, rfl⟩ | ⟨rfl, rfl⟩
  · exact h _ (by simp [Ev.tab]; exact .inl rfl) _ _ rfl rfl
  · exact h _ (by simp [Ev.tab]; exact .inr (.inl rfl)) _ _ rfl rfl
  · exact h _ (by simp [Ev.tab]; exact .inr (.inr (.inl rfl))) _ _ rfl rfl
  · exact h _ (by simp [Ev.tab]; exact .inr (.inr (.inr rfl))) _ _ rfl rfl
theorem Ev.tab_born (e : Ev) : ∀ x ∈ e.tab.toList, x.born < 4 := by
  intro x h
  simp only [Ev.tab, List.mem_cons, List.not_mem_nil, or_false] at h
  rcases h with rfl | rfl | rfl | rfl <;> simp
theorem Ev.tab_nodup (e : Ev) : (e.tab.toList.map (·.born)).Nodup := by
  show [0, 1, 2, 3].Nodup
  decide
/-- The map literal, key by key. -/
theorem tab_ins (W : World) (g : Nat) (hg : g = W.heap.size) (es : Array MapEntry) (clock : Nat) (key : ByteArray) (v : Value) (hf : Instr.findNow .string (.string key) es.toList 0 = some none) :
    (Instr.mapUpdate 234 (.map (some g)) (.string key) v).run Tryz.prog (W.alloc (.map es clock)) = .ok () (W.alloc (.map (es.push ⟨.string key, v, clock⟩) (clock + 1))) := by
  subst hg
  exact ins_alloc W _ _ _ Tryz.underlying234 Tryz.underlying9 es clock key v hf
/-- What the loop over the four texts holds. -/
structure TabSt (e : Ev) (w : World) (p : UInt8 → ByteArray → Prop) (seen : Array Nat) (wr : World) : Prop where
  it : wr.heap[w.heap.size + 2]? = some (.mapIter (some (w.heap.size + 1)) 4 seen 4)
  mp : wr.heap[w.heap.size + 1]? = some (.map e.tab 4)
  ev : Blk wr w.heap.size e.cells 40
  bel : Below w.heap.size w wr
  all : ∀ x ∈ e.tab.toList, seen.contains x.born = true → ∀ c s, x.key = .string ⟨#[c]⟩ → x.val = .string s → p c s
theorem TabSt.step {e : Ev} {w : World} {p : UInt8 → ByteArray → Prop} {seen : Array Nat} {wr w1 : World} (h : TabSt e w p seen wr) {x : MapEntry} (hx : x ∈ e.tab.toList) (hp : ∀ c s, x.key = .string ⟨#[c]⟩ → x.val = .string s → p c s)
    (hs : Stepped (w.heap.size + 2) (.mapIter (some (w.heap.size + 1)) 4 (seen.push x.born) 4) wr w1) : TabSt e w p (seen.push x.born) w1 := by
  have hlt : w.heap.size + 2 < wr.heap.size := (Array.getElem?_eq_some_iff.1 h.it).1
  refine ⟨hs.at_ hlt, (hs.far (by omega)).trans h.mp, (hs.far (by omega)).trans h.ev, hs.below (by omega) h.bel, ?_⟩
  intro y hy hc c s hk hv
  rw [contains_push] at hc
  rcases Bool.or_eq_true _ _ ▸ hc with h1 | h1
  · exact h.all y hy h1 c s hk hv
  · have : y = x := born_inj e.tab_nodup hy hx (beq_iff_eq.1 h1)
    subst this
    exact hp c s hk hv
theorem TabSt.after {e : Ev} {w : World} {p : UInt8 → ByteArray → Prop} {seen : Array Nat} {wr w1 : World} (h : TabSt e w p seen wr) (hb : Below wr.heap.size wr w1) : TabSt e w p seen w1 :=
  ⟨(hb.block _ (Array.getElem?_eq_some_iff.1 h.it).1).trans h.it, (hb.block _ (Array.getElem?_eq_some_iff.1 h.mp).1).trans h.mp, h.ev.below hb, bl_step hb h.bel, h.all⟩
theorem TabSt.facts {e : Ev} {w : World} {p : UInt8 → ByteArray → Prop} {seen : Array Nat} {wr : World} (h : TabSt e w p seen wr) :
    wr.cell? ⟨w.heap.size, 0, none⟩ = some (.int .i64 e.kind) ∧ wr.cell? ⟨w.heap.size, 5, none⟩ = some (.int .i64 e.day) ∧ wr.cell? ⟨w.heap.size, 6, none⟩ = some (.int .i64 e.value) ∧ wr.cell? ⟨w.heap.size, 7, none⟩ = some e.term.val :=
  ⟨h.ev.cell 0, h.ev.cell 5, h.ev.cell 6, h.ev.cell 7⟩
def Ev.onlyT (e : Ev) : Bool := e.texts.all fun x => x.2.toList.isEmpty || hasB e.kind x.1
def Ev.onlyR (e : Ev) : Bool := (e.day == 0 || hasB e.kind 68) && ((e.value == 0 || hasB e.kind 86) && (e.term.isNil || hasB e.kind 84))
def Ev.only (e : Ev) : Bool := e.onlyT && e.onlyR
theorem Ev.onlyT_true (e : Ev) (h : ∀ c s, (c, s) ∈ e.texts → s.toList = [] ∨ hasB e.kind c = true) : e.onlyT = true := by
  unfold Ev.onlyT
  rw [List.all_eq_true]
  rintro ⟨c, s⟩ hm
  rcases h c s hm with h | h <;> simp [h]
theorem Ev.onlyT_false (e : Ev) {c : UInt8} {s : ByteArray} (hm : (c, s) ∈ e.texts) (h1 : s.toList ≠ []) (h2 : hasB e.kind c = false) : e.onlyT = false := by
  unfold Ev.onlyT
  rw [List.all_eq_false]
  refine ⟨(c, s), hm, ?_⟩
  simp [h1, h2]
set_option maxRecDepth 100000 in
set_option maxHeartbeats 4000000 in
theorem only_calls (e : Ev) (hok : e.ok) (w : World) :
    Calls Tryz.prog 99 #[e.val] w fun en w' => en = .returned (.bool e.only) ∧ Below w.heap.size w w' := by
  obtain ⟨p, hp⟩ : ∃ p : UInt8 → ByteArray → Prop, p = fun c s => s.toList = [] ∨ hasB e.kind c = true := ⟨_, rfl⟩
  have HP := Lib.hid hp
  have HO : Hid (e.only = (e.onlyT && e.onlyR)) := rfl
  have HR : Hid (e.onlyR = ((e.day == 0 || hasB e.kind 68) && ((e.value == 0 || hasB e.kind 86) && (e.term.isNil || hasB e.kind 84)))) := rfl
  have hng := nil_guard e.term hok.term
  have hne := nil_eql e.term hok.term
  clear hp
  have hmm := @run_makeMap Tryz.prog
  have hrg : (Instr.range 234 (.map (some (w.heap.size + 1)))).run Tryz.prog ((w.alloc (.cells e.cells 40)).alloc (.map e.tab 4)) = .ok (.pointer (some ⟨w.heap.size + 2, 0, none⟩)) (((w.alloc (.cells e.cells 40)).alloc (.map e.tab 4)).alloc (.mapIter (some (w.heap.size + 1)) 4 #[] 4)) := by
    have h := run_range_map (P := Tryz.prog) ((w.alloc (.cells e.cells 40)).alloc (.map e.tab 4)) 234 _ _ (w.heap.size + 1) e.tab 4 Tryz.underlying234 (by
      have := heap_alloc_last (w.alloc (.cells e.cells 40)) (.map e.tab 4)
      simpa using this)
    rw [h]
    simp
  have hst0 : TabSt e w p #[] (((w.alloc (.cells e.cells 40)).alloc (.map e.tab 4)).alloc (.mapIter (some (w.heap.size + 1)) 4 #[] 4)) := by
    refine ⟨?_, ?_, ?_, bl_alloc (bl_alloc (bl_alloc (bl_refl w) _) _) _, fun x _ h => by simp at h⟩
    · have := heap_alloc_last ((w.alloc (.cells e.cells 40)).alloc (.map e.tab 4)) (.mapIter (some (w.heap.size + 1)) 4 #[] 4)
      simpa using this
    · rw [heap_alloc_old _ _ (by simp)]
      have := heap_alloc_last (w.alloc (.cells e.cells 40)) (.map e.tab 4)
      simpa using this
    · exact ((Blk.new w e.cells _).below (bl_alloc (bl_refl _) _)).below (bl_alloc (bl_refl _) _)
  have HST0 := Lib.hid hst0
  clear hst0
  have hcc := e.term.cells_ hok.term
  have ho7 := e.term.one_ hok.term
  have hi0 := fun s : ByteArray => tab_ins (w.alloc (.cells e.cells 40)) (w.heap.size + 1) (by simp) #[] 0 ⟨#[73]⟩ (.string s) rfl
  have hi1 := fun s t : ByteArray => tab_ins (w.alloc (.cells e.cells 40)) (w.heap.size + 1) (by simp) #[⟨.string ⟨#[73]⟩, .string t, 0⟩] 1 ⟨#[78]⟩ (.string s) (by rfl)
  have hi2 := fun s t u : ByteArray => tab_ins (w.alloc (.cells e.cells 40)) (w.heap.size + 1) (by simp) #[⟨.string ⟨#[73]⟩, .string t, 0⟩, ⟨.string ⟨#[78]⟩, .string u, 1⟩] 2 ⟨#[76]⟩ (.string s) (by rfl)
  have hi3 := fun s t u v : ByteArray => tab_ins (w.alloc (.cells e.cells 40)) (w.heap.size + 1) (by simp) #[⟨.string ⟨#[73]⟩, .string t, 0⟩, ⟨.string ⟨#[78]⟩, .string u, 1⟩, ⟨.string ⟨#[76]⟩, .string v, 2⟩] 3 ⟨#[67]⟩ (.string s) (by rfl)
  unfold Ev.val Ev.cells Ev.tab at *
  go_enter Tryz.func99, Tryz.ntmps99
  go_wp2_with fail
  clear hi0 hi1 hi2 hi3 hrg hmm
  go_loopw [] (fun wr => ∃ seen, TabSt e w p seen wr) (fun wr => leftN e.tab (w.heap.size + 2) wr)
  case atStart => exact ⟨_, HST0.out⟩
  case round =>
    clear HST0
    obtain ⟨seen, hS⟩ := hrel
    obtain ⟨f0, f5, f6, f7⟩ := hS.facts
    have law := next_map_at (P := Tryz.prog) wr 0 (w.heap.size + 2) (w.heap.size + 1) 4 4 seen e.tab 4 hS.it hS.mp e.tab_born (Nat.le_refl _)
    have HS := Lib.hid hS
    rcases law with ⟨h0, hrun⟩ | ⟨x, hx, w1, hst, hrun⟩
    · have hnx : ∀ ty, (Instr.next (.pointer (some ⟨w.heap.size + 2, 0, none⟩)) false ty).run Tryz.prog wr = _ := fun _ => hrun
      have HB := Lib.hid hS.bel
      have hT : e.onlyT = true := e.onlyT_true (e.tab_all _ (fun x hx c s hk hv => by have := hS.all x hx (seen_all h0 x hx) c s hk hv; rw [HP.out] at this; exact this))
      have HT := Lib.hid hT
      clear hT hS hrun h0
      go_wp2_with (first | (go_at_call_of 126 (Value.string ⟨#[68]⟩); refine (has_calls _ _ _).mono ?_; rintro en w5 ⟨rfl, rfl⟩) | (go_at_call 126; refine (has_calls _ _ _).mono ?_; rintro en w5 ⟨rfl, rfl⟩))
      all_goals go_ret
      all_goals
        refine ⟨ret_bool ?_, HB.out⟩
        rw [HO.out, HT.out, HR.out]
        simp [*]
    · have hxm := (mem_left hx).1
      obtain ⟨c, s, hk, hv, hm⟩ := e.tab_mem hxm
      have hent := entry_map_at (P := Tryz.prog) w1 (w.heap.size + 2) (w.heap.size + 1) 4 4 seen e.tab x (hst.at_ (Array.getElem?_eq_some_iff.1 hS.it).1) ((hst.far (by omega)).trans hS.mp) hxm e.tab_nodup
      have hshr := left_shrinks e.tab seen x hx
      have hS1 : (s.toList = [] ∨ hasB e.kind c = true) → TabSt e w p (seen.push x.born) w1 := fun h => hS.step hxm (fun c' s' hk' hv' => by
        rw [hk] at hk'; rw [hv] at hv'; cases hk'; cases hv'; rw [HP.out]; exact h) hst
      have HS1 := Lib.hid hS1
      have HSH := Lib.hid hshr
      have HLN := Lib.hid (leftN_at (es := e.tab) hS.it)
      have f0' : w1.cell? ⟨w.heap.size, 0, none⟩ = some (.int .i64 e.kind) := (hst.cell (by simp)).trans f0
      rw [hk, hv] at hrun hent
      have hnx : ∀ ty, (Instr.next (.pointer (some ⟨w.heap.size + 2, 0, none⟩)) false ty).run Tryz.prog wr = _ := fun _ => hrun
      have hbel : Below w.heap.size w w1 := hst.below (by omega) hS.bel
      have HM := Lib.hid hm
      have HBW := Lib.hid hbel
      clear hrun hS hS1 hst hshr hm hxm hbel hk hv f5 f6 f7 hx
      by_cases hs : s.toList = []
      · have hs1 : (s.toList == []) = true := by simp [hs]
        have hs2 : s.toList.isEmpty = true := by simp [hs]
        go_wp2_with (go_at_call 126; refine (has_calls _ _ _).mono ?_; rintro en w5 ⟨rfl, rfl⟩)
        have hS2 := HS1.out (.inl hs)
        exact ⟨⟨_, hS2⟩, by rw [HLN.out, leftN_at hS2.it]; exact HSH.out⟩
      · have hs1 : (s.toList == []) = false := by simp [hs]
        have hs2 : s.toList.isEmpty = false := by simp [hs]
        cases hh : hasB e.kind c with
        | true =>
          go_wp2_with (go_at_call 126; refine (has_calls _ _ _).mono ?_; rintro en w5 ⟨rfl, rfl⟩)
          have hS2 := HS1.out (.inr hh)
          exact ⟨⟨_, hS2⟩, by rw [HLN.out, leftN_at hS2.it]; exact HSH.out⟩
        | false =>
          go_wp2_with (go_at_call 126; refine (has_calls _ _ _).mono ?_; rintro en w5 ⟨rfl, rfl⟩)
          go_ret
          exact ⟨ret_bool (by rw [HO.out, e.onlyT_false HM.out hs hh]; rfl), HBW.out⟩

def Ev.named (e : Ev) : Bool := e.texts.all fun x => !hasB e.kind x.1 || nameB x.2
theorem Ev.named_true (e : Ev) (h : ∀ c s, (c, s) ∈ e.texts → hasB e.kind c = false ∨ nameB s = true) : e.named = true := by
  unfold Ev.named
  rw [List.all_eq_true]
  rintro ⟨c, s⟩ hm
  rcases h c s hm with h | h <;> simp [h]
theorem Ev.named_false (e : Ev) {c : UInt8} {s : ByteArray} (hm : (c, s) ∈ e.texts) (h1 : hasB e.kind c = true) (h2 : nameB s = false) : e.named = false := by
  unfold Ev.named
  rw [List.all_eq_false]
  refine ⟨(c, s), hm, ?_⟩
  simp [h1, h2]
set_option maxRecDepth 100000 in
set_option maxHeartbeats 4000000 in
theorem named_calls (e : Ev) (hok : e.ok) (w : World) :
    Calls Tryz.prog 100 #[e.val] w fun en w' => en = .returned (.bool e.named) ∧ Below w.heap.size w w' := by
  obtain ⟨p, hp⟩ : ∃ p : UInt8 → ByteArray → Prop, p = fun c s => hasB e.kind c = false ∨ nameB s = true := ⟨_, rfl⟩
  have HP := Lib.hid hp
  clear hp
  have hmm := @run_makeMap Tryz.prog
  have hrg : (Instr.range 234 (.map (some (w.heap.size + 1)))).run Tryz.prog ((w.alloc (.cells e.cells 40)).alloc (.map e.tab 4)) = .ok (.pointer (some ⟨w.heap.size + 2, 0, none⟩)) (((w.alloc (.cells e.cells 40)).alloc (.map e.tab 4)).alloc (.mapIter (some (w.heap.size + 1)) 4 #[] 4)) := by
    have h := run_range_map (P := Tryz.prog) ((w.alloc (.cells e.cells 40)).alloc (.map e.tab 4)) 234 _ _ (w.heap.size + 1) e.tab 4 Tryz.underlying234 (by
      have := heap_alloc_last (w.alloc (.cells e.cells 40)) (.map e.tab 4)
      simpa using this)
    rw [h]
    simp
  have hst0 : TabSt e w p #[] (((w.alloc (.cells e.cells 40)).alloc (.map e.tab 4)).alloc (.mapIter (some (w.heap.size + 1)) 4 #[] 4)) := by
    refine ⟨?_, ?_, ?_, bl_alloc (bl_alloc (bl_alloc (bl_refl w) _) _) _, fun x _ h => by simp at h⟩
    · have := heap_alloc_last ((w.alloc (.cells e.cells 40)).alloc (.map e.tab 4)) (.mapIter (some (w.heap.size + 1)) 4 #[] 4)
      simpa using this
    · rw [heap_alloc_old _ _ (by simp)]
      have := heap_alloc_last (w.alloc (.cells e.cells 40)) (.map e.tab 4)
      simpa using this
    · exact ((Blk.new w e.cells _).below (bl_alloc (bl_refl _) _)).below (bl_alloc (bl_refl _) _)
  have HST0 := Lib.hid hst0
  clear hst0
  have hcc := e.term.cells_ hok.term
  have ho7 := e.term.one_ hok.term
  have hi0 := fun s : ByteArray => tab_ins (w.alloc (.cells e.cells 40)) (w.heap.size + 1) (by simp) #[] 0 ⟨#[73]⟩ (.string s) rfl
  have hi1 := fun s t : ByteArray => tab_ins (w.alloc (.cells e.cells 40)) (w.heap.size + 1) (by simp) #[⟨.string ⟨#[73]⟩, .string t, 0⟩] 1 ⟨#[78]⟩ (.string s) (by rfl)
  have hi2 := fun s t u : ByteArray => tab_ins (w.alloc (.cells e.cells 40)) (w.heap.size + 1) (by simp) #[⟨.string ⟨#[73]⟩, .string t, 0⟩, ⟨.string ⟨#[78]⟩, .string u, 1⟩] 2 ⟨#[76]⟩ (.string s) (by rfl)
  have hi3 := fun s t u v : ByteArray => tab_ins (w.alloc (.cells e.cells 40)) (w.heap.size + 1) (by simp) #[⟨.string ⟨#[73]⟩, .string t, 0⟩, ⟨.string ⟨#[78]⟩, .string u, 1⟩, ⟨.string ⟨#[76]⟩, .string v, 2⟩] 3 ⟨#[67]⟩ (.string s) (by rfl)
  unfold Ev.val Ev.cells Ev.tab at *
  go_enter Tryz.func100, Tryz.ntmps100
  go_wp2_with fail
  clear hi0 hi1 hi2 hi3 hrg hmm
  go_loopw [] (fun wr => ∃ seen, TabSt e w p seen wr) (fun wr => leftN e.tab (w.heap.size + 2) wr)
  case atStart => exact ⟨_, HST0.out⟩
  case round =>
    clear HST0
    obtain ⟨seen, hS⟩ := hrel
    obtain ⟨f0, f5, f6, f7⟩ := hS.facts
    have law := next_map_at (P := Tryz.prog) wr 0 (w.heap.size + 2) (w.heap.size + 1) 4 4 seen e.tab 4 hS.it hS.mp e.tab_born (Nat.le_refl _)
    rcases law with ⟨h0, hrun⟩ | ⟨x, hx, w1, hst, hrun⟩
    · have hnx : ∀ ty, (Instr.next (.pointer (some ⟨w.heap.size + 2, 0, none⟩)) false ty).run Tryz.prog wr = _ := fun _ => hrun
      have HB := Lib.hid hS.bel
      have hT : e.named = true := e.named_true (e.tab_all _ (fun x hx c s hk hv => by have := hS.all x hx (seen_all h0 x hx) c s hk hv; rw [HP.out] at this; exact this))
      have HT := Lib.hid hT
      clear hT hS hrun h0
      go_wp2_with fail
      go_ret
      exact ⟨ret_bool HT.out.symm, HB.out⟩
    · have hxm := (mem_left hx).1
      obtain ⟨c, s, hk, hv, hm⟩ := e.tab_mem hxm
      have hent := entry_map_at (P := Tryz.prog) w1 (w.heap.size + 2) (w.heap.size + 1) 4 4 seen e.tab x (hst.at_ (Array.getElem?_eq_some_iff.1 hS.it).1) ((hst.far (by omega)).trans hS.mp) hxm e.tab_nodup
      have hshr := left_shrinks e.tab seen x hx
      have hS1 : (hasB e.kind c = false ∨ nameB s = true) → TabSt e w p (seen.push x.born) w1 := fun h => hS.step hxm (fun c' s' hk' hv' => by
        rw [hk] at hk'; rw [hv] at hv'; cases hk'; cases hv'; rw [HP.out]; exact h) hst
      have HS1 := Lib.hid hS1
      have HSH := Lib.hid hshr
      have HLN := Lib.hid (leftN_at (es := e.tab) hS.it)
      have f0' : w1.cell? ⟨w.heap.size, 0, none⟩ = some (.int .i64 e.kind) := (hst.cell (by simp)).trans f0
      rw [hk, hv] at hrun hent
      have hnx : ∀ ty, (Instr.next (.pointer (some ⟨w.heap.size + 2, 0, none⟩)) false ty).run Tryz.prog wr = _ := fun _ => hrun
      have hbel : Below w.heap.size w w1 := hst.below (by omega) hS.bel
      have HM := Lib.hid hm
      have HBW := Lib.hid hbel
      have hnm := name_calls s w1
      clear hrun hS hS1 hst hshr hm hxm hbel hk hv f5 f6 f7 hx
      cases hh : hasB e.kind c with
      | false =>
        go_wp2_with (go_at_call 126; refine (has_calls _ _ _).mono ?_; rintro en w5 ⟨rfl, rfl⟩)
        have hS2 := HS1.out (.inl hh)
        exact ⟨⟨_, hS2⟩, by rw [HLN.out, leftN_at hS2.it]; exact HSH.out⟩
      | true =>
        cases hn : nameB s with
        | true =>
          rw [hn] at hnm
          have HNM := Lib.hid hnm
          clear hnm
          go_wp2_with (first | (go_at_call 126; refine (has_calls _ _ _).mono ?_; rintro en w5 ⟨rfl, rfl⟩) | (go_at_call 61; refine HNM.out.mono ?_; rintro en w6 ⟨rfl, hb6⟩))
          have hS2 := (HS1.out (.inr hn)).after hb6
          exact ⟨⟨_, hS2⟩, by rw [HLN.out, leftN_at hS2.it]; exact HSH.out⟩
        | false =>
          rw [hn] at hnm
          have HNM := Lib.hid hnm
          clear hnm
          go_wp2_with (first | (go_at_call 126; refine (has_calls _ _ _).mono ?_; rintro en w5 ⟨rfl, rfl⟩) | (go_at_call 61; refine HNM.out.mono ?_; rintro en w6 ⟨rfl, hb6⟩))
          go_ret
          exact ⟨ret_bool (e.named_false HM.out hh hn).symm, bl_step hb6 HBW.out⟩
end Go.Proofs.YtnekcijganhknaaGreatDoor
namespace Go.Proofs.YtnekcijganhknaaGreatDoor
open Go.RowKit
set_option linter.unusedVariables false
set_option linter.unusedSimpArgs false

def qB (k : Int) : Bool := (fieldsS k).toList == [63]
def Ev.check (e : Ev) : Int :=
  if (qB e.kind || !e.only || !e.named) = true then 1
  else if e.day < 0 ∨ 10000 < e.day ∨ validB e.value = false then 1
  else if e.kind = 4 ∧ e.value ≠ 0 ∧ e.value ≠ 1 then 1
  else if e.kind = 2 then e.term.write.2
  else 0
theorem Blk.evs {w : World} {g : Nat} {e : Ev} (h : Blk w g e.cells 40) :
    w.cell? ⟨g, 0, none⟩ = some (.int .i64 e.kind) ∧ w.cell? ⟨g, 1, none⟩ = some (.string e.id) ∧ w.cell? ⟨g, 2, none⟩ = some (.string e.name) ∧ w.cell? ⟨g, 3, none⟩ = some (.string e.label) ∧ w.cell? ⟨g, 4, none⟩ = some (.string e.cur) ∧
    w.cell? ⟨g, 5, none⟩ = some (.int .i64 e.day) ∧ w.cell? ⟨g, 6, none⟩ = some (.int .i64 e.value) ∧ w.cell? ⟨g, 7, none⟩ = some e.term.val :=
  ⟨h.cell 0, h.cell 1, h.cell 2, h.cell 3, h.cell 4, h.cell 5, h.cell 6, h.cell 7⟩
set_option maxRecDepth 100000 in
set_option maxHeartbeats 4000000 in
theorem echeck_calls (e : Ev) (hok : e.ok) (hm : e.term.meas ≤ 1099511627776) (w : World) (ht : TabOk w) :
    Calls Tryz.prog 64 #[e.val] w fun en w' => en = .returned (.int .i64 e.check) ∧ Below w.heap.size w w' := by
  have hcc := e.term.cells_ hok.term
  have ho7 := e.term.one_ hok.term
  have hb0 := Blk.new w e.cells 40
  have hbA := bl_alloc (bl_refl w) (.cells e.cells 40)
  have HC : Hid (e.check = if (qB e.kind || !e.only || !e.named) = true then 1
    else if e.day < 0 ∨ 10000 < e.day ∨ validB e.value = false then 1
    else if e.kind = 4 ∧ e.value ≠ 0 ∧ e.value ≠ 1 then 1
    else if e.kind = 2 then e.term.write.2
    else 0) := rfl
  have hev : e.val = .agg #[.int .i64 e.kind, .string e.id, .string e.name, .string e.label, .string e.cur, .int .i64 e.day, .int .i64 e.value, e.term.val] := rfl
  have hon := only_calls e hok
  have hna := named_calls e hok
  rw [hev] at hon hna ⊢
  have hqq : Hid (qB e.kind = ((fieldsS e.kind).toList == [63])) := rfl
  unfold Ev.cells at *
  generalize e.only = on at *
  generalize e.named = na at *
  go_enter Tryz.func64, Tryz.ntmps64
  go_wp2_with fail
  refine (fields_calls _ _).mono ?_
  rintro en w1 ⟨rfl, rfl⟩
  cases hq : qB e.kind with
  | true =>
    have hq' : ((fieldsS e.kind).toList == [63]) = true := hqq.out.symm.trans hq
    have HQ := Lib.hid hq
    go_wp2_with fail
    go_ret
    refine ⟨ret_int ?_, hbA⟩
    rw [HC.out, HQ.out]; rfl
  | false =>
    have hq' : ((fieldsS e.kind).toList == [63]) = false := hqq.out.symm.trans hq
    have HQ := Lib.hid hq
    go_wp2_with fail
    refine (hon _).mono ?_
    rintro en w2 ⟨rfl, hb2⟩
    have hk2 := hb0.below hb2
    obtain ⟨f0, f1, f2, f3, f4, f5, f6, f7⟩ := Blk.evs (e := e) hk2
    cases on with
    | false =>
      go_wp2_with fail
      go_ret
      refine ⟨ret_int ?_, bl_step hb2 hbA⟩
      rw [HC.out, HQ.out]; rfl
    | true =>
      go_wp2_with fail
      refine (hna _).mono ?_
      rintro en w3 ⟨rfl, hb3⟩
      have hk3 := hk2.below hb3
      have hbB := bl_step hb3 (bl_step hb2 hbA)
      clear f0 f1 f2 f3 f4 f5 f6 f7
      obtain ⟨f0, f1, f2, f3, f4, f5, f6, f7⟩ := Blk.evs (e := e) hk3
      cases na with
      | false =>
        go_wp2_with fail
        go_ret
        refine ⟨ret_int ?_, hbB⟩
        rw [HC.out, HQ.out]; rfl
      | true =>
        have hvc := valid_calls e.value
        have HQN : (false || !true || !true) = false := rfl
        have htw := fun w ht => twrite_calls e.term hok.term hm w ht
        have ht3 := ht.below hbB
        cases hv : validB e.value with
        | false =>
          rw [hv] at hvc
          have HV := Lib.hid hv
          have HVC := Lib.hid hvc
          clear hv hvc hq HQN htw
          go_wp2_with (go_at_call 63; refine (HVC.out _).mono ?_; rintro en w4 ⟨rfl, rfl⟩)
          all_goals go_ret
          all_goals
            refine ⟨ret_int ?_, hbB⟩
            rw [HC.out, HQ.out, HV.out]; simp
        | true =>
          rw [hv] at hvc
          have HV := Lib.hid hv
          have HVC := Lib.hid hvc
          have HTW := Lib.hid htw
          clear hv hvc hq HQN htw
          go_wp2_with (first | (go_at_call 63; refine (HVC.out _).mono ?_; rintro en w4 ⟨rfl, rfl⟩) | (go_at_call 101; refine (HTW.out _ ht3).mono ?_; rintro en w5 ⟨rfl, hb5⟩))
          all_goals go_ret
          all_goals
            refine ⟨ret_int ?_, ?_⟩
            · rw [HC.out, HQ.out, HV.out]
              simp only [beq_iff_eq, beq_eq_false_iff_ne, bne_iff_ne, bne_eq_false_iff_eq, ne_eq] at *
              rw [if_neg (by simp)]
              first
                | (rw [if_pos (.inl (by assumption))]; done)
                | (rw [if_pos (.inr (.inl (by assumption)))]; done)
                | (rw [if_neg (by simp; omega), if_pos (by omega)]; done)
                | (rw [if_neg (by simp; omega), if_neg (by omega), if_pos (by omega)]; done)
                | (rw [if_neg (by simp; omega), if_neg (by omega), if_neg (by omega)]; done)
            · first | exact hbB | exact bl_step hb5 hbB
def Ev.terms (a b : Ev) : Bool := (a.term.isNil && b.term.isNil) || a.term.same b.term
def Ev.rest (a b : Ev) : Bool := a.kind == b.kind && (a.id.toList == b.id.toList && (a.name.toList == b.name.toList && (a.label.toList == b.label.toList && (a.cur.toList == b.cur.toList && (a.day == b.day && a.value == b.value)))))
def Ev.same (a b : Ev) : Bool := a.terms b && a.rest b
end Go.Proofs.YtnekcijganhknaaGreatDoor
