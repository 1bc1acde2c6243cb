/- Unlike contracts have unlike texts, like ones like texts. -/
import Derived.Test.YtgcglongjjpkbaaDoorRef3
namespace Go.Proofs.YtgcglongjjpkbaaDoor
open Go.RowKit
set_option linter.unusedVariables false
set_option linter.unusedSimpArgs false

/-- A bracket, or a comma. -/
def stopB (c : UInt8) : Bool := c == 40 || c == 41 || c == 44
theorem decode_cont (s : ByteArray) (pos : Nat) (ha : 128 ≤ (s.get! (pos + 0)).toNat) (k : Nat) (hk : k < (Utf8.decode s pos).2) : 128 ≤ (s.get! (pos + k)).toNat := by
  have h0 : k = 0 → 128 ≤ (s.get! (pos + k)).toNat := fun h => by subst h; exact ha
  have hn : ¬ (s.get! (pos + 0)).toNat < 128 := by omega
  simp only [Utf8.decode, hn, if_false] at hk
  split at hk
  · rename_i h2
    simp only [Bool.and_eq_true, beq_iff_eq, decide_eq_true_eq] at h2
    split at hk
    · have hk' : k = 0 ∨ k = 1 := by simp only at hk; omega
      rcases hk' with h | rfl
      · exact h0 h
      · omega
    · exact h0 (by simp only at hk; omega)
  · split at hk
    · rename_i h2
      simp only [Bool.and_eq_true, beq_iff_eq, decide_eq_true_eq] at h2
      split at hk
      · have hk' : k = 0 ∨ k = 1 ∨ k = 2 := by simp only at hk; omega
        rcases hk' with h | rfl | rfl
        · exact h0 h
        · omega
        · omega
      · exact h0 (by simp only at hk; omega)
    · split at hk
      · rename_i h2
        simp only [Bool.and_eq_true, beq_iff_eq, decide_eq_true_eq] at h2
        split at hk
        · have hk' : k = 0 ∨ k = 1 ∨ k = 2 ∨ k = 3 := by simp only at hk; omega
          rcases hk' with h | rfl | rfl | rfl
          · exact h0 h
          · omega
          · omega
          · omega
        · exact h0 (by simp only at hk; omega)
      · exact h0 (by simp only at hk; omega)
theorem stop_high {c : UInt8} (h : 128 ≤ c.toNat) : stopB c = false := by
  unfold stopB
  have e : ∀ n : Nat, n < 128 → (c == UInt8.ofNat n) = false := fun n hn => by
    rw [beq_eq_false_iff_ne]
    intro hc
    rw [hc] at h
    simp at h
    omega
  have e1 := e 40 (by omega); have e2 := e 41 (by omega); have e3 := e 44 (by omega)
  simp only [Bool.or_eq_false_iff]
  exact ⟨⟨e1, e2⟩, e3⟩
theorem stop_letter {c : UInt8} (h : letterB (c.toNat : Int) = true) : stopB c = false := by
  unfold letterB at h
  have h := of_decide_eq_true h
  unfold stopB
  have e : ∀ n : Nat, n < 48 → (c == UInt8.ofNat n) = false := fun n hn => by
    rw [beq_eq_false_iff_ne]
    intro hc
    rw [hc] at h
    simp at h
    omega
  have e1 := e 40 (by omega); have e2 := e 41 (by omega); have e3 := e 44 (by omega)
  simp only [Bool.or_eq_false_iff]
  exact ⟨⟨e1, e2⟩, e3⟩
theorem get!_at (s : ByteArray) (i : Nat) (h : i < s.size) : s.get! i = s[i]'h := by
  have := get_at s i h
  simpa using this
theorem runes_stop (s : ByteArray) : ∀ (b p : Nat), s.size ≤ p + b → (∀ r ∈ runesF s b p, letterB r = true) → ∀ i, p ≤ i → i < s.size → stopB (s.get! i) = false
  | 0, p, hb, _, i, hp, hi => by omega
  | b + 1, p, hb, hr, i, hp, hi => by
    have hps : p < s.size := by omega
    have hstep := runesF_step s b p hps
    rw [hstep] at hr
    have h1 := hr _ (List.mem_cons_self)
    have h2 := fun r hm => hr r (List.mem_cons_of_mem _ hm)
    have hw := width_pos s p hps
    by_cases hi2 : p + (Utf8.decode s p).2 ≤ i
    · exact runes_stop s b (p + (Utf8.decode s p).2) (by omega) h2 i hi2 hi
    · by_cases ha : (s[p]'hps).toNat < 128
      · have hd := decode_ascii s p hps ha
        rw [hd] at h1 hi2
        have hip : i = p := by simp only at hi2; omega
        subst hip
        rw [get!_at s i hi]
        exact stop_letter h1
      · have hc := decode_cont s p (by rw [get_at s p hps]; omega) (i - p) (by omega)
        rw [show p + (i - p) = i by omega] at hc
        exact stop_high hc
theorem name_bytes {s : ByteArray} (h : nameB s = true) : ∀ c ∈ s.data.toList, stopB c = false := by
  intro c hc
  obtain ⟨i, hi, he⟩ := List.getElem_of_mem hc
  rw [Array.length_toList] at hi
  have hs := runes_stop s s.size 0 (by omega) ((nameB_iff s).1 h).1 i (by omega) hi
  rw [get!_at s i hi] at hs
  have e : s[i]'hi = c := by rw [← he]; simp; rfl
  rw [← e]; exact hs

theorem u8_of (n : Nat) (h : n < 256) : (UInt8.ofNat n).toNat = n := by simp; omega
theorem dec_step (u : Nat) : Lib.decDigits u = if u < 10 then [UInt8.ofNat (48 + u)] else Lib.decDigits (u / 10) ++ [UInt8.ofNat (48 + u % 10)] := by
  rw [Lib.decDigits]; split <;> simp_all
theorem dec_range : ∀ (u : Nat), ∀ c ∈ Lib.decDigits u, 48 ≤ c.toNat ∧ c.toNat ≤ 57 := by
  intro u
  induction u using Nat.strongRecOn with
  | _ u ih =>
    intro c hc
    rw [dec_step] at hc
    split at hc
    · have : c = UInt8.ofNat (48 + u) := by simpa using hc
      subst this
      rw [u8_of _ (by omega)]
      omega
    · rcases List.mem_append.1 hc with h | h
      · exact ih (u / 10) (by omega) c h
      · have : c = UInt8.ofNat (48 + u % 10) := by simpa using h
        subst this
        rw [u8_of _ (by omega)]
        omega
def decVal (l : List UInt8) : Nat := l.foldl (fun a c => a * 10 + (c.toNat - 48)) 0
theorem decVal_dec : ∀ (u : Nat), decVal (Lib.decDigits u) = u := by
  intro u
  induction u using Nat.strongRecOn with
  | _ u ih =>
    rw [dec_step]
    split
    · unfold decVal
      simp only [List.foldl_cons, List.foldl_nil]
      rw [u8_of _ (by omega)]
      omega
    · have h := ih (u / 10) (by omega)
      unfold decVal at *
      rw [List.foldl_append, h]
      simp only [List.foldl_cons, List.foldl_nil]
      rw [u8_of _ (by omega)]
      omega
theorem itoa_cases (n : Int) : (n < 0 ∧ ∃ u : Nat, n = -(u : Int) ∧ Lib.itoa n = 45 :: Lib.decDigits u) ∨ (∃ u : Nat, n = (u : Int) ∧ Lib.itoa n = Lib.decDigits u) := by
  by_cases h : n < 0
  · obtain ⟨u, hu, rfl⟩ : ∃ u : Nat, 1 ≤ u ∧ n = -(u : Int) := ⟨n.natAbs, by omega, by omega⟩
    exact .inl ⟨h, u, rfl, Lib.itoa_neg u hu⟩
  · obtain ⟨u, rfl⟩ : ∃ u : Nat, n = (u : Int) := ⟨n.toNat, by omega⟩
    exact .inr ⟨u, rfl, Lib.itoa_nonneg u⟩
theorem dec_no_minus (u : Nat) : ∀ l, Lib.decDigits u ≠ 45 :: l := fun l h => by
  have := (dec_range u 45 (by rw [h]; exact List.mem_cons_self)).1
  simp at this
theorem itoa_inj {n m : Int} (h : Lib.itoa n = Lib.itoa m) : n = m := by
  rcases itoa_cases n with ⟨_, u, hu, e⟩ | ⟨u, hu, e⟩ <;> rcases itoa_cases m with ⟨_, v, hv, f⟩ | ⟨v, hv, f⟩ <;> rw [e, f] at h
  · injection h with _ h
    have := congrArg decVal h
    rw [decVal_dec, decVal_dec] at this
    omega
  · exact absurd h.symm (dec_no_minus v _)
  · exact absurd h (dec_no_minus u _)
  · have := congrArg decVal h
    rw [decVal_dec, decVal_dec] at this
    omega
theorem stop_small {c : UInt8} (h : c.toNat = 45 ∨ (48 ≤ c.toNat ∧ c.toNat ≤ 57)) : stopB c = false := by
  unfold stopB
  have e : ∀ n : Nat, n < 45 → (c == UInt8.ofNat n) = false := fun n hn => by
    rw [beq_eq_false_iff_ne]
    intro hc
    rw [hc, u8_of _ (by omega)] at h
    omega
  have e1 := e 40 (by omega); have e2 := e 41 (by omega); have e3 := e 44 (by omega)
  simp only [Bool.or_eq_false_iff]
  exact ⟨⟨e1, e2⟩, e3⟩
theorem itoa_stop (n : Int) : ∀ c ∈ Lib.itoa n, stopB c = false := by
  intro c hc
  rcases itoa_cases n with ⟨_, u, hu, e⟩ | ⟨u, hu, e⟩ <;> rw [e] at hc
  · rcases List.mem_cons.1 hc with rfl | h
    · decide
    · exact stop_small (.inr (dec_range u c h))
  · exact stop_small (.inr (dec_range u c hc))
/-- What may stand behind a token: nothing, or a bracket or a comma. -/
def Stops (r : List UInt8) : Prop := ∀ c t, r = c :: t → stopB c = true
theorem split_at : ∀ (p p' r r' : List UInt8), (∀ c ∈ p, stopB c = false) → (∀ c ∈ p', stopB c = false) → Stops r → Stops r' → p ++ r = p' ++ r' → p = p' ∧ r = r'
  | [], [], r, r', _, _, _, _, h => ⟨rfl, by simpa using h⟩
  | [], d :: p', r, r', _, h2, hr, _, h => by
    have := hr d (p' ++ r') (by simpa using h)
    rw [h2 d List.mem_cons_self] at this
    cases this
  | c :: p, [], r, r', h1, _, _, hr', h => by
    have := hr' c (p ++ r) (by simpa using h.symm)
    rw [h1 c List.mem_cons_self] at this
    cases this
  | c :: p, d :: p', r, r', h1, h2, hr, hr', h => by
    rw [List.cons_append, List.cons_append] at h
    injection h with hc h
    obtain ⟨e1, e2⟩ := split_at p p' r r' (fun x hx => h1 x (List.mem_cons_of_mem _ hx)) (fun x hx => h2 x (List.mem_cons_of_mem _ hx)) hr hr' h
    exact ⟨by rw [hc, e1], e2⟩
/-- What may stand behind a whole text. -/
def Ends (r : List UInt8) : Prop := ∀ c t, r = c :: t → c = 41 ∨ c = 44
theorem Ends.stops {r : List UInt8} (h : Ends r) : Stops r := fun c t e => by
  rcases h c t e with rfl | rfl <;> decide
theorem ends_close (r : List UInt8) : Ends (41 :: r) := fun c t e => by injection e with e; exact .inl e.symm
theorem ends_comma (r : List UInt8) : Ends (44 :: r) := fun c t e => by injection e with e; exact .inr e.symm
theorem stops_open (r : List UInt8) : Stops (40 :: r) := fun c t e => by injection e with e; rw [← e]; decide
/-- A token, and its brackets, if it has any. -/
def tokTx (w : List UInt8) (b : Option (List UInt8)) : List UInt8 := match b with | none => w | some i => w ++ 40 :: (i ++ [41])
/-- Two texts that begin alike have the same token, and the same brackets. -/
theorem tok_split {w w' : List UInt8} {b b' : Option (List UInt8)} {r r' : List UInt8} (hw : ∀ c ∈ w, stopB c = false) (hw' : ∀ c ∈ w', stopB c = false) (hr : Ends r) (hr' : Ends r') (h : tokTx w b ++ r = tokTx w' b' ++ r') :
    w = w' ∧ ((b = none ∧ b' = none ∧ r = r') ∨ ∃ i i', b = some i ∧ b' = some i' ∧ i ++ 41 :: r = i' ++ 41 :: r') := by
  unfold tokTx at h
  cases b with
  | none =>
    cases b' with
    | none =>
      obtain ⟨e1, e2⟩ := split_at w w' r r' hw hw' hr.stops hr'.stops h
      exact ⟨e1, .inl ⟨rfl, rfl, e2⟩⟩
    | some i =>
      simp only [List.append_assoc, List.cons_append] at h
      obtain ⟨e1, e2⟩ := split_at w w' _ _ hw hw' hr.stops (stops_open _) h
      have := hr 40 _ e2
      simp at this
  | some i =>
    cases b' with
    | none =>
      simp only [List.append_assoc, List.cons_append] at h
      obtain ⟨e1, e2⟩ := split_at w w' _ _ hw hw' (stops_open _) hr'.stops h
      have := hr' 40 _ e2.symm
      simp at this
    | some i' =>
      simp only [List.append_assoc, List.cons_append, List.nil_append] at h
      obtain ⟨e1, e2⟩ := split_at w w' _ _ hw hw' (stops_open _) (stops_open _) h
      injection e2 with _ e2
      exact ⟨e1, .inr ⟨i, i', rfl, rfl, e2⟩⟩

def Ob.txt (o : Ob) : List UInt8 := o.text.data.toList
def Tm.txt (o : Tm) : List UInt8 := o.text.data.toList
def Ob.tok : Ob → List UInt8
  | .const n => Lib.itoa n
  | .fix _ => [102, 105, 120]
  | .add _ _ => [97, 100, 100]
  | .neg _ => [110, 101, 103]
  | .mul _ _ => [109, 117, 108]
  | .max _ _ => [109, 97, 120]
  | .odd _ => []
def Ob.inn : Ob → Option (List UInt8)
  | .const _ | .odd _ => none
  | .fix s => some s.data.toList
  | .add l r | .mul l r | .max l r => some (l.txt ++ 44 :: r.txt)
  | .neg o => some o.txt
theorem tx_one (w : List UInt8) (a : ByteArray) : (callS ⟨w.toArray⟩ [a]).data.toList = tokTx w (some a.data.toList) := by
  rw [callS_list]; simp [Lib.join_one, tokTx]
theorem tx_two (w : List UInt8) (a b : ByteArray) : (callS ⟨w.toArray⟩ [a, b]).data.toList = tokTx w (some (a.data.toList ++ 44 :: b.data.toList)) := by
  rw [callS_list]; simp [Lib.join_cons, Lib.joinTail, tokTx]
theorem tx_three (w : List UInt8) (a b c : ByteArray) : (callS ⟨w.toArray⟩ [a, b, c]).data.toList = tokTx w (some (a.data.toList ++ 44 :: (b.data.toList ++ 44 :: c.data.toList))) := by
  rw [callS_list]; simp [Lib.join_cons, Lib.joinTail, tokTx]
theorem Ob.txt_tok (o : Ob) (h : o.plain) : o.txt = tokTx o.tok o.inn := by
  cases o with
  | const n => simp [Ob.txt, Ob.text, itoaS, Ob.tok, Ob.inn, tokTx]
  | fix s => exact tx_one [102, 105, 120] s
  | add l r => exact tx_two [97, 100, 100] l.text r.text
  | neg o => exact tx_one [110, 101, 103] o.text
  | mul l r => exact tx_two [109, 117, 108] l.text r.text
  | max l r => exact tx_two [109, 97, 120] l.text r.text
  | odd v => exact h.elim
theorem Ob.tok_stop (o : Ob) : ∀ c ∈ o.tok, stopB c = false := by
  cases o with
  | const n => exact itoa_stop n
  | odd v => intro c hc; cases hc
  | _ => simp only [Ob.tok]; decide
/-- A name ends where a bracket or a comma stands. -/
theorem name_split {s s' : ByteArray} {r r' : List UInt8} (h : nameB s = true) (h' : nameB s' = true) (hr : Ends r) (hr' : Ends r') (he : s.data.toList ++ r = s'.data.toList ++ r') : s = s' ∧ r = r' := by
  obtain ⟨e1, e2⟩ := split_at _ _ _ _ (name_bytes h) (name_bytes h') hr.stops hr'.stops he
  refine ⟨?_, e2⟩
  cases s; cases s'
  simp only at e1
  rw [Array.toList_inj.1 e1]
theorem Ob.txt_inj : ∀ (a b : Ob), a.form = true → b.form = true → ∀ (r r' : List UInt8), Ends r → Ends r' → a.txt ++ r = b.txt ++ r' → a = b ∧ r = r' := by
  intro a
  induction a with
  | odd v => intro b h; simp [Ob.form] at h
  | const n =>
    intro b ha hb r r' hr hr' h
    rw [Ob.txt_tok _ (Ob.form_plain _ ha), Ob.txt_tok _ (Ob.form_plain _ hb)] at h
    obtain ⟨e, h1⟩ := tok_split (Ob.tok_stop _) (Ob.tok_stop _) hr hr' h
    rcases h1 with ⟨_, h2, h3⟩ | ⟨i, i', h2, h3, h4⟩
    · cases b <;> simp [Ob.inn] at h2
      · exact ⟨by rw [itoa_inj e], h3⟩
      · simp [Ob.form] at hb
    · simp [Ob.inn] at h2
  | fix s =>
    intro b ha hb r r' hr hr' h
    rw [Ob.txt_tok _ (Ob.form_plain _ ha), Ob.txt_tok _ (Ob.form_plain _ hb)] at h
    obtain ⟨e, h1⟩ := tok_split (Ob.tok_stop _) (Ob.tok_stop _) hr hr' h
    rcases h1 with ⟨h2, _, _⟩ | ⟨i, i', h2, h3, h4⟩
    · simp [Ob.inn] at h2
    · cases b <;> simp [Ob.inn, Ob.tok] at h2 h3 e
      rename_i s'
      subst h2; subst h3
      obtain ⟨e1, e2⟩ := name_split ha hb (ends_close _) (ends_close _) h4
      injection e2 with _ e2
      exact ⟨by rw [e1], e2⟩
  | neg o ih =>
    intro b ha hb r r' hr hr' h
    rw [Ob.txt_tok _ (Ob.form_plain _ ha), Ob.txt_tok _ (Ob.form_plain _ hb)] at h
    obtain ⟨e, h1⟩ := tok_split (Ob.tok_stop _) (Ob.tok_stop _) hr hr' h
    rcases h1 with ⟨h2, _, _⟩ | ⟨i, i', h2, h3, h4⟩
    · simp [Ob.inn] at h2
    · cases b <;> simp [Ob.inn, Ob.tok] at h2 h3 e
      rename_i y
      subst h2; subst h3
      obtain ⟨e1, e2⟩ := ih y ha hb _ _ (ends_close _) (ends_close _) h4
      injection e2 with _ e2
      exact ⟨by rw [e1], e2⟩
  | add l q hl hq =>
    intro b ha hb r r' hr hr' h
    rw [Ob.txt_tok _ (Ob.form_plain _ ha), Ob.txt_tok _ (Ob.form_plain _ hb)] at h
    obtain ⟨e, h1⟩ := tok_split (Ob.tok_stop _) (Ob.tok_stop _) hr hr' h
    rcases h1 with ⟨h2, _, _⟩ | ⟨i, i', h2, h3, h4⟩
    · simp [Ob.inn] at h2
    · cases b <;> simp [Ob.inn, Ob.tok] at h2 h3 e
      simp only [Ob.form, Bool.and_eq_true] at ha hb
      subst h2; subst h3
      simp only [List.append_assoc, List.cons_append] at h4
      obtain ⟨e1, e2⟩ := hl _ ha.1 hb.1 _ _ (ends_comma _) (ends_comma _) h4
      injection e2 with _ e2
      obtain ⟨e3, e4⟩ := hq _ ha.2 hb.2 _ _ (ends_close _) (ends_close _) e2
      injection e4 with _ e4
      exact ⟨by rw [e1, e3], e4⟩
  | mul l q hl hq =>
    intro b ha hb r r' hr hr' h
    rw [Ob.txt_tok _ (Ob.form_plain _ ha), Ob.txt_tok _ (Ob.form_plain _ hb)] at h
    obtain ⟨e, h1⟩ := tok_split (Ob.tok_stop _) (Ob.tok_stop _) hr hr' h
    rcases h1 with ⟨h2, _, _⟩ | ⟨i, i', h2, h3, h4⟩
    · simp [Ob.inn] at h2
    · cases b <;> simp [Ob.inn, Ob.tok] at h2 h3 e
      simp only [Ob.form, Bool.and_eq_true] at ha hb
      subst h2; subst h3
      simp only [List.append_assoc, List.cons_append] at h4
      obtain ⟨e1, e2⟩ := hl _ ha.1 hb.1 _ _ (ends_comma _) (ends_comma _) h4
      injection e2 with _ e2
      obtain ⟨e3, e4⟩ := hq _ ha.2 hb.2 _ _ (ends_close _) (ends_close _) e2
      injection e4 with _ e4
      exact ⟨by rw [e1, e3], e4⟩
  | max l q hl hq =>
    intro b ha hb r r' hr hr' h
    rw [Ob.txt_tok _ (Ob.form_plain _ ha), Ob.txt_tok _ (Ob.form_plain _ hb)] at h
    obtain ⟨e, h1⟩ := tok_split (Ob.tok_stop _) (Ob.tok_stop _) hr hr' h
    rcases h1 with ⟨h2, _, _⟩ | ⟨i, i', h2, h3, h4⟩
    · simp [Ob.inn] at h2
    · cases b <;> simp [Ob.inn, Ob.tok] at h2 h3 e
      simp only [Ob.form, Bool.and_eq_true] at ha hb
      subst h2; subst h3
      simp only [List.append_assoc, List.cons_append] at h4
      obtain ⟨e1, e2⟩ := hl _ ha.1 hb.1 _ _ (ends_comma _) (ends_comma _) h4
      injection e2 with _ e2
      obtain ⟨e3, e4⟩ := hq _ ha.2 hb.2 _ _ (ends_close _) (ends_close _) e2
      injection e4 with _ e4
      exact ⟨by rw [e1, e3], e4⟩

def Tm.tok : Tm → List UInt8
  | .zero => [122, 101, 114, 111]
  | .one _ => [111, 110, 101]
  | .give _ => [103, 105, 118, 101]
  | .and _ _ => [97, 110, 100]
  | .or _ _ _ => [111, 114]
  | .scale _ _ => [115, 99, 97, 108, 101]
  | .when_ _ _ => [119, 104, 101, 110]
  | .if_ _ _ _ => [105, 102]
  | .odd _ => []
def Tm.inn : Tm → Option (List UInt8)
  | .zero | .odd _ => none
  | .one s => some s.data.toList
  | .give t => some t.txt
  | .and l r => some (l.txt ++ 44 :: r.txt)
  | .or s l r => some (s.data.toList ++ 44 :: (l.txt ++ 44 :: r.txt))
  | .scale o t => some (o.txt ++ 44 :: t.txt)
  | .when_ n t => some (Lib.itoa n ++ 44 :: t.txt)
  | .if_ o l r => some (o.txt ++ 44 :: (l.txt ++ 44 :: r.txt))
theorem Tm.txt_tok (o : Tm) (h : o.plain) : o.txt = tokTx o.tok o.inn := by
  cases o with
  | zero => rfl
  | one s => exact tx_one [111, 110, 101] s
  | give t => exact tx_one [103, 105, 118, 101] t.text
  | and l r => exact tx_two [97, 110, 100] l.text r.text
  | or s l r => exact tx_three [111, 114] s l.text r.text
  | scale o t => exact tx_two [115, 99, 97, 108, 101] o.text t.text
  | when_ n t => exact tx_two [119, 104, 101, 110] (itoaS n) t.text
  | if_ o l r => exact tx_three [105, 102] o.text l.text r.text
  | odd v => exact h.elim
theorem Tm.tok_stop (o : Tm) : ∀ c ∈ o.tok, stopB c = false := by
  cases o with
  | odd v => intro c hc; cases hc
  | _ => simp only [Tm.tok]; decide
theorem Tm.txt_inj : ∀ (a b : Tm), a.form = true → b.form = true → ∀ (r r' : List UInt8), Ends r → Ends r' → a.txt ++ r = b.txt ++ r' → a = b ∧ r = r' := by
  intro a
  induction a with
  | odd v => intro b h; simp [Tm.form] at h
  | zero =>
    intro b ha hb r r' hr hr' h
    rw [Tm.txt_tok _ (Tm.form_plain _ ha), Tm.txt_tok _ (Tm.form_plain _ hb)] at h
    obtain ⟨e, h1⟩ := tok_split (Tm.tok_stop _) (Tm.tok_stop _) hr hr' h
    rcases h1 with ⟨_, h2, h3⟩ | ⟨i, i', h2, h3, h4⟩
    · cases b <;> simp [Tm.inn] at h2
      · exact ⟨rfl, h3⟩
      · simp [Tm.form] at hb
    · simp [Tm.inn] at h2
  | one s =>
    intro b ha hb r r' hr hr' h
    rw [Tm.txt_tok _ (Tm.form_plain _ ha), Tm.txt_tok _ (Tm.form_plain _ hb)] at h
    obtain ⟨e, h1⟩ := tok_split (Tm.tok_stop _) (Tm.tok_stop _) hr hr' h
    rcases h1 with ⟨h2, _, _⟩ | ⟨i, i', h2, h3, h4⟩
    · simp [Tm.inn] at h2
    · cases b <;> simp [Tm.inn, Tm.tok] at h2 h3 e
      subst h2; subst h3
      obtain ⟨e1, e2⟩ := name_split ha hb (ends_close _) (ends_close _) h4
      injection e2 with _ e2
      exact ⟨by rw [e1], e2⟩
  | give t ih =>
    intro b ha hb r r' hr hr' h
    rw [Tm.txt_tok _ (Tm.form_plain _ ha), Tm.txt_tok _ (Tm.form_plain _ hb)] at h
    obtain ⟨e, h1⟩ := tok_split (Tm.tok_stop _) (Tm.tok_stop _) hr hr' h
    rcases h1 with ⟨h2, _, _⟩ | ⟨i, i', h2, h3, h4⟩
    · simp [Tm.inn] at h2
    · cases b <;> simp [Tm.inn, Tm.tok] at h2 h3 e
      rename_i y
      subst h2; subst h3
      obtain ⟨e1, e2⟩ := ih y ha hb _ _ (ends_close _) (ends_close _) h4
      injection e2 with _ e2
      exact ⟨by rw [e1], e2⟩
  | and l q hl hq =>
    intro b ha hb r r' hr hr' h
    rw [Tm.txt_tok _ (Tm.form_plain _ ha), Tm.txt_tok _ (Tm.form_plain _ hb)] at h
    obtain ⟨e, h1⟩ := tok_split (Tm.tok_stop _) (Tm.tok_stop _) hr hr' h
    rcases h1 with ⟨h2, _, _⟩ | ⟨i, i', h2, h3, h4⟩
    · simp [Tm.inn] at h2
    · cases b <;> simp [Tm.inn, Tm.tok] at h2 h3 e
      simp only [Tm.form, Bool.and_eq_true] at ha hb
      subst h2; subst h3
      simp only [List.append_assoc, List.cons_append] at h4
      obtain ⟨e1, e2⟩ := hl _ ha.1 hb.1 _ _ (ends_comma _) (ends_comma _) h4
      injection e2 with _ e2
      obtain ⟨e3, e4⟩ := hq _ ha.2 hb.2 _ _ (ends_close _) (ends_close _) e2
      injection e4 with _ e4
      exact ⟨by rw [e1, e3], e4⟩
  | or s l q hl hq =>
    intro b ha hb r r' hr hr' h
    rw [Tm.txt_tok _ (Tm.form_plain _ ha), Tm.txt_tok _ (Tm.form_plain _ hb)] at h
    obtain ⟨e, h1⟩ := tok_split (Tm.tok_stop _) (Tm.tok_stop _) hr hr' h
    rcases h1 with ⟨h2, _, _⟩ | ⟨i, i', h2, h3, h4⟩
    · simp [Tm.inn] at h2
    · cases b <;> simp [Tm.inn, Tm.tok] at h2 h3 e
      simp only [Tm.form, Bool.and_eq_true] at ha hb
      subst h2; subst h3
      simp only [List.append_assoc, List.cons_append] at h4
      obtain ⟨e5, e6⟩ := name_split ha.1 hb.1 (ends_comma _) (ends_comma _) h4
      injection e6 with _ e6
      obtain ⟨e1, e2⟩ := hl _ ha.2.1 hb.2.1 _ _ (ends_comma _) (ends_comma _) e6
      injection e2 with _ e2
      obtain ⟨e3, e4⟩ := hq _ ha.2.2 hb.2.2 _ _ (ends_close _) (ends_close _) e2
      injection e4 with _ e4
      exact ⟨by rw [e1, e3, e5], e4⟩
  | scale u t ht =>
    intro b ha hb r r' hr hr' h
    rw [Tm.txt_tok _ (Tm.form_plain _ ha), Tm.txt_tok _ (Tm.form_plain _ hb)] at h
    obtain ⟨e, h1⟩ := tok_split (Tm.tok_stop _) (Tm.tok_stop _) hr hr' h
    rcases h1 with ⟨h2, _, _⟩ | ⟨i, i', h2, h3, h4⟩
    · simp [Tm.inn] at h2
    · cases b <;> simp [Tm.inn, Tm.tok] at h2 h3 e
      simp only [Tm.form, Bool.and_eq_true] at ha hb
      subst h2; subst h3
      simp only [List.append_assoc, List.cons_append] at h4
      obtain ⟨e1, e2⟩ := Ob.txt_inj _ _ ha.1 hb.1 _ _ (ends_comma _) (ends_comma _) h4
      injection e2 with _ e2
      obtain ⟨e3, e4⟩ := ht _ ha.2 hb.2 _ _ (ends_close _) (ends_close _) e2
      injection e4 with _ e4
      exact ⟨by rw [e1, e3], e4⟩
  | when_ n t ht =>
    intro b ha hb r r' hr hr' h
    rw [Tm.txt_tok _ (Tm.form_plain _ ha), Tm.txt_tok _ (Tm.form_plain _ hb)] at h
    obtain ⟨e, h1⟩ := tok_split (Tm.tok_stop _) (Tm.tok_stop _) hr hr' h
    rcases h1 with ⟨h2, _, _⟩ | ⟨i, i', h2, h3, h4⟩
    · simp [Tm.inn] at h2
    · cases b <;> simp [Tm.inn, Tm.tok] at h2 h3 e
      simp only [Tm.form, Bool.and_eq_true] at ha hb
      subst h2; subst h3
      simp only [List.append_assoc, List.cons_append] at h4
      obtain ⟨e1, e2⟩ := split_at _ _ _ _ (itoa_stop _) (itoa_stop _) (ends_comma _).stops (ends_comma _).stops h4
      injection e2 with _ e2
      obtain ⟨e3, e4⟩ := ht _ ha.2 hb.2 _ _ (ends_close _) (ends_close _) e2
      injection e4 with _ e4
      exact ⟨by rw [itoa_inj e1, e3], e4⟩
  | if_ u l q hl hq =>
    intro b ha hb r r' hr hr' h
    rw [Tm.txt_tok _ (Tm.form_plain _ ha), Tm.txt_tok _ (Tm.form_plain _ hb)] at h
    obtain ⟨e, h1⟩ := tok_split (Tm.tok_stop _) (Tm.tok_stop _) hr hr' h
    rcases h1 with ⟨h2, _, _⟩ | ⟨i, i', h2, h3, h4⟩
    · simp [Tm.inn] at h2
    · cases b <;> simp [Tm.inn, Tm.tok] at h2 h3 e
      simp only [Tm.form, Bool.and_eq_true] at ha hb
      subst h2; subst h3
      simp only [List.append_assoc, List.cons_append] at h4
      obtain ⟨e5, e6⟩ := Ob.txt_inj _ _ ha.1 hb.1 _ _ (ends_comma _) (ends_comma _) h4
      injection e6 with _ e6
      obtain ⟨e1, e2⟩ := hl _ ha.2.1 hb.2.1 _ _ (ends_comma _) (ends_comma _) e6
      injection e2 with _ e2
      obtain ⟨e3, e4⟩ := hq _ ha.2.2 hb.2.2 _ _ (ends_close _) (ends_close _) e2
      injection e4 with _ e4
      exact ⟨by rw [e1, e3, e5], e4⟩
theorem ends_nil : Ends [] := fun c t e => by cases e
theorem ba_eq {s t : ByteArray} (h : s.toList = t.toList) : s = t := by
  rw [ByteArray.toList_eq, ByteArray.toList_eq] at h
  cases s; cases t
  simp only at h
  rw [Array.toList_inj.1 h]
theorem Ob.same_eq : ∀ (a b : Ob), a.same b = true → a = b := by
  intro a
  induction a with
  | const n => intro b h; cases b <;> simp [Ob.same] at h; rw [h]
  | fix s => intro b h; cases b <;> simp [Ob.same] at h; rw [ba_eq h]
  | odd v => intro b h; cases b <;> simp [Ob.same] at h
  | neg o ih => intro b h; cases b <;> simp [Ob.same] at h; rw [ih _ h]
  | add l r h1 h2 => intro b h; cases b <;> simp [Ob.same] at h; rw [h1 _ h.1, h2 _ h.2]
  | mul l r h1 h2 => intro b h; cases b <;> simp [Ob.same] at h; rw [h1 _ h.1, h2 _ h.2]
  | max l r h1 h2 => intro b h; cases b <;> simp [Ob.same] at h; rw [h1 _ h.1, h2 _ h.2]
theorem Tm.same_eq : ∀ (a b : Tm), a.same b = true → a = b := by
  intro a
  induction a with
  | zero => intro b h; cases b <;> simp [Tm.same] at h; rfl
  | one s => intro b h; cases b <;> simp [Tm.same] at h; rw [ba_eq h]
  | odd v => intro b h; cases b <;> simp [Tm.same] at h
  | give o ih => intro b h; cases b <;> simp [Tm.same] at h; rw [ih _ h]
  | and l r h1 h2 => intro b h; cases b <;> simp [Tm.same] at h; rw [h1 _ h.1, h2 _ h.2]
  | or s l r h1 h2 => intro b h; cases b <;> simp [Tm.same] at h; rw [ba_eq h.1, h1 _ h.2.1, h2 _ h.2.2]
  | scale o t h2 => intro b h; cases b <;> simp [Tm.same] at h; rw [Ob.same_eq _ _ h.1, h2 _ h.2]
  | when_ n t h2 => intro b h; cases b <;> simp [Tm.same] at h; rw [h.1, h2 _ h.2]
  | if_ o l r h1 h2 => intro b h; cases b <;> simp [Tm.same] at h; rw [Ob.same_eq _ _ h.1, h1 _ h.2.1, h2 _ h.2.2]
theorem Tm.text_eq {a b : Tm} (ha : a.form = true) (hb : b.form = true) (h : a.text = b.text) : a = b :=
  (Tm.txt_inj a b ha hb [] [] ends_nil ends_nil (by unfold Tm.txt; rw [h])).1
theorem Ob.text_eq {a b : Ob} (ha : a.form = true) (hb : b.form = true) (h : a.text = b.text) : a = b :=
  (Ob.txt_inj a b ha hb [] [] ends_nil ends_nil (by unfold Ob.txt; rw [h])).1
end Go.Proofs.YtgcglongjjpkbaaDoor
