/- The texts of any contract, of any number, or why there is none. -/
import Derived.Test.YtnekcijganhknaaGreatDoorTermG
import Derived.Test.YtnekcijganhknaaGreatDoorShelf
import Derived.Lib.AppendIntMem
import Derived.WalkSmall
import Derived.Lib.ItoaLen
namespace Go.Proofs.YtnekcijganhknaaGreatDoor
open Go.RowKit
set_option linter.unusedVariables false
set_option linter.unusedSimpArgs false

/-- The table that strconv reads is as the program's text lays it. -/
def TabOk (w : World) : Prop := Lib.TabIs Tryz.prog w "internal/strconv.uint64pow10" .u64 Lib.pow10Tab
theorem TabOk.below {w w' : World} (h : TabOk w) (hb : Below w.heap.size w w') : TabOk w' := by
  unfold TabOk Lib.TabIs at *
  have h' := h
  unfold World.var? at h'
  obtain ⟨g, hg, hv⟩ := Option.bind_eq_some_iff.1 h'
  refine var?_below hb hg ?_ h
  cases hh : w.heap[g]? with
  | none => rw [hh] at hv; cases hv
  | some o => exact (Array.getElem?_eq_some_iff.1 hh).1
def itoaS (n : Int) : ByteArray := ⟨(Lib.itoa n).toArray⟩
theorem itoa_calls (n : Int) (h0 : -9223372036854775808 ≤ n) (h1 : n < 9223372036854775808) (w : World) (ht : TabOk w) :
    Calls Tryz.prog 145 #[.int .i64 n] w fun e w' => e = .returned (.string (itoaS n)) ∧ Below w.heap.size w w' :=
  (Tryz.strconv_Itoa n h0 (by omega) w ht).mono fun e w' ⟨he, k, os, hw⟩ => ⟨he, hw ▸ Lib.below_grow _ w (Nat.le_refl _) k os⟩

/-- A word, and what stands in its brackets. -/
def joinS (l : List ByteArray) : ByteArray := ⟨(Lib.join (l.map (·.data.toList)) [44]).toArray⟩
def callS (word : ByteArray) (l : List ByteArray) : ByteArray := word ++ ⟨#[40]⟩ ++ joinS l ++ ⟨#[41]⟩
theorem ba_size (l : List UInt8) : (⟨l.toArray⟩ : ByteArray).size = l.length := by simp [ByteArray.size]
theorem ba_append (a b : ByteArray) : (a ++ b).data.toList = a.data.toList ++ b.data.toList := by
  simp
theorem callS_list (word : ByteArray) (l : List ByteArray) : (callS word l).data.toList = word.data.toList ++ (40 :: (Lib.join (l.map (·.data.toList)) [44] ++ [41])) := by
  unfold callS joinS
  simp only [ba_append]
  simp
theorem callS_size (word : ByteArray) (l : List ByteArray) : (callS word l).size = word.size + (Lib.join (l.map (·.data.toList)) [44]).length + 2 := by
  have h := congrArg List.length (callS_list word l)
  have e : ∀ a : ByteArray, a.size = a.data.toList.length := fun a => by rw [Array.length_toList]; rfl
  rw [e, h, e, List.length_append, List.length_cons, List.length_append, List.length_singleton]; omega
set_option maxRecDepth 100000 in
set_option maxHeartbeats 1000000 in
theorem call_calls (g : Nat) (word : ByteArray) (l : List ByteArray) (hl : 0 < l.length) (hw : word.size ≤ 1000) (hs : (Lib.join (l.map (·.data.toList)) [44]).length ≤ 1099511627776) (hn : l.length ≤ 1000) (n : Nat) (hln : l.length = n) (w : World) (hb : Blk w g (strs l).toArray 9) :
    Calls Tryz.prog 143 #[.string word, .slice (some ⟨g, 0, none⟩) n n] w fun e w' => e = .returned (.string (callS word l)) ∧ Below w.heap.size w w' := by
  subst hln
  have hj := Tryz.strings_Join g 0 l.length l ⟨#[44]⟩ w (fun j x hx => by
    rw [Nat.zero_add, hb.cell j]
    have hlt : j < l.length := by
      rcases Nat.lt_or_ge j l.length with h | h
      · exact h
      · rw [List.getElem?_eq_none h] at hx; cases hx
    rw [List.getElem?_eq_getElem hlt] at hx
    have : (strs l).toArray[j]? = (strs l)[j]? := by simp
    rw [this, strs_get l j hlt, Option.some.inj hx]) hb.lt (by omega) (Nat.le_refl _) (by simpa using (by omega : (Lib.join (l.map (·.data.toList)) [44]).length ≤ 140737488355328))
  have e : (Value.string ⟨(Lib.join (l.map (·.data.toList)) (⟨#[44]⟩ : ByteArray).data.toList).toArray⟩) = .string (joinS l) := rfl
  rw [e] at hj
  have HJ := Lib.hid hj
  have hsz : (joinS l).size ≤ 1099511627776 := by unfold joinS; rw [ba_size]; exact hs
  have HC : Hid (callS word l = word ++ ⟨#[40]⟩ ++ joinS l ++ ⟨#[41]⟩) := rfl
  generalize joinS l = jl at *
  generalize callS word l = cs at *
  clear hb hj e hs
  go_enter Tryz.func143, Tryz.ntmps143
  go_wp2_with fail
  refine (HJ.out).mono ?_
  rintro e w1 ⟨rfl, hb1⟩
  go_wp2_with fail
  go_ret
  exact ⟨by rw [HC.out]; rfl, hb1⟩
/-- No part of it is odd. -/
def Ob.plain : Ob → Prop
  | .const _ | .fix _ => True
  | .add l r | .mul l r | .max l r => l.plain ∧ r.plain
  | .neg o => o.plain
  | .odd _ => False
theorem Ob.form_plain : ∀ o : Ob, o.form = true → o.plain
  | .const _, _ | .fix _, _ => trivial
  | .add l r, h | .mul l r, h | .max l r, h => by
    simp only [Ob.form, Bool.and_eq_true] at h
    exact ⟨l.form_plain h.1, r.form_plain h.2⟩
  | .neg o, h => o.form_plain h
  | .odd _, h => by cases h
def Ob.text : Ob → ByteArray
  | .const n => itoaS n
  | .fix s => callS ⟨#[102, 105, 120]⟩ [s]
  | .add l r => callS ⟨#[97, 100, 100]⟩ [l.text, r.text]
  | .neg o => callS ⟨#[110, 101, 103]⟩ [o.text]
  | .mul l r => callS ⟨#[109, 117, 108]⟩ [l.text, r.text]
  | .max l r => callS ⟨#[109, 97, 120]⟩ [l.text, r.text]
  | .odd _ => ⟨#[]⟩
theorem ba_len (a : ByteArray) : a.data.toList.length = a.size := by rw [Array.length_toList]; rfl
theorem join_one_len (a : ByteArray) : (Lib.join ([a].map (·.data.toList)) [44]).length = a.size := by
  rw [List.map_cons, List.map_nil, Lib.join_one, ba_len]
theorem join_two_len (a b : ByteArray) : (Lib.join ([a, b].map (·.data.toList)) [44]).length = a.size + b.size + 1 := by
  simp only [List.map_cons, List.map_nil, Lib.join_cons, Lib.joinTail, List.flatten_cons, List.flatten_nil, List.length_append, List.length_cons, List.length_nil, ba_len]; omega
theorem join_three_len (a b c : ByteArray) : (Lib.join ([a, b, c].map (·.data.toList)) [44]).length = a.size + b.size + c.size + 2 := by
  simp only [List.map_cons, List.map_nil, Lib.join_cons, Lib.joinTail, List.flatten_cons, List.flatten_nil, List.length_append, List.length_cons, List.length_nil, ba_len]; omega
theorem callS_one (w a : ByteArray) : (callS w [a]).size = w.size + a.size + 2 := by rw [callS_size, join_one_len]
theorem callS_two (w a b : ByteArray) : (callS w [a, b]).size = w.size + a.size + b.size + 3 := by rw [callS_size, join_two_len]; omega
theorem callS_three (w a b c : ByteArray) : (callS w [a, b, c]).size = w.size + a.size + b.size + c.size + 4 := by rw [callS_size, join_three_len]; omega
theorem bs_str1 (s : ByteArray) (W : World) : (Instr.buildSlice 54 1 #[(0, .string s)]).run Tryz.prog W = .ok (.slice (some ⟨W.heap.size, 0, none⟩) 1 1) (W.alloc (.cells #[.string s] 9)) := by kernel_rfl
theorem bs_str2 (s t : ByteArray) (W : World) : (Instr.buildSlice 54 2 #[(0, .string s), (1, .string t)]).run Tryz.prog W = .ok (.slice (some ⟨W.heap.size, 0, none⟩) 2 2) (W.alloc (.cells #[.string s, .string t] 9)) := by kernel_rfl
theorem bs_str3 (s t u : ByteArray) (W : World) : (Instr.buildSlice 54 3 #[(0, .string s), (1, .string t), (2, .string u)]).run Tryz.prog W = .ok (.slice (some ⟨W.heap.size, 0, none⟩) 3 3) (W.alloc (.cells #[.string s, .string t, .string u] 9)) := by kernel_rfl
theorem call_one (g : Nat) (word s : ByteArray) (hw : word.size ≤ 1000) (hs : s.size ≤ 1099511627776) (w : World) (hg : g = w.heap.size) :
    Calls Tryz.prog 143 #[.string word, .slice (some ⟨g, 0, none⟩) 1 1] (w.alloc (.cells #[.string s] 9)) fun e w' => e = .returned (.string (callS word [s])) ∧ Below (w.alloc (.cells #[.string s] 9)).heap.size (w.alloc (.cells #[.string s] 9)) w' :=
  call_calls g word [s] (by simp) hw (by rw [join_one_len]; exact hs) (by simp) 1 rfl _ (Blk_new w _ _ g hg)
theorem call_two (g : Nat) (word s t : ByteArray) (hw : word.size ≤ 1000) (hs : s.size + t.size ≤ 1099511627770) (w : World) (hg : g = w.heap.size) :
    Calls Tryz.prog 143 #[.string word, .slice (some ⟨g, 0, none⟩) 2 2] (w.alloc (.cells #[.string s, .string t] 9)) fun e w' => e = .returned (.string (callS word [s, t])) ∧ Below (w.alloc (.cells #[.string s, .string t] 9)).heap.size (w.alloc (.cells #[.string s, .string t] 9)) w' :=
  call_calls g word [s, t] (by simp) hw (by rw [join_two_len]; omega) (by simp) 2 rfl _ (Blk_new w _ _ g hg)
theorem call_three (g : Nat) (word s t u : ByteArray) (hw : word.size ≤ 1000) (hs : s.size + t.size + u.size ≤ 1099511627770) (w : World) (hg : g = w.heap.size) :
    Calls Tryz.prog 143 #[.string word, .slice (some ⟨g, 0, none⟩) 3 3] (w.alloc (.cells #[.string s, .string t, .string u] 9)) fun e w' => e = .returned (.string (callS word [s, t, u])) ∧ Below (w.alloc (.cells #[.string s, .string t, .string u] 9)).heap.size (w.alloc (.cells #[.string s, .string t, .string u] 9)) w' :=
  call_calls g word [s, t, u] (by simp) hw (by rw [join_three_len]; omega) (by simp) 3 rfl _ (Blk_new w _ _ g hg)
theorem cell_belowB {B : Nat} {w w1 : World} (h : Below B w w1) {a : Addr} {v : Value} (ha : a.block < B) (hc : w.cell? a = some v) : w1.cell? a = some v := (h.cell ha).trans hc
theorem alloc_lt (w : World) (o : Obj) : w.heap.size < (w.alloc o).heap.size := by simp
theorem alloc_cell (w : World) (cs : Array Value) (t : TypeId) (j : Nat) (v : Value) (h : cs[j]? = some v) : (w.alloc (.cells cs t)).cell? ⟨w.heap.size, j, none⟩ = some v := (Blk.new w cs t).cell j ▸ h
set_option maxRecDepth 100000 in
set_option maxHeartbeats 4000000 in
theorem number_calls (o : Ob) (ho : o.ok) (hp : o.plain) (hs : o.text.size ≤ 1099511627000) : ∀ (w : World), TabOk w →
    Calls Tryz.prog 144 #[o.val] w fun e w' => e = .returned (.string o.text) ∧ Below w.heap.size w w' := by
  induction o with
  | odd v => exact hp.elim
  | const n =>
    intro w ht
    have hb0 := bl_refl w
    have hit := fun w ht => itoa_calls n ho.1 ho.2 w ht
    have e : (Ob.const n).text = itoaS n := rfl
    rw [e] at hs ⊢
    generalize itoaS n = s at *
    unfold Ob.val
    go_enter Tryz.func144, Tryz.ntmps144
    go_wp2_with fail
    refine (hit _ (ht.below ?_)).mono ?_
    ·
      repeat (first | exact bl_refl _ | refine bl_alloc ?_ _ | refine bl_drew ?_ | refine bl_drewN ?_ _ | refine bl_step (by assumption) ?_)
    rintro e w1 ⟨rfl, hb1⟩
    go_wp2_with fail
    go_ret
    refine ⟨rfl, ?_⟩
    repeat (first | exact bl_refl _ | refine bl_alloc ?_ _ | refine bl_drew ?_ | refine bl_drewN ?_ _ | refine bl_step (by assumption) ?_)
  | fix s =>
    intro w ht
    have hb0 := bl_refl w
    have e : (Ob.fix s).text = callS ⟨#[102, 105, 120]⟩ [s] := rfl
    rw [e] at hs ⊢
    rw [callS_one] at hs
    have HC : Hid (callS ⟨#[102, 105, 120]⟩ [s] = callS ⟨#[102, 105, 120]⟩ [s]) := rfl
    have hbs := bs_str1
    unfold Ob.val
    go_enter Tryz.func144, Tryz.ntmps144
    go_wp2_with fail
    refine (call_one _ _ _ (by decide) (by omega) _ (by simp)).mono ?_
    rintro e w1 ⟨rfl, hb1⟩
    go_wp2_with fail
    go_ret
    refine ⟨rfl, ?_⟩
    repeat (first | exact bl_refl _ | refine bl_alloc ?_ _ | refine bl_drew ?_ | refine bl_drewN ?_ _ | refine bl_step (by assumption) ?_)
  | neg o ih =>
    intro w ht
    have hb0 := bl_refl w
    have ho0 : o.ok := ho
    have e : (Ob.neg o).text = callS ⟨#[110, 101, 103]⟩ [o.text] := rfl
    rw [e] at hs ⊢
    rw [callS_one] at hs
    have hbs := bs_str1
    have hl := ih ho0 hp (by omega)
    clear ih
    generalize o.text = s at *
    unfold Ob.val
    go_enter Tryz.func144, Tryz.ntmps144
    go_wp2_with fail
    refine (hl _ (ht.below ?_)).mono ?_
    ·
      repeat (first | exact bl_refl _ | refine bl_alloc ?_ _ | refine bl_drew ?_ | refine bl_drewN ?_ _ | refine bl_step (by assumption) ?_)
    rintro e w1 ⟨rfl, hb1⟩
    go_wp2_with fail
    refine (call_one _ _ _ (by decide) (by omega) _ (by simp)).mono ?_
    rintro e w2 ⟨rfl, hb2⟩
    go_wp2_with fail
    go_ret
    refine ⟨rfl, ?_⟩
    repeat (first | exact bl_refl _ | refine bl_alloc ?_ _ | refine bl_drew ?_ | refine bl_drewN ?_ _ | refine bl_step (by assumption) ?_)
  | add l r ihl ihr =>
    intro w ht
    obtain ⟨hl0, hr0⟩ : l.ok ∧ r.ok := ho
    have e : (Ob.add l r).text = callS ⟨#[97, 100, 100]⟩ [l.text, r.text] := rfl
    rw [e] at hs ⊢
    rw [callS_two] at hs
    have hbs := bs_str2
    have hl := ihl hl0 hp.1 (by omega)
    have hr := ihr hr0 hp.2 (by omega)
    clear ihl ihr e hp
    generalize l.text = s at *
    generalize r.text = t at *
    unfold Ob.val
    go_enter Tryz.func144, Tryz.ntmps144
    go_wp2_with fail
    have hbA := bl_alloc (bl_refl w) (.cells #[l.val, r.val] 168)
    have hc0 := alloc_cell w #[l.val, r.val] 168 0 (l.val) rfl
    have hc1 := alloc_cell w #[l.val, r.val] 168 1 (r.val) rfl
    have hlt := alloc_lt w (.cells #[l.val, r.val] 168)
    change Code.wp _ _ _ _ (w.alloc (.cells #[l.val, r.val] 168))
    generalize (w.alloc (.cells #[l.val, r.val] 168)) = W1 at *
    have htA := ht.below hbA
    clear ht
    go_region_held3 (fun w' => w'.cell? ⟨w.heap.size, 0, none⟩ = some l.val ∧ w'.cell? ⟨w.heap.size, 1, none⟩ = some r.val) (first | go_keep | (go_split_ands; constructor <;> (refine cell_belowB (by assumption) (by simp; omega) ?_; assumption))) (first | (go_at_call_of 144 (l.val); refine (hl _ (htA.below (by repeat (first | exact bl_refl _ | refine bl_alloc ?_ _ | refine bl_drew ?_ | refine bl_drewN ?_ _ | refine bl_step (by assumption) ?_)))).mono ?_; rintro e w1 ⟨rfl, hb1⟩; have hlt1 := Nat.lt_of_lt_of_le hlt hb1.size) | (go_at_call_of 144 (r.val); refine (hr _ (htA.below (by repeat (first | exact bl_refl _ | refine bl_alloc ?_ _ | refine bl_drew ?_ | refine bl_drewN ?_ _ | refine bl_step (by assumption) ?_)))).mono ?_; rintro e w2 ⟨rfl, hb2⟩; have hlt2 := Nat.lt_of_lt_of_le hlt1 hb2.size) | (go_at_call 143; refine (call_two _ _ _ _ (by decide) (by omega) _ (by simp)).mono ?_; rintro e w3 ⟨rfl, hb3⟩))
    go_wp2_with fail
    go_ret
    refine ⟨rfl, bl_step (w := w) (W := W1) ?_ hbA⟩
    repeat (first | exact bl_refl _ | refine bl_alloc ?_ _ | refine bl_drew ?_ | refine bl_drewN ?_ _ | refine bl_step (by assumption) ?_)
  | mul l r ihl ihr =>
    intro w ht
    obtain ⟨hl0, hr0⟩ : l.ok ∧ r.ok := ho
    have e : (Ob.mul l r).text = callS ⟨#[109, 117, 108]⟩ [l.text, r.text] := rfl
    rw [e] at hs ⊢
    rw [callS_two] at hs
    have hbs := bs_str2
    have hl := ihl hl0 hp.1 (by omega)
    have hr := ihr hr0 hp.2 (by omega)
    clear ihl ihr e hp
    generalize l.text = s at *
    generalize r.text = t at *
    unfold Ob.val
    go_enter Tryz.func144, Tryz.ntmps144
    go_wp2_with fail
    have hbA := bl_alloc (bl_refl w) (.cells #[l.val, r.val] 36)
    have hc0 := alloc_cell w #[l.val, r.val] 36 0 (l.val) rfl
    have hc1 := alloc_cell w #[l.val, r.val] 36 1 (r.val) rfl
    have hlt := alloc_lt w (.cells #[l.val, r.val] 36)
    change Code.wp _ _ _ _ (w.alloc (.cells #[l.val, r.val] 36))
    generalize (w.alloc (.cells #[l.val, r.val] 36)) = W1 at *
    have htA := ht.below hbA
    clear ht
    go_region_held3 (fun w' => w'.cell? ⟨w.heap.size, 0, none⟩ = some l.val ∧ w'.cell? ⟨w.heap.size, 1, none⟩ = some r.val) (first | go_keep | (go_split_ands; constructor <;> (refine cell_belowB (by assumption) (by simp; omega) ?_; assumption))) (first | (go_at_call_of 144 (l.val); refine (hl _ (htA.below (by repeat (first | exact bl_refl _ | refine bl_alloc ?_ _ | refine bl_drew ?_ | refine bl_drewN ?_ _ | refine bl_step (by assumption) ?_)))).mono ?_; rintro e w1 ⟨rfl, hb1⟩; have hlt1 := Nat.lt_of_lt_of_le hlt hb1.size) | (go_at_call_of 144 (r.val); refine (hr _ (htA.below (by repeat (first | exact bl_refl _ | refine bl_alloc ?_ _ | refine bl_drew ?_ | refine bl_drewN ?_ _ | refine bl_step (by assumption) ?_)))).mono ?_; rintro e w2 ⟨rfl, hb2⟩; have hlt2 := Nat.lt_of_lt_of_le hlt1 hb2.size) | (go_at_call 143; refine (call_two _ _ _ _ (by decide) (by omega) _ (by simp)).mono ?_; rintro e w3 ⟨rfl, hb3⟩))
    go_wp2_with fail
    go_ret
    refine ⟨rfl, bl_step (w := w) (W := W1) ?_ hbA⟩
    repeat (first | exact bl_refl _ | refine bl_alloc ?_ _ | refine bl_drew ?_ | refine bl_drewN ?_ _ | refine bl_step (by assumption) ?_)
  | max l r ihl ihr =>
    intro w ht
    obtain ⟨hl0, hr0⟩ : l.ok ∧ r.ok := ho
    have e : (Ob.max l r).text = callS ⟨#[109, 97, 120]⟩ [l.text, r.text] := rfl
    rw [e] at hs ⊢
    rw [callS_two] at hs
    have hbs := bs_str2
    have hl := ihl hl0 hp.1 (by omega)
    have hr := ihr hr0 hp.2 (by omega)
    clear ihl ihr e hp
    generalize l.text = s at *
    generalize r.text = t at *
    unfold Ob.val
    go_enter Tryz.func144, Tryz.ntmps144
    go_wp2_with fail
    have hbA := bl_alloc (bl_refl w) (.cells #[l.val, r.val] 171)
    have hc0 := alloc_cell w #[l.val, r.val] 171 0 (l.val) rfl
    have hc1 := alloc_cell w #[l.val, r.val] 171 1 (r.val) rfl
    have hlt := alloc_lt w (.cells #[l.val, r.val] 171)
    change Code.wp _ _ _ _ (w.alloc (.cells #[l.val, r.val] 171))
    generalize (w.alloc (.cells #[l.val, r.val] 171)) = W1 at *
    have htA := ht.below hbA
    clear ht
    go_region_held3 (fun w' => w'.cell? ⟨w.heap.size, 0, none⟩ = some l.val ∧ w'.cell? ⟨w.heap.size, 1, none⟩ = some r.val) (first | go_keep | (go_split_ands; constructor <;> (refine cell_belowB (by assumption) (by simp; omega) ?_; assumption))) (first | (go_at_call_of 144 (l.val); refine (hl _ (htA.below (by repeat (first | exact bl_refl _ | refine bl_alloc ?_ _ | refine bl_drew ?_ | refine bl_drewN ?_ _ | refine bl_step (by assumption) ?_)))).mono ?_; rintro e w1 ⟨rfl, hb1⟩; have hlt1 := Nat.lt_of_lt_of_le hlt hb1.size) | (go_at_call_of 144 (r.val); refine (hr _ (htA.below (by repeat (first | exact bl_refl _ | refine bl_alloc ?_ _ | refine bl_drew ?_ | refine bl_drewN ?_ _ | refine bl_step (by assumption) ?_)))).mono ?_; rintro e w2 ⟨rfl, hb2⟩; have hlt2 := Nat.lt_of_lt_of_le hlt1 hb2.size) | (go_at_call 143; refine (call_two _ _ _ _ (by decide) (by omega) _ (by simp)).mono ?_; rintro e w3 ⟨rfl, hb3⟩))
    go_wp2_with fail
    go_ret
    refine ⟨rfl, bl_step (w := w) (W := W1) ?_ hbA⟩
    repeat (first | exact bl_refl _ | refine bl_alloc ?_ _ | refine bl_drew ?_ | refine bl_drewN ?_ _ | refine bl_step (by assumption) ?_)
end Go.Proofs.YtnekcijganhknaaGreatDoor
namespace Go.Proofs.YtnekcijganhknaaGreatDoor
open Go.RowKit
set_option linter.unusedVariables false
set_option linter.unusedSimpArgs false

def Tm.plain : Tm → Prop
  | .zero | .one _ => True
  | .give t | .when_ _ t => t.plain
  | .and l r | .or _ l r => l.plain ∧ r.plain
  | .scale o t => o.plain ∧ t.plain
  | .if_ o l r => o.plain ∧ l.plain ∧ r.plain
  | .odd _ => False
theorem Tm.form_plain : ∀ o : Tm, o.form = true → o.plain
  | .zero, _ | .one _, _ => trivial
  | .give t, h => t.form_plain h
  | .when_ _ t, h => by
    simp only [Tm.form, Bool.and_eq_true] at h
    exact t.form_plain h.2
  | .and l r, h => by
    simp only [Tm.form, Bool.and_eq_true] at h
    exact ⟨l.form_plain h.1, r.form_plain h.2⟩
  | .or _ l r, h => by
    simp only [Tm.form, Bool.and_eq_true] at h
    exact ⟨l.form_plain h.2.1, r.form_plain h.2.2⟩
  | .scale o t, h => by
    simp only [Tm.form, Bool.and_eq_true] at h
    exact ⟨o.form_plain h.1, t.form_plain h.2⟩
  | .if_ o l r, h => by
    simp only [Tm.form, Bool.and_eq_true] at h
    exact ⟨o.form_plain h.1, l.form_plain h.2.1, r.form_plain h.2.2⟩
  | .odd _, h => by cases h
def Tm.text : Tm → ByteArray
  | .zero => ⟨#[122, 101, 114, 111]⟩
  | .one s => callS ⟨#[111, 110, 101]⟩ [s]
  | .give t => callS ⟨#[103, 105, 118, 101]⟩ [t.text]
  | .and l r => callS ⟨#[97, 110, 100]⟩ [l.text, r.text]
  | .or s l r => callS ⟨#[111, 114]⟩ [s, l.text, r.text]
  | .scale o t => callS ⟨#[115, 99, 97, 108, 101]⟩ [o.text, t.text]
  | .when_ n t => callS ⟨#[119, 104, 101, 110]⟩ [itoaS n, t.text]
  | .if_ o l r => callS ⟨#[105, 102]⟩ [o.text, l.text, r.text]
  | .odd _ => ⟨#[]⟩
set_option maxRecDepth 100000 in
set_option maxHeartbeats 8000000 in
theorem contract_calls (o : Tm) (ho : o.ok) (hp : o.plain) (hs : o.text.size ≤ 1099511627000) : ∀ (w : World), TabOk w →
    Calls Tryz.prog 128 #[o.val] w fun e w' => e = .returned (.string o.text) ∧ Below w.heap.size w w' := by
  induction o with
  | odd v => exact hp.elim
  | zero =>
    intro w ht
    unfold Tm.val
    go_enter Tryz.func128, Tryz.ntmps128
    go_wp2_with fail
    go_ret
    refine ⟨rfl, ?_⟩
    repeat (first | exact bl_refl _ | refine bl_alloc ?_ _ | refine bl_drew ?_ | refine bl_drewN ?_ _ | refine bl_step (by assumption) ?_)
  | one s =>
    intro w ht
    have e : (Tm.one s).text = callS ⟨#[111, 110, 101]⟩ [s] := rfl
    rw [e] at hs ⊢
    rw [callS_one] at hs
    have hbs := bs_str1
    unfold Tm.val
    go_enter Tryz.func128, Tryz.ntmps128
    go_wp2_with fail
    refine (call_one _ _ _ (by decide) (by omega) _ (by simp)).mono ?_
    rintro e w1 ⟨rfl, hb1⟩
    go_wp2_with fail
    go_ret
    refine ⟨rfl, ?_⟩
    repeat (first | exact bl_refl _ | refine bl_alloc ?_ _ | refine bl_drew ?_ | refine bl_drewN ?_ _ | refine bl_step (by assumption) ?_)
  | give t ih =>
    intro w ht
    have hl0 : t.ok := ho
    have e : (Tm.give t).text = callS ⟨#[103, 105, 118, 101]⟩ [t.text] := rfl
    rw [e] at hs ⊢
    rw [callS_one] at hs
    have hbs := bs_str1
    have hl := ih hl0 hp (by omega)
    clear ih
    generalize t.text = s at *
    unfold Tm.val
    go_enter Tryz.func128, Tryz.ntmps128
    go_wp2_with fail
    refine (hl _ (ht.below ?_)).mono ?_
    ·
      repeat (first | exact bl_refl _ | refine bl_alloc ?_ _ | refine bl_drew ?_ | refine bl_drewN ?_ _ | refine bl_step (by assumption) ?_)
    rintro e w1 ⟨rfl, hb1⟩
    go_wp2_with fail
    refine (call_one _ _ _ (by decide) (by omega) _ (by simp)).mono ?_
    rintro e w2 ⟨rfl, hb2⟩
    go_wp2_with fail
    go_ret
    refine ⟨rfl, ?_⟩
    repeat (first | exact bl_refl _ | refine bl_alloc ?_ _ | refine bl_drew ?_ | refine bl_drewN ?_ _ | refine bl_step (by assumption) ?_)
  | and l r ihl ihr =>
    intro w ht
    obtain ⟨hl0, hr0⟩ : l.ok ∧ r.ok := ho
    have e : (Tm.and l r).text = callS ⟨#[97, 110, 100]⟩ [l.text, r.text] := rfl
    rw [e] at hs ⊢
    rw [callS_two] at hs
    have hbs := bs_str2
    have hl := ihl hl0 hp.1 (by omega)
    have hr := ihr hr0 hp.2 (by omega)
    clear ihl ihr e hp
    generalize l.text = s at *
    generalize r.text = t at *
    unfold Tm.val
    go_enter Tryz.func128, Tryz.ntmps128
    go_wp2_with fail
    have hbA := bl_alloc (bl_refl w) (.cells #[l.val, r.val] 126)
    have hc0 := alloc_cell w #[l.val, r.val] 126 0 (l.val) rfl
    have hc1 := alloc_cell w #[l.val, r.val] 126 1 (r.val) rfl
    have hlt := alloc_lt w (.cells #[l.val, r.val] 126)
    change Code.wp _ _ _ _ (w.alloc (.cells #[l.val, r.val] 126))
    generalize (w.alloc (.cells #[l.val, r.val] 126)) = W1 at *
    have htA := ht.below hbA
    clear ht
    go_region_held3 (fun w' => w'.cell? ⟨w.heap.size, 0, none⟩ = some l.val ∧ w'.cell? ⟨w.heap.size, 1, none⟩ = some r.val) (first | go_keep | (go_split_ands; constructor <;> (refine cell_belowB (by assumption) (by simp; omega) ?_; assumption))) (first | (go_at_call_of 128 (l.val); refine (hl _ (htA.below (by repeat (first | exact bl_refl _ | refine bl_alloc ?_ _ | refine bl_drew ?_ | refine bl_drewN ?_ _ | refine bl_step (by assumption) ?_)))).mono ?_; rintro e w1 ⟨rfl, hb1⟩; have hlt1 := Nat.lt_of_lt_of_le hlt hb1.size) | (go_at_call_of 128 (r.val); refine (hr _ (htA.below (by repeat (first | exact bl_refl _ | refine bl_alloc ?_ _ | refine bl_drew ?_ | refine bl_drewN ?_ _ | refine bl_step (by assumption) ?_)))).mono ?_; rintro e w2 ⟨rfl, hb2⟩; have hlt2 := Nat.lt_of_lt_of_le hlt1 hb2.size) | (go_at_call 143; refine (call_two _ _ _ _ (by decide) (by omega) _ (by simp)).mono ?_; rintro e w3 ⟨rfl, hb3⟩))
    go_wp2_with fail
    go_ret
    refine ⟨rfl, bl_step (w := w) (W := W1) ?_ hbA⟩
    repeat (first | exact bl_refl _ | refine bl_alloc ?_ _ | refine bl_drew ?_ | refine bl_drewN ?_ _ | refine bl_step (by assumption) ?_)
  | scale q r ihr =>
    intro w ht
    obtain ⟨hl0, hr0⟩ : q.ok ∧ r.ok := ho
    have e : (Tm.scale q r).text = callS ⟨#[115, 99, 97, 108, 101]⟩ [q.text, r.text] := rfl
    rw [e] at hs ⊢
    rw [callS_two] at hs
    have hbs := bs_str2
    have hl := number_calls q hl0 hp.1 (by omega)
    have hr := ihr hr0 hp.2 (by omega)
    clear ihr e hp
    generalize q.text = s at *
    generalize r.text = t at *
    unfold Tm.val
    go_enter Tryz.func128, Tryz.ntmps128
    go_wp2_with fail
    have hbA := bl_alloc (bl_refl w) (.cells #[q.val, r.val] 32)
    have hc0 := alloc_cell w #[q.val, r.val] 32 0 (q.val) rfl
    have hc1 := alloc_cell w #[q.val, r.val] 32 1 (r.val) rfl
    have hlt := alloc_lt w (.cells #[q.val, r.val] 32)
    change Code.wp _ _ _ _ (w.alloc (.cells #[q.val, r.val] 32))
    generalize (w.alloc (.cells #[q.val, r.val] 32)) = W1 at *
    have htA := ht.below hbA
    clear ht
    go_region_held3 (fun w' => w'.cell? ⟨w.heap.size, 0, none⟩ = some q.val ∧ w'.cell? ⟨w.heap.size, 1, none⟩ = some r.val) (first | go_keep | (go_split_ands; constructor <;> (refine cell_belowB (by assumption) (by simp; omega) ?_; assumption))) (first | (go_at_call_of 144 (q.val); refine (hl _ (htA.below (by repeat (first | exact bl_refl _ | refine bl_alloc ?_ _ | refine bl_drew ?_ | refine bl_drewN ?_ _ | refine bl_step (by assumption) ?_)))).mono ?_; rintro e w1 ⟨rfl, hb1⟩; have hlt1 := Nat.lt_of_lt_of_le hlt hb1.size) | (go_at_call_of 128 (r.val); refine (hr _ (htA.below (by repeat (first | exact bl_refl _ | refine bl_alloc ?_ _ | refine bl_drew ?_ | refine bl_drewN ?_ _ | refine bl_step (by assumption) ?_)))).mono ?_; rintro e w2 ⟨rfl, hb2⟩; have hlt2 := Nat.lt_of_lt_of_le hlt1 hb2.size) | (go_at_call 143; refine (call_two _ _ _ _ (by decide) (by omega) _ (by simp)).mono ?_; rintro e w3 ⟨rfl, hb3⟩))
    go_wp2_with fail
    go_ret
    refine ⟨rfl, bl_step (w := w) (W := W1) ?_ hbA⟩
    repeat (first | exact bl_refl _ | refine bl_alloc ?_ _ | refine bl_drew ?_ | refine bl_drewN ?_ _ | refine bl_step (by assumption) ?_)
  | when_ n r ihr =>
    intro w ht
    obtain ⟨hl0, hr0⟩ : (-9223372036854775808 ≤ n ∧ n < 9223372036854775808) ∧ r.ok := ho
    have e : (Tm.when_ n r).text = callS ⟨#[119, 104, 101, 110]⟩ [itoaS n, r.text] := rfl
    rw [e] at hs ⊢
    rw [callS_two] at hs
    have hbs := bs_str2
    have hl := fun w ht => itoa_calls n hl0.1 hl0.2 w ht
    have hr := ihr hr0 hp (by omega)
    clear ihr e hp
    generalize itoaS n = s at *
    generalize r.text = t at *
    unfold Tm.val
    go_enter Tryz.func128, Tryz.ntmps128
    go_wp2_with fail
    have hbA := bl_alloc (bl_refl w) (.cells #[.int .i64 n, r.val] 80)
    have hc0 := alloc_cell w #[.int .i64 n, r.val] 80 0 (.int .i64 n) rfl
    have hc1 := alloc_cell w #[.int .i64 n, r.val] 80 1 (r.val) rfl
    have hlt := alloc_lt w (.cells #[.int .i64 n, r.val] 80)
    change Code.wp _ _ _ _ (w.alloc (.cells #[.int .i64 n, r.val] 80))
    generalize (w.alloc (.cells #[.int .i64 n, r.val] 80)) = W1 at *
    have htA := ht.below hbA
    clear ht
    go_region_held3 (fun w' => w'.cell? ⟨w.heap.size, 0, none⟩ = some (.int .i64 n) ∧ w'.cell? ⟨w.heap.size, 1, none⟩ = some r.val) (first | go_keep | (go_split_ands; constructor <;> (refine cell_belowB (by assumption) (by simp; omega) ?_; assumption))) (first | (go_at_call_of 145 ((Value.int .i64 n)); refine (hl _ (htA.below (by repeat (first | exact bl_refl _ | refine bl_alloc ?_ _ | refine bl_drew ?_ | refine bl_drewN ?_ _ | refine bl_step (by assumption) ?_)))).mono ?_; rintro e w1 ⟨rfl, hb1⟩; have hlt1 := Nat.lt_of_lt_of_le hlt hb1.size) | (go_at_call_of 128 (r.val); refine (hr _ (htA.below (by repeat (first | exact bl_refl _ | refine bl_alloc ?_ _ | refine bl_drew ?_ | refine bl_drewN ?_ _ | refine bl_step (by assumption) ?_)))).mono ?_; rintro e w2 ⟨rfl, hb2⟩; have hlt2 := Nat.lt_of_lt_of_le hlt1 hb2.size) | (go_at_call 143; refine (call_two _ _ _ _ (by decide) (by omega) _ (by simp)).mono ?_; rintro e w3 ⟨rfl, hb3⟩))
    go_wp2_with fail
    go_ret
    refine ⟨rfl, bl_step (w := w) (W := W1) ?_ hbA⟩
    repeat (first | exact bl_refl _ | refine bl_alloc ?_ _ | refine bl_drew ?_ | refine bl_drewN ?_ _ | refine bl_step (by assumption) ?_)
  | or u l r ihl ihr =>
    intro w ht
    obtain ⟨_, hl0, hr0⟩ : _ ∧ l.ok ∧ r.ok := ho
    have e : (Tm.or u l r).text = callS ⟨#[111, 114]⟩ [u, l.text, r.text] := rfl
    rw [e] at hs ⊢
    rw [callS_three] at hs
    have hbs := bs_str3
    have hl := ihl hl0 hp.1 (by omega)
    have hr := ihr hr0 hp.2 (by omega)
    clear ihl ihr e hp
    generalize l.text = s at *
    generalize r.text = t at *
    unfold Tm.val
    go_enter Tryz.func128, Tryz.ntmps128
    go_wp2_with fail
    have hbA := bl_alloc (bl_refl w) (.cells #[.string u, l.val, r.val] 78)
    have hc0 := alloc_cell w #[.string u, l.val, r.val] 78 0 (.string u) rfl
    have hc1 := alloc_cell w #[.string u, l.val, r.val] 78 1 (l.val) rfl
    have hc2 := alloc_cell w #[.string u, l.val, r.val] 78 2 (r.val) rfl
    have hlt := alloc_lt w (.cells #[.string u, l.val, r.val] 78)
    change Code.wp _ _ _ _ (w.alloc (.cells #[.string u, l.val, r.val] 78))
    generalize (w.alloc (.cells #[.string u, l.val, r.val] 78)) = W1 at *
    have htA := ht.below hbA
    clear ht
    go_region_held3 (fun w' => w'.cell? ⟨w.heap.size, 0, none⟩ = some (.string u) ∧ w'.cell? ⟨w.heap.size, 1, none⟩ = some l.val ∧ w'.cell? ⟨w.heap.size, 2, none⟩ = some r.val) (first | go_keep | (go_split_ands; refine ⟨?_, ?_, ?_⟩ <;> (refine cell_belowB (by assumption) (by simp; omega) ?_; assumption))) (first | (go_at_call_of 128 (l.val); refine (hl _ (htA.below (by repeat (first | exact bl_refl _ | refine bl_alloc ?_ _ | refine bl_drew ?_ | refine bl_drewN ?_ _ | refine bl_step (by assumption) ?_)))).mono ?_; rintro e w1 ⟨rfl, hb1⟩; have hlt1 := Nat.lt_of_lt_of_le hlt hb1.size) | (go_at_call_of 128 (r.val); refine (hr _ (htA.below (by repeat (first | exact bl_refl _ | refine bl_alloc ?_ _ | refine bl_drew ?_ | refine bl_drewN ?_ _ | refine bl_step (by assumption) ?_)))).mono ?_; rintro e w2 ⟨rfl, hb2⟩; have hlt2 := Nat.lt_of_lt_of_le hlt1 hb2.size) | (go_at_call 143; refine (call_three _ _ _ _ _ (by decide) (by omega) _ (by simp)).mono ?_; rintro e w3 ⟨rfl, hb3⟩))
    go_wp2_with fail
    go_ret
    refine ⟨rfl, bl_step (w := w) (W := W1) ?_ hbA⟩
    repeat (first | exact bl_refl _ | refine bl_alloc ?_ _ | refine bl_drew ?_ | refine bl_drewN ?_ _ | refine bl_step (by assumption) ?_)
  | if_ q l r ihl ihr =>
    intro w ht
    obtain ⟨hq0, hl0, hr0⟩ : q.ok ∧ l.ok ∧ r.ok := ho
    have e : (Tm.if_ q l r).text = callS ⟨#[105, 102]⟩ [q.text, l.text, r.text] := rfl
    rw [e] at hs ⊢
    rw [callS_three] at hs
    have hbs := bs_str3
    have hq := number_calls q hq0 hp.1 (by omega)
    have hl := ihl hl0 hp.2.1 (by omega)
    have hr := ihr hr0 hp.2.2 (by omega)
    clear ihl ihr e hp
    generalize q.text = u at *
    generalize l.text = s at *
    generalize r.text = t at *
    unfold Tm.val
    go_enter Tryz.func128, Tryz.ntmps128
    go_wp2_with fail
    have hbA := bl_alloc (bl_refl w) (.cells #[q.val, l.val, r.val] 129)
    have hc0 := alloc_cell w #[q.val, l.val, r.val] 129 0 (q.val) rfl
    have hc1 := alloc_cell w #[q.val, l.val, r.val] 129 1 (l.val) rfl
    have hc2 := alloc_cell w #[q.val, l.val, r.val] 129 2 (r.val) rfl
    have hlt := alloc_lt w (.cells #[q.val, l.val, r.val] 129)
    change Code.wp _ _ _ _ (w.alloc (.cells #[q.val, l.val, r.val] 129))
    generalize (w.alloc (.cells #[q.val, l.val, r.val] 129)) = W1 at *
    have htA := ht.below hbA
    clear ht
    go_region_held3 (fun w' => w'.cell? ⟨w.heap.size, 0, none⟩ = some q.val ∧ w'.cell? ⟨w.heap.size, 1, none⟩ = some l.val ∧ w'.cell? ⟨w.heap.size, 2, none⟩ = some r.val) (first | go_keep | (go_split_ands; refine ⟨?_, ?_, ?_⟩ <;> (refine cell_belowB (by assumption) (by simp; omega) ?_; assumption))) (first | (go_at_call_of 144 (q.val); refine (hq _ (htA.below (by repeat (first | exact bl_refl _ | refine bl_alloc ?_ _ | refine bl_drew ?_ | refine bl_drewN ?_ _ | refine bl_step (by assumption) ?_)))).mono ?_; rintro e w1 ⟨rfl, hb1⟩; have hlt1 := Nat.lt_of_lt_of_le hlt hb1.size) | (go_at_call_of 128 (l.val); refine (hl _ (htA.below (by repeat (first | exact bl_refl _ | refine bl_alloc ?_ _ | refine bl_drew ?_ | refine bl_drewN ?_ _ | refine bl_step (by assumption) ?_)))).mono ?_; rintro e w2 ⟨rfl, hb2⟩; have hlt2 := Nat.lt_of_lt_of_le hlt1 hb2.size) | (go_at_call_of 128 (r.val); refine (hr _ (htA.below (by repeat (first | exact bl_refl _ | refine bl_alloc ?_ _ | refine bl_drew ?_ | refine bl_drewN ?_ _ | refine bl_step (by assumption) ?_)))).mono ?_; rintro e w4 ⟨rfl, hb4⟩; have hlt4 := Nat.lt_of_lt_of_le hlt2 hb4.size) | (go_at_call 143; refine (call_three _ _ _ _ _ (by decide) (by omega) _ (by simp)).mono ?_; rintro e w3 ⟨rfl, hb3⟩))
    go_wp2_with fail
    go_ret
    refine ⟨rfl, bl_step (w := w) (W := W1) ?_ hbA⟩
    repeat (first | exact bl_refl _ | refine bl_alloc ?_ _ | refine bl_drew ?_ | refine bl_drewN ?_ _ | refine bl_step (by assumption) ?_)
end Go.Proofs.YtnekcijganhknaaGreatDoor
namespace Go.Proofs.YtnekcijganhknaaGreatDoor
open Go.RowKit
set_option linter.unusedVariables false
set_option linter.unusedSimpArgs false

/-! How long a text may be. -/
theorem decode_wide (s : ByteArray) (i : Nat) : (Utf8.decode s i).2 ≤ 4 := by
  simp only [Utf8.decode]
  repeat' split
  all_goals simp
theorem runesF_cover (s : ByteArray) : ∀ b pos, s.size ≤ pos + b → s.size ≤ pos + 4 * (runesF s b pos).length
  | 0, pos, h => by simp [runesF]; omega
  | b + 1, pos, h => by
    by_cases hp : pos < s.size
    · rw [runesF_step s b pos hp]
      have h1 := width_pos s pos hp
      have h2 := decode_wide s pos
      have := runesF_cover s b (pos + (Utf8.decode s pos).2) (by omega)
      simp only [List.length_cons]; omega
    · omega
theorem nameF_len : ∀ (l : List Int) (n : Nat), n ≤ 12 → nameF n l = true → n + l.length ≤ 12
  | [], n, h, _ => by simpa using h
  | r :: l, n, h, hn => by
    unfold nameF at hn
    split at hn
    · cases hn
    · rename_i hc
      have h13 : ¬ 12 < n + 1 := fun h => hc (by simp [h])
      have := nameF_len l (n + 1) (by omega) hn
      simp only [List.length_cons]; omega
theorem name_size (s : ByteArray) (h : nameB s = true) : s.size ≤ 48 := by
  have h1 := nameF_len (runesL s) 0 (by omega) h
  have h2 := runesF_cover s s.size 0 (by omega)
  unfold runesL at h1
  omega
theorem itoaS_size (n : Int) (h0 : -9223372036854775808 ≤ n) (h1 : n < 9223372036854775808) : (itoaS n).size ≤ 21 := by
  unfold itoaS
  rw [ba_size]
  exact Lib.itoa_length_le n h0 (by omega)
theorem Ob.text_size : ∀ o : Ob, o.ok → o.form = true → o.text.size ≤ 60 * o.nodes
  | .const n, ho, _ => by have := itoaS_size n ho.1 ho.2; simp only [Ob.text, Ob.nodes]; omega
  | .fix s, _, h => by have := name_size s h; simp only [Ob.text, Ob.nodes, callS_one]; have e : (⟨#[102, 105, 120]⟩ : ByteArray).size = 3 := rfl; omega
  | .add l r, ho, h | .mul l r, ho, h | .max l r, ho, h => by
    simp only [Ob.form, Bool.and_eq_true] at h
    have h1 := l.text_size ho.1 h.1; have h2 := r.text_size ho.2 h.2
    simp only [Ob.text, Ob.nodes, callS_two]
    have e : (⟨#[97, 100, 100]⟩ : ByteArray).size = 3 := rfl
    have e : (⟨#[109, 117, 108]⟩ : ByteArray).size = 3 := rfl
    have e : (⟨#[109, 97, 120]⟩ : ByteArray).size = 3 := rfl
    omega
  | .neg o, ho, h => by
    have h1 := o.text_size ho h
    simp only [Ob.text, Ob.nodes, callS_one]
    have e : (⟨#[110, 101, 103]⟩ : ByteArray).size = 3 := rfl
    omega
  | .odd _, _, h => by cases h
theorem Tm.text_size : ∀ o : Tm, o.ok → o.form = true → o.text.size ≤ 60 * o.nodes
  | .zero, _, _ => by simp only [Tm.text, Tm.nodes]; have e : (⟨#[122, 101, 114, 111]⟩ : ByteArray).size = 4 := rfl; omega
  | .one s, _, h => by have := name_size s h; simp only [Tm.text, Tm.nodes, callS_one]; have e : (⟨#[111, 110, 101]⟩ : ByteArray).size = 3 := rfl; omega
  | .give t, ho, h => by
    have h1 := t.text_size ho h
    simp only [Tm.text, Tm.nodes, callS_one]
    have e : (⟨#[103, 105, 118, 101]⟩ : ByteArray).size = 4 := rfl
    omega
  | .and l r, ho, h => by
    simp only [Tm.form, Bool.and_eq_true] at h
    have h1 := l.text_size ho.1 h.1; have h2 := r.text_size ho.2 h.2
    simp only [Tm.text, Tm.nodes, callS_two]
    have e : (⟨#[97, 110, 100]⟩ : ByteArray).size = 3 := rfl
    omega
  | .or s l r, ho, h => by
    simp only [Tm.form, Bool.and_eq_true] at h
    have h0 := name_size s h.1
    have h1 := l.text_size ho.2.1 h.2.1; have h2 := r.text_size ho.2.2 h.2.2
    simp only [Tm.text, Tm.nodes, callS_three]
    have e : (⟨#[111, 114]⟩ : ByteArray).size = 2 := rfl
    omega
  | .scale o t, ho, h => by
    simp only [Tm.form, Bool.and_eq_true] at h
    have h1 := o.text_size ho.1 h.1; have h2 := t.text_size ho.2 h.2
    simp only [Tm.text, Tm.nodes, callS_two]
    have e : (⟨#[115, 99, 97, 108, 101]⟩ : ByteArray).size = 5 := rfl
    omega
  | .when_ n t, ho, h => by
    simp only [Tm.form, Bool.and_eq_true] at h
    have h1 := itoaS_size n ho.1.1 ho.1.2; have h2 := t.text_size ho.2 h.2
    simp only [Tm.text, Tm.nodes, callS_two]
    have e : (⟨#[119, 104, 101, 110]⟩ : ByteArray).size = 4 := rfl
    omega
  | .if_ o l r, ho, h => by
    simp only [Tm.form, Bool.and_eq_true] at h
    have h0 := o.text_size ho.1 h.1
    have h1 := l.text_size ho.2.1 h.2.1; have h2 := r.text_size ho.2.2 h.2.2
    simp only [Tm.text, Tm.nodes, callS_three]
    have e : (⟨#[105, 102]⟩ : ByteArray).size = 2 := rfl
    omega
  | .odd _, _, h => by cases h
theorem Ob.check_zero (o : Ob) (h : o.check = 0) : o.form = true ∧ o.nodes ≤ 60 ∧ o.deep ≤ 12 := by
  unfold Ob.check at h
  cases hf : o.form with
  | false => rw [hf] at h; simp at h
  | true =>
    rw [hf] at h
    simp only [if_true] at h
    split at h
    · cases h
    · exact ⟨rfl, by omega, by omega⟩
theorem Tm.check_zero (o : Tm) (h : o.check = 0) : o.form = true ∧ o.nodes ≤ 60 ∧ o.deep ≤ 12 ∧ dupL o.labels = false := by
  unfold Tm.check at h
  cases hf : o.form with
  | false => rw [hf] at h; simp at h
  | true =>
    rw [hf] at h
    simp only [if_true] at h
    split at h
    · cases h
    · split at h
      · cases h
      · rename_i hd; exact ⟨rfl, by omega, by omega, by simpa using hd⟩

/-- A text, if it is not too long. -/
def toldS (s : ByteArray) : ByteArray × Int := if 1000 < s.size then (⟨#[]⟩, 5) else (s, 0)
def pairS (p : ByteArray × Int) : Value := .tuple #[.string p.1, .int .i64 p.2]
theorem told_calls (s : ByteArray) (hs : s.size ≤ 1099511627776) (w : World) :
    Calls Tryz.prog 127 #[.string s] w fun e w' => e = .returned (.tuple #[.string (toldS s).1, .int .i64 (toldS s).2]) ∧ w = w' := by
  by_cases h : 1000 < s.size
  · have e : toldS s = (⟨#[]⟩, 5) := if_pos h
    rw [e]
    clear e
    go_enter Tryz.func127, Tryz.ntmps127
    go_wp2_with fail
    go_ret2
    exact ⟨rfl, rfl⟩
  · have e : toldS s = (s, 0) := if_neg h
    have h' : s.size ≤ 1000 := by omega
    rw [e]
    clear e
    go_enter Tryz.func127, Tryz.ntmps127
    go_wp2_with fail
    go_ret2
    exact ⟨rfl, rfl⟩
def Tm.write (t : Tm) : ByteArray × Int := if t.check = 0 then toldS t.text else (⟨#[]⟩, t.check)
def Ob.write (t : Ob) : ByteArray × Int := if t.check = 0 then toldS t.text else (⟨#[]⟩, t.check)
set_option maxRecDepth 100000 in
set_option maxHeartbeats 1000000 in
theorem twrite_calls (o : Tm) (ho : o.ok) (hm : o.meas ≤ 1099511627776) (w : World) (ht : TabOk w) :
    Calls Tryz.prog 101 #[o.val] w fun e w' => e = .returned (.tuple #[.string o.write.1, .int .i64 o.write.2]) ∧ Below w.heap.size w w' := by
  have hck := tcheck_calls o ho hm
  by_cases h : o.check = 0
  · have e : o.write = toldS o.text := if_pos h
    have hz := o.check_zero h
    have hts := o.text_size ho hz.1
    have hcc := contract_calls o ho (o.form_plain hz.1) (by omega)
    have htd := told_calls o.text (by omega)
    rw [h] at hck
    rw [e]
    generalize toldS o.text = ts at *
    generalize o.text = s at *
    clear e h hz
    go_enter Tryz.func101, Tryz.ntmps101
    go_wp2_with fail
    refine (hck _).mono ?_
    rintro e w1 ⟨rfl, hb1⟩
    go_wp2_with fail
    refine (hcc _ (ht.below hb1)).mono ?_
    rintro e w2 ⟨rfl, hb2⟩
    go_wp2_with fail
    refine (htd _).mono ?_
    rintro e w3 ⟨rfl, rfl⟩
    go_wp2_with fail
    go_ret2
    exact ⟨rfl, bl_step hb2 hb1⟩
  · have e : o.write = (⟨#[]⟩, o.check) := if_neg h
    have h' : (o.check != 0) = true := by simp [h]
    rw [e]
    clear e
    generalize o.check = c at *
    clear h
    go_enter Tryz.func101, Tryz.ntmps101
    go_wp2_with fail
    refine (hck _).mono ?_
    rintro e w1 ⟨rfl, hb1⟩
    go_wp2_with fail
    go_ret2
    exact ⟨rfl, hb1⟩
end Go.Proofs.YtnekcijganhknaaGreatDoor
