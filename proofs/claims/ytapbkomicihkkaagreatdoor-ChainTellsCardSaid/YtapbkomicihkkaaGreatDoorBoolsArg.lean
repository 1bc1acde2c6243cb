/- Booleans in a row as an argument: what their data say of the memory. -/
import Derived.Test.YtapbkomicihkkaaGreatDoorCardG
namespace Go.Proofs.YtapbkomicihkkaaGreatDoor
open Go.ChangeShapes Go.WideShapes Go.ChangeAt Go.RowKit
set_option linter.unusedVariables false
set_option linter.unusedSimpArgs false

def bools (l : List Bool) : List Value := l.map (.bool ·)
theorem bools_get (l : List Bool) (m : Nat) (b : Bool) (h : l[m]? = some b) : (bools l)[m]? = some (.bool b) := by unfold bools; rw [List.getElem?_map, h]; rfl
theorem bytesOf_bool : Tryz.prog.bytesOf 4 = 1 := by kernel_rfl
section
variable {H : Type} {enc : TypeId × Value → H} {W : World}
set_option maxRecDepth 100000 in
theorem open_bools {base : Nat} {v : Value} {d : DataW H} {ps : List MemPlace} {ts : List TypeId} {ds : List (DataW H)} {j : Nat} (hval : Value.okWide Tryz.prog W .any base 53 v) (h : DataW.Trod enc Tryz.prog W 0 (fun _ => true) true 53 v d ps)
    (hsz : (DataW.weightsEach Tryz.prog ts ds).all (· ≤ reachBytes) = true) (ht : ts[j]? = some 53) (hd : ds[j]? = some d) :
    ∃ (A : Option Addr) (n c : Nat) (bs : List Bool), v = .slice A n c ∧ bs.length = n ∧ n ≤ 140737488355328 ∧ Rd W A (bools bs) := by
  obtain ⟨A, len, cap, rfl⟩ := okWide_slice Tryz.underlying53 hval
  obtain ⟨fuel, hf⟩ := h
  have hs : (DataW.weights Tryz.prog 53 d).all (· ≤ reachBytes) = true := List.all_eq_true.2 fun k hk => List.all_eq_true.1 hsz k (DataW.weights_mem_each ht hd k hk)
  rcases DataW.trod_slice Tryz.underlying53 hf with ⟨e, _⟩ | ⟨a, len', cap', elems, rest, n, _, e, hx, _, hlc, _, hel, hget, _, _⟩
  · simp [Value.cells] at e
    obtain ⟨rfl, rfl, rfl⟩ := e
    exact ⟨none, 0, 0, [], rfl, rfl, by omega, Rd.nil _ _⟩
  · simp [Value.cells] at e
    obtain ⟨rfl, rfl, rfl⟩ := e
    have hC : Tryz.prog.cellsOf 4 = 1 := by kernel_rfl
    rw [hC] at hget
    have hx1 : d = .slice (elems.map (·.1)) (rest.map (·.1)) := congrArg Prod.fst hx
    have hn : len ≤ 140737488355328 := by
      have hm : ((elems.map (·.1)).length + (rest.map (·.1)).length) * Tryz.prog.bytesOf 4 ∈ DataW.weights Tryz.prog 53 d := by
        rw [hx1]
        unfold DataW.weights
        rw [Tryz.underlying53]
        exact List.mem_cons_self
      have h2 := of_decide_eq_true (List.all_eq_true.1 hs _ hm)
      rw [bytesOf_bool, List.length_map, hel] at h2
      have hr : reachBytes = 140737488351232 := rfl
      omega
    have hall : ∀ i, i < len → ∃ y : Bool, W.cell? (a.add i) = some (.bool y) := fun i hi => by
      have hg := hget i hi
      rw [List.getElem?_eq_getElem (by omega)] at hg
      obtain ⟨cs, hcs, htr⟩ := Option.bind_eq_some_iff.1 hg
      obtain ⟨y, rfl, -⟩ := DataW.trod_bool Tryz.underlying4 htr
      obtain ⟨_, h8, hc⟩ := World.cells?_some hcs
      have := hc 0 (by omega)
      rw [addr_add_add, Nat.add_zero, Nat.mul_one] at this
      exact ⟨y, this⟩
    obtain ⟨bs, hbl, hb⟩ := list_choice hall
    refine ⟨some a, len, cap, bs, rfl, hbl, hn, fun j v hv => ⟨a, rfl, ?_⟩⟩
    unfold bools at hv
    rw [List.getElem?_map] at hv
    cases hbj : bs[j]? with
    | none => rw [hbj] at hv; cases hv
    | some b =>
      rw [hbj] at hv
      obtain rfl : Value.bool b = v := by simpa using hv
      exact hb j b hbj
end
end Go.Proofs.YtapbkomicihkkaaGreatDoor
