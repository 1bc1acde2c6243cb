/- Bytes: the same ones? copies; numbers as bytes, and back. -/
import Derived.Test.YtapbkomicihkkaaDoorKeep
import Derived.Test.YtapbkomicihkkaaDoorFill
import Derived.Laws.BytesArg
namespace Go.Proofs.YtapbkomicihkkaaDoor
open Go.RowKit
set_option linter.unusedVariables false
set_option linter.unusedSimpArgs false

def str (l : List UInt8) : ByteArray := ⟨l.toArray⟩
theorem str_data (l : List UInt8) : (str l).data.toList = l := by simp [str]
theorem byts_nums (l : List UInt8) : byts l = (l.map fun b => (b.toNat : Int)).map (Value.int .u8) := by simp [byts]
theorem strOfNums_byts (l : List UInt8) : strOfNums (l.map fun b => (b.toNat : Int)) = str l := by
  unfold strOfNums str
  congr 2
  rw [List.map_map]
  conv => rhs; rw [← List.map_id l]
  apply List.map_congr_left
  intro b _
  simp
theorem conv_bytes {P : Program} (w : World) (src e : TypeId) (hs : P.underlying src = some (.slice e)) (he : P.underlying e = some (.int .u8)) (dst : TypeId) (hd : P.underlying dst = some .string)
    (A : Option Addr) (n c : Nat) (l : List UInt8) (hn : l.length = n) (hr : Rd w A (byts l)) : (convert src dst (.slice A n c)).run P w = .ok (.string (str l)) w := by
  subst hn
  cases A with
  | none =>
    cases l with
    | nil => exact run_convert_bytes_nil w src e hs he 0 c dst hd
    | cons b l => obtain ⟨_, e, _⟩ := hr 0 _ (byts_get (b :: l) 0 (by simp)); cases e
  | some ad =>
    have hl : (loadCells ad l.length).run P w = .ok ((l.map fun b => (b.toNat : Int)).map (Value.int .u8)).toArray w := by
      have := run_loadCells_list (P := P) w ad (byts l) (fun j v hj => by
        obtain ⟨ad', e1, hc⟩ := hr j v hj
        cases e1
        exact hc)
      rw [byts_length] at this
      rw [this, byts_nums]
    rw [run_convert_bytes_string w src dst e _ l.length c hs he hd, run_bytesToString w _ l.length c _ hl, foldl_push_bytes, ← strOfNums_byts]
    simp [strOfNums, ByteArray.empty, ByteArray.emptyWithCapacity]
    rfl
theorem str_toList (l : List UInt8) : (str l).toList = l := by rw [ByteArray.toList_eq]; exact str_data l

end Go.Proofs.YtapbkomicihkkaaDoor
