/- LedgerErrors: the table. -/
import Derived.Test.YtnekcijganhknaaGreatDoorLawLEr
import Derived.Test.YtnekcijganhknaaGreatDoorSpG1
import Derived.Test.YtnekcijganhknaaGreatDoorBuild
namespace Go.Proofs.YtnekcijganhknaaGreatDoor
open Go.RowKit
set_option linter.unusedVariables false
set_option linter.unusedSimpArgs false

def erRows (D : Int) : List (Ev × Int × Int) := [(⟨1, ⟨#[]⟩, ⟨#[]⟩, ⟨#[]⟩, ⟨#[]⟩, 0, 0, .odd .nilIface⟩, 2, 1),
  (⟨7, ⟨#[]⟩, ⟨#[]⟩, ⟨#[]⟩, ⟨#[]⟩, 0, 0, .odd .nilIface⟩, 0, 1),
  (⟨2, ⟨#[116]⟩, ⟨#[]⟩, ⟨#[]⟩, ⟨#[]⟩, 0, 0, tFive⟩, 0, 2),
  (⟨2, ⟨#[98, 105, 103]⟩, ⟨#[]⟩, ⟨#[]⟩, ⟨#[]⟩, 0, 0, tBig⟩, 0, 0),
  (⟨2, ⟨#[98, 105, 103]⟩, ⟨#[]⟩, ⟨#[]⟩, ⟨#[]⟩, 0, 0, tOr⟩, 1, 4),
  (⟨2, ⟨#[111, 114]⟩, ⟨#[]⟩, ⟨#[]⟩, ⟨#[]⟩, 0, 0, (tWhen D)⟩, 1, 0),
  (⟨2, ⟨#[111, 118, 101, 114]⟩, ⟨#[]⟩, ⟨#[]⟩, ⟨#[]⟩, 0, 0, tOver⟩, 0, 6),
  (⟨3, ⟨#[]⟩, ⟨#[120]⟩, ⟨#[]⟩, ⟨#[]⟩, 1, 3, .odd .nilIface⟩, 0, 7),
  (⟨3, ⟨#[]⟩, ⟨#[120]⟩, ⟨#[]⟩, ⟨#[]⟩, 0, 2, .odd .nilIface⟩, 0, 6),
  (⟨3, ⟨#[]⟩, ⟨#[120]⟩, ⟨#[]⟩, ⟨#[]⟩, 0, -1, .odd .nilIface⟩, 0, 0),
  (⟨3, ⟨#[]⟩, ⟨#[120]⟩, ⟨#[]⟩, ⟨#[]⟩, 0, -1, .odd .nilIface⟩, 1, 4),
  (⟨4, ⟨#[110, 111]⟩, ⟨#[]⟩, ⟨#[97]⟩, ⟨#[]⟩, 0, 0, .odd .nilIface⟩, 0, 3),
  (⟨4, ⟨#[111, 114]⟩, ⟨#[]⟩, ⟨#[98]⟩, ⟨#[]⟩, 0, 0, .odd .nilIface⟩, 0, 3),
  (⟨4, ⟨#[111, 114]⟩, ⟨#[]⟩, ⟨#[97]⟩, ⟨#[]⟩, 0, 0, .odd .nilIface⟩, 1, 7),
  (⟨5, ⟨#[]⟩, ⟨#[]⟩, ⟨#[]⟩, ⟨#[]⟩, 0, 0, .odd .nilIface⟩, 0, 7),
  (⟨5, ⟨#[]⟩, ⟨#[]⟩, ⟨#[]⟩, ⟨#[]⟩, D, 0, .odd .nilIface⟩, 0, 0),
  (⟨5, ⟨#[]⟩, ⟨#[]⟩, ⟨#[]⟩, ⟨#[]⟩, D, 0, .odd .nilIface⟩, 1, 7),
  (⟨4, ⟨#[111, 114]⟩, ⟨#[]⟩, ⟨#[97]⟩, ⟨#[]⟩, 0, 0, .odd .nilIface⟩, 0, 8),
  (⟨4, ⟨#[111, 114]⟩, ⟨#[]⟩, ⟨#[97]⟩, ⟨#[]⟩, 0, 0, .odd .nilIface⟩, 1, 0),
  (⟨4, ⟨#[111, 114]⟩, ⟨#[]⟩, ⟨#[97]⟩, ⟨#[]⟩, 0, 1, .odd .nilIface⟩, 1, 3),
  (⟨6, ⟨#[]⟩, ⟨#[]⟩, ⟨#[]⟩, ⟨#[117, 115, 100]⟩, (D + 1), -1, .odd .nilIface⟩, 0, 7),
  (⟨6, ⟨#[]⟩, ⟨#[]⟩, ⟨#[]⟩, ⟨#[101, 117, 114]⟩, D, 1, .odd .nilIface⟩, 0, 3),
  (⟨6, ⟨#[]⟩, ⟨#[]⟩, ⟨#[]⟩, ⟨#[117, 115, 100]⟩, D, 1, .odd .nilIface⟩, 0, 1),
  (⟨6, ⟨#[]⟩, ⟨#[]⟩, ⟨#[]⟩, ⟨#[117, 115, 100]⟩, D, -1, .odd .nilIface⟩, 0, 0),
  (⟨6, ⟨#[]⟩, ⟨#[]⟩, ⟨#[]⟩, ⟨#[117, 115, 100]⟩, D, -1, .odd .nilIface⟩, 0, 3),
  (⟨6, ⟨#[]⟩, ⟨#[]⟩, ⟨#[]⟩, ⟨#[117, 115, 100]⟩, 0, -1000000000000, .odd .nilIface⟩, 1, 0)]
def erRow (x : Ev × Int × Int) : List Value := [.int .i64 x.1.kind, .string x.1.id, .string x.1.name, .string x.1.label, .string x.1.cur, .int .i64 x.1.day, .int .i64 x.1.value, x.1.term.val, .int .i64 x.2.1, .int .i64 x.2.2]
theorem erRow_length (x : Ev × Int × Int) : (erRow x).length = 10 := rfl
def erA (x : Ev × Int × Int) : Value := .agg #[.agg #[.int .i64 x.1.kind, .string x.1.id, .string x.1.name, .string x.1.label, .string x.1.cur, .int .i64 x.1.day, .int .i64 x.1.value, x.1.term.val], .int .i64 x.2.1, .int .i64 x.2.2]
@[go_sem ↓] theorem bd_er (parts : Array (Nat × Value)) : Instr.build 91 parts = bdN 91 parts := rfl
@[go_sem] theorem run_bd_er0 (k d v b o : Int) (x1 x2 x3 x4 : ByteArray) (W : World) : (bdN 91 #[(0, .agg #[.int .i64 k, .string x1, .string x2, .string x3, .string x4, .int .i64 d, .int .i64 v, .nilIface]), (1, .int .i64 b), (2, .int .i64 o)]).run Tryz.prog W = .ok (.agg #[.int .i64 k, .string x1, .string x2, .string x3, .string x4, .int .i64 d, .int .i64 v, .nilIface, .int .i64 b, .int .i64 o]) W := by kernel_rfl
@[go_sem] theorem run_bd_er1 (k d v b o : Int) (x1 x2 x3 x4 : ByteArray) (t : TypeId) (x : Value) (W : World) : (bdN 91 #[(0, .agg #[.int .i64 k, .string x1, .string x2, .string x3, .string x4, .int .i64 d, .int .i64 v, .iface t x]), (1, .int .i64 b), (2, .int .i64 o)]).run Tryz.prog W = .ok (.agg #[.int .i64 k, .string x1, .string x2, .string x3, .string x4, .int .i64 d, .int .i64 v, .iface t x, .int .i64 b, .int .i64 o]) W := by kernel_rfl
@[go_sem ↓] theorem bs_er (n : Nat) (parts : Array (Nat × Value)) : Instr.buildSlice 94 n parts = bsN 94 n parts := rfl
def erCells (D D1 : Int) (T0 T1 T2 T3 T4 : TypeId) (X0 X1 X2 X3 X4 : Value) : Array Value := #[.int .i64 (1), .string ⟨#[]⟩, .string ⟨#[]⟩, .string ⟨#[]⟩, .string ⟨#[]⟩, .int .i64 (0), .int .i64 (0), .nilIface, .int .i64 2, .int .i64 1,
  .int .i64 (7), .string ⟨#[]⟩, .string ⟨#[]⟩, .string ⟨#[]⟩, .string ⟨#[]⟩, .int .i64 (0), .int .i64 (0), .nilIface, .int .i64 0, .int .i64 1,
  .int .i64 (2), .string ⟨#[116]⟩, .string ⟨#[]⟩, .string ⟨#[]⟩, .string ⟨#[]⟩, .int .i64 (0), .int .i64 (0), .iface T0 X0, .int .i64 0, .int .i64 2,
  .int .i64 (2), .string ⟨#[98, 105, 103]⟩, .string ⟨#[]⟩, .string ⟨#[]⟩, .string ⟨#[]⟩, .int .i64 (0), .int .i64 (0), .iface T1 X1, .int .i64 0, .int .i64 0,
  .int .i64 (2), .string ⟨#[98, 105, 103]⟩, .string ⟨#[]⟩, .string ⟨#[]⟩, .string ⟨#[]⟩, .int .i64 (0), .int .i64 (0), .iface T2 X2, .int .i64 1, .int .i64 4,
  .int .i64 (2), .string ⟨#[111, 114]⟩, .string ⟨#[]⟩, .string ⟨#[]⟩, .string ⟨#[]⟩, .int .i64 (0), .int .i64 (0), .iface T3 X3, .int .i64 1, .int .i64 0,
  .int .i64 (2), .string ⟨#[111, 118, 101, 114]⟩, .string ⟨#[]⟩, .string ⟨#[]⟩, .string ⟨#[]⟩, .int .i64 (0), .int .i64 (0), .iface T4 X4, .int .i64 0, .int .i64 6,
  .int .i64 (3), .string ⟨#[]⟩, .string ⟨#[120]⟩, .string ⟨#[]⟩, .string ⟨#[]⟩, .int .i64 (1), .int .i64 (3), .nilIface, .int .i64 0, .int .i64 7,
  .int .i64 (3), .string ⟨#[]⟩, .string ⟨#[120]⟩, .string ⟨#[]⟩, .string ⟨#[]⟩, .int .i64 (0), .int .i64 (2), .nilIface, .int .i64 0, .int .i64 6,
  .int .i64 (3), .string ⟨#[]⟩, .string ⟨#[120]⟩, .string ⟨#[]⟩, .string ⟨#[]⟩, .int .i64 (0), .int .i64 (-1), .nilIface, .int .i64 0, .int .i64 0,
  .int .i64 (3), .string ⟨#[]⟩, .string ⟨#[120]⟩, .string ⟨#[]⟩, .string ⟨#[]⟩, .int .i64 (0), .int .i64 (-1), .nilIface, .int .i64 1, .int .i64 4,
  .int .i64 (4), .string ⟨#[110, 111]⟩, .string ⟨#[]⟩, .string ⟨#[97]⟩, .string ⟨#[]⟩, .int .i64 (0), .int .i64 (0), .nilIface, .int .i64 0, .int .i64 3,
  .int .i64 (4), .string ⟨#[111, 114]⟩, .string ⟨#[]⟩, .string ⟨#[98]⟩, .string ⟨#[]⟩, .int .i64 (0), .int .i64 (0), .nilIface, .int .i64 0, .int .i64 3,
  .int .i64 (4), .string ⟨#[111, 114]⟩, .string ⟨#[]⟩, .string ⟨#[97]⟩, .string ⟨#[]⟩, .int .i64 (0), .int .i64 (0), .nilIface, .int .i64 1, .int .i64 7,
  .int .i64 (5), .string ⟨#[]⟩, .string ⟨#[]⟩, .string ⟨#[]⟩, .string ⟨#[]⟩, .int .i64 (0), .int .i64 (0), .nilIface, .int .i64 0, .int .i64 7,
  .int .i64 (5), .string ⟨#[]⟩, .string ⟨#[]⟩, .string ⟨#[]⟩, .string ⟨#[]⟩, .int .i64 (D), .int .i64 (0), .nilIface, .int .i64 0, .int .i64 0,
  .int .i64 (5), .string ⟨#[]⟩, .string ⟨#[]⟩, .string ⟨#[]⟩, .string ⟨#[]⟩, .int .i64 (D), .int .i64 (0), .nilIface, .int .i64 1, .int .i64 7,
  .int .i64 (4), .string ⟨#[111, 114]⟩, .string ⟨#[]⟩, .string ⟨#[97]⟩, .string ⟨#[]⟩, .int .i64 (0), .int .i64 (0), .nilIface, .int .i64 0, .int .i64 8,
  .int .i64 (4), .string ⟨#[111, 114]⟩, .string ⟨#[]⟩, .string ⟨#[97]⟩, .string ⟨#[]⟩, .int .i64 (0), .int .i64 (0), .nilIface, .int .i64 1, .int .i64 0,
  .int .i64 (4), .string ⟨#[111, 114]⟩, .string ⟨#[]⟩, .string ⟨#[97]⟩, .string ⟨#[]⟩, .int .i64 (0), .int .i64 (1), .nilIface, .int .i64 1, .int .i64 3,
  .int .i64 (6), .string ⟨#[]⟩, .string ⟨#[]⟩, .string ⟨#[]⟩, .string ⟨#[117, 115, 100]⟩, .int .i64 (D1), .int .i64 (-1), .nilIface, .int .i64 0, .int .i64 7,
  .int .i64 (6), .string ⟨#[]⟩, .string ⟨#[]⟩, .string ⟨#[]⟩, .string ⟨#[101, 117, 114]⟩, .int .i64 (D), .int .i64 (1), .nilIface, .int .i64 0, .int .i64 3,
  .int .i64 (6), .string ⟨#[]⟩, .string ⟨#[]⟩, .string ⟨#[]⟩, .string ⟨#[117, 115, 100]⟩, .int .i64 (D), .int .i64 (1), .nilIface, .int .i64 0, .int .i64 1,
  .int .i64 (6), .string ⟨#[]⟩, .string ⟨#[]⟩, .string ⟨#[]⟩, .string ⟨#[117, 115, 100]⟩, .int .i64 (D), .int .i64 (-1), .nilIface, .int .i64 0, .int .i64 0,
  .int .i64 (6), .string ⟨#[]⟩, .string ⟨#[]⟩, .string ⟨#[]⟩, .string ⟨#[117, 115, 100]⟩, .int .i64 (D), .int .i64 (-1), .nilIface, .int .i64 0, .int .i64 3,
  .int .i64 (6), .string ⟨#[]⟩, .string ⟨#[]⟩, .string ⟨#[]⟩, .string ⟨#[117, 115, 100]⟩, .int .i64 (0), .int .i64 (-1000000000000), .nilIface, .int .i64 1, .int .i64 0]
@[go_sem] theorem run_bs_er (D D1 : Int) (T0 T1 T2 T3 T4 : TypeId) (X0 X1 X2 X3 X4 : Value) (W : World) : (bsN 94 26 #[(0, .agg #[.int .i64 (1), .string ⟨#[]⟩, .string ⟨#[]⟩, .string ⟨#[]⟩, .string ⟨#[]⟩, .int .i64 (0), .int .i64 (0), .nilIface, .int .i64 2, .int .i64 1]),
  (1, .agg #[.int .i64 (7), .string ⟨#[]⟩, .string ⟨#[]⟩, .string ⟨#[]⟩, .string ⟨#[]⟩, .int .i64 (0), .int .i64 (0), .nilIface, .int .i64 0, .int .i64 1]),
  (2, .agg #[.int .i64 (2), .string ⟨#[116]⟩, .string ⟨#[]⟩, .string ⟨#[]⟩, .string ⟨#[]⟩, .int .i64 (0), .int .i64 (0), .iface T0 X0, .int .i64 0, .int .i64 2]),
  (3, .agg #[.int .i64 (2), .string ⟨#[98, 105, 103]⟩, .string ⟨#[]⟩, .string ⟨#[]⟩, .string ⟨#[]⟩, .int .i64 (0), .int .i64 (0), .iface T1 X1, .int .i64 0, .int .i64 0]),
  (4, .agg #[.int .i64 (2), .string ⟨#[98, 105, 103]⟩, .string ⟨#[]⟩, .string ⟨#[]⟩, .string ⟨#[]⟩, .int .i64 (0), .int .i64 (0), .iface T2 X2, .int .i64 1, .int .i64 4]),
  (5, .agg #[.int .i64 (2), .string ⟨#[111, 114]⟩, .string ⟨#[]⟩, .string ⟨#[]⟩, .string ⟨#[]⟩, .int .i64 (0), .int .i64 (0), .iface T3 X3, .int .i64 1, .int .i64 0]),
  (6, .agg #[.int .i64 (2), .string ⟨#[111, 118, 101, 114]⟩, .string ⟨#[]⟩, .string ⟨#[]⟩, .string ⟨#[]⟩, .int .i64 (0), .int .i64 (0), .iface T4 X4, .int .i64 0, .int .i64 6]),
  (7, .agg #[.int .i64 (3), .string ⟨#[]⟩, .string ⟨#[120]⟩, .string ⟨#[]⟩, .string ⟨#[]⟩, .int .i64 (1), .int .i64 (3), .nilIface, .int .i64 0, .int .i64 7]),
  (8, .agg #[.int .i64 (3), .string ⟨#[]⟩, .string ⟨#[120]⟩, .string ⟨#[]⟩, .string ⟨#[]⟩, .int .i64 (0), .int .i64 (2), .nilIface, .int .i64 0, .int .i64 6]),
  (9, .agg #[.int .i64 (3), .string ⟨#[]⟩, .string ⟨#[120]⟩, .string ⟨#[]⟩, .string ⟨#[]⟩, .int .i64 (0), .int .i64 (-1), .nilIface, .int .i64 0, .int .i64 0]),
  (10, .agg #[.int .i64 (3), .string ⟨#[]⟩, .string ⟨#[120]⟩, .string ⟨#[]⟩, .string ⟨#[]⟩, .int .i64 (0), .int .i64 (-1), .nilIface, .int .i64 1, .int .i64 4]),
  (11, .agg #[.int .i64 (4), .string ⟨#[110, 111]⟩, .string ⟨#[]⟩, .string ⟨#[97]⟩, .string ⟨#[]⟩, .int .i64 (0), .int .i64 (0), .nilIface, .int .i64 0, .int .i64 3]),
  (12, .agg #[.int .i64 (4), .string ⟨#[111, 114]⟩, .string ⟨#[]⟩, .string ⟨#[98]⟩, .string ⟨#[]⟩, .int .i64 (0), .int .i64 (0), .nilIface, .int .i64 0, .int .i64 3]),
  (13, .agg #[.int .i64 (4), .string ⟨#[111, 114]⟩, .string ⟨#[]⟩, .string ⟨#[97]⟩, .string ⟨#[]⟩, .int .i64 (0), .int .i64 (0), .nilIface, .int .i64 1, .int .i64 7]),
  (14, .agg #[.int .i64 (5), .string ⟨#[]⟩, .string ⟨#[]⟩, .string ⟨#[]⟩, .string ⟨#[]⟩, .int .i64 (0), .int .i64 (0), .nilIface, .int .i64 0, .int .i64 7]),
  (15, .agg #[.int .i64 (5), .string ⟨#[]⟩, .string ⟨#[]⟩, .string ⟨#[]⟩, .string ⟨#[]⟩, .int .i64 (D), .int .i64 (0), .nilIface, .int .i64 0, .int .i64 0]),
  (16, .agg #[.int .i64 (5), .string ⟨#[]⟩, .string ⟨#[]⟩, .string ⟨#[]⟩, .string ⟨#[]⟩, .int .i64 (D), .int .i64 (0), .nilIface, .int .i64 1, .int .i64 7]),
  (17, .agg #[.int .i64 (4), .string ⟨#[111, 114]⟩, .string ⟨#[]⟩, .string ⟨#[97]⟩, .string ⟨#[]⟩, .int .i64 (0), .int .i64 (0), .nilIface, .int .i64 0, .int .i64 8]),
  (18, .agg #[.int .i64 (4), .string ⟨#[111, 114]⟩, .string ⟨#[]⟩, .string ⟨#[97]⟩, .string ⟨#[]⟩, .int .i64 (0), .int .i64 (0), .nilIface, .int .i64 1, .int .i64 0]),
  (19, .agg #[.int .i64 (4), .string ⟨#[111, 114]⟩, .string ⟨#[]⟩, .string ⟨#[97]⟩, .string ⟨#[]⟩, .int .i64 (0), .int .i64 (1), .nilIface, .int .i64 1, .int .i64 3]),
  (20, .agg #[.int .i64 (6), .string ⟨#[]⟩, .string ⟨#[]⟩, .string ⟨#[]⟩, .string ⟨#[117, 115, 100]⟩, .int .i64 (D1), .int .i64 (-1), .nilIface, .int .i64 0, .int .i64 7]),
  (21, .agg #[.int .i64 (6), .string ⟨#[]⟩, .string ⟨#[]⟩, .string ⟨#[]⟩, .string ⟨#[101, 117, 114]⟩, .int .i64 (D), .int .i64 (1), .nilIface, .int .i64 0, .int .i64 3]),
  (22, .agg #[.int .i64 (6), .string ⟨#[]⟩, .string ⟨#[]⟩, .string ⟨#[]⟩, .string ⟨#[117, 115, 100]⟩, .int .i64 (D), .int .i64 (1), .nilIface, .int .i64 0, .int .i64 1]),
  (23, .agg #[.int .i64 (6), .string ⟨#[]⟩, .string ⟨#[]⟩, .string ⟨#[]⟩, .string ⟨#[117, 115, 100]⟩, .int .i64 (D), .int .i64 (-1), .nilIface, .int .i64 0, .int .i64 0]),
  (24, .agg #[.int .i64 (6), .string ⟨#[]⟩, .string ⟨#[]⟩, .string ⟨#[]⟩, .string ⟨#[117, 115, 100]⟩, .int .i64 (D), .int .i64 (-1), .nilIface, .int .i64 0, .int .i64 3]),
  (25, .agg #[.int .i64 (6), .string ⟨#[]⟩, .string ⟨#[]⟩, .string ⟨#[]⟩, .string ⟨#[117, 115, 100]⟩, .int .i64 (0), .int .i64 (-1000000000000), .nilIface, .int .i64 1, .int .i64 0])]).run Tryz.prog W = .ok (.slice (some ⟨W.heap.size, 0, none⟩) 26 26) (W.alloc (.cells (erCells D D1 T0 T1 T2 T3 T4 X0 X1 X2 X3 X4) 91)) := by kernel_rfl
theorem erCells_eq (D : Int) : ((erRows D).flatMap erRow).toArray = erCells D (D + 1) 3 32 78 80 32 (.int .i64 5) (.agg #[.iface 26 (.agg #[.int .i64 1000000000000]), .iface 32 (.agg #[.iface 34 (.agg #[.string ⟨#[120]⟩]), .iface 28 (.agg #[.string ⟨#[117, 115, 100]⟩])])]) (.agg #[.string ⟨#[97]⟩, .iface 28 (.agg #[.string ⟨#[117, 115, 100]⟩]), .iface 90 (.agg #[])]) (.agg #[.int .i64 D, .iface 93 (.agg #[.iface 78 (.agg #[.string ⟨#[97]⟩, .iface 28 (.agg #[.string ⟨#[117, 115, 100]⟩]), .iface 90 (.agg #[])])])]) (.agg #[.iface 26 (.agg #[.int .i64 2]), .iface 32 (.agg #[.iface 26 (.agg #[.int .i64 1000000000000]), .iface 78 (.agg #[.string ⟨#[97]⟩, .iface 28 (.agg #[.string ⟨#[117, 115, 100]⟩]), .iface 90 (.agg #[])])])]) := by kernel_rfl
theorem er_S {W : World} {q : Nat} {e : Ev} {b o : Int} (h : Blk W q #[.int .i64 e.kind, .string e.id, .string e.name, .string e.label, .string e.cur, .int .i64 e.day, .int .i64 e.value, e.term.val, .int .i64 b, .int .i64 o] 91) : W.rangeAt q 0 [.int .i64 e.kind, .string e.id, .string e.name, .string e.label, .string e.cur, .int .i64 e.day, .int .i64 e.value, e.term.val] ∧ W.cell? ⟨q, 8, none⟩ = some (.int .i64 b) ∧ W.cell? ⟨q, 9, none⟩ = some (.int .i64 o) := by
  refine ⟨fun j v hv => ?_, h.cell 8, h.cell 9⟩
  have hj := (List.getElem?_eq_some_iff.1 hv).1
  rw [Nat.zero_add, h.cell j]
  show ([.int .i64 e.kind, .string e.id, .string e.name, .string e.label, .string e.cur, .int .i64 e.day, .int .i64 e.value, e.term.val, .int .i64 b, .int .i64 o] : List Value).toArray[j]? = some v
  rw [List.getElem?_toArray]
  show ([.int .i64 e.kind, .string e.id, .string e.name, .string e.label, .string e.cur, .int .i64 e.day, .int .i64 e.value, e.term.val] ++ [.int .i64 b, .int .i64 o])[j]? = some v
  rw [List.getElem?_append_left hj]
  exact hv
theorem er_ev8 : (Tryz.prog.info? 40).map (·.size) = some 8 := by kernel_rfl
theorem LS.deals {w W : World} {b : Nat} {l : Lg} {m n : Nat} (h : LS w W b l m) (hn : l.deals.length = n) :
    Calls Tryz.prog 29 #[.pointer (some ⟨b, 0, none⟩)] W fun en w' => ∃ A c, en = .returned (.slice A n c) ∧ LS w w' b l m ∧ Below W.heap.size W w' :=
  (ldeals_calls h.ok h.at_).mono fun en w' q => by
    obtain ⟨v, q1, q2, q3⟩ := q
    rw [hn] at q2
    obtain ⟨A, c, rfl, hr, ha⟩ := Own.addr q2
    exact ⟨A, c, q1, h.below q3, q3⟩
/-! More trades: till there are as many as may be. -/
def knm (k : Nat) : ByteArray := ⟨#[109]⟩ ++ ⟨#[UInt8.ofNat (97 + k)]⟩
def sMore : ByteArray := ⟨#[109, 111, 114, 101]⟩
def erM (D : Int) (k : Nat) : Lg := ⟨D, erDeals D ++ (List.range k).map (fun i => ⟨knm i, D, .zero⟩), erW2 D, (erS7 D).paid⟩
theorem zero_ok : Tm.zero.ok := by unfold Tm.ok; trivial
theorem knm_name : ∀ k, k < 6 → nameB (knm k) = true
  | 0, _ => by kernel_rfl
  | 1, _ => by kernel_rfl
  | 2, _ => by kernel_rfl
  | 3, _ => by kernel_rfl
  | 4, _ => by kernel_rfl
  | 5, _ => by kernel_rfl
  | k + 6, h => by omega
theorem knm_new (D : Int) : ∀ k, k < 6 → (erM D k).deals.any (·.id.toList == (knm k).toList) = false
  | 0, _ => by kernel_rfl
  | 1, _ => by kernel_rfl
  | 2, _ => by kernel_rfl
  | 3, _ => by kernel_rfl
  | 4, _ => by kernel_rfl
  | 5, _ => by kernel_rfl
  | k + 6, h => by omega
theorem zero_cash {D : Int} {W : Wd} {id : ByteArray} (hD : dayB D = true) : Tm.zero.cash id D W = (⟨[], []⟩, 0) := cash_in zero_check hD (by simp [Tm.into])
theorem er_more {D : Int} (hD : dayB D = true) {k : Nat} (hk : k < 6) {b : Int} (hb : b = 0 ∨ b = 1) : (erM D k).done (evT (knm k) .zero) b = (erM D (k + 1), 0) :=
  done_of ((do_trade hb (evT_check (knm_name k hk) (Tm.write_ok zero_ok zero_check (by decide))) (knm_new D k hk) (by simp [erM, erDeals]; omega) (by show (Tm.zero.cash (knm k) D (erW2 D)).2 = 0; rw [zero_cash hD])).trans (by
    unfold erM
    rw [List.range_succ, List.map_append, ← List.append_assoc]
    rfl))
theorem er_limit (D : Int) : ((erM D 6).try_ (evT sMore .zero) 0).2 = 5 := by
  rw [try_in (.inl rfl) (evT_check (by kernel_rfl) (Tm.write_ok zero_ok zero_check (by decide)))]
  show ((erM D 6).trade (evT sMore .zero)).2 = 5
  unfold Lg.trade
  rw [if_neg (show ¬ ((erM D 6).deals.any (·.id.toList == (evT sMore .zero).id.toList)) = true from by rw [show ((erM D 6).deals.any (·.id.toList == (evT sMore .zero).id.toList)) = false by kernel_rfl]; decide), if_pos (show 8 ≤ (erM D 6).deals.length by simp [erM, erDeals])]
theorem er_waits6 {D : Int} (hD : dayB D = true) (h0 : 0 ≤ D) : (erM D 6).all.1.waits = [] := by
  have h1 := er_bigN (id := sBig) (W := erW2 D) (by simp [erW2, Wd.fixed])
  have h2 := er_or1 (W := erW2 D) hD h0 (by simp [erW2, Wd.chosen])
  have h3 := fun i => zero_cash (id := knm i) (W := erW2 D) hD
  unfold Lg.all
  show (allOf (erW2 D) [⟨sBig, 0, tBig⟩, ⟨sOr, 0, tWhen D⟩, ⟨knm 0, D, .zero⟩, ⟨knm 1, D, .zero⟩, ⟨knm 2, D, .zero⟩, ⟨knm 3, D, .zero⟩, ⟨knm 4, D, .zero⟩, ⟨knm 5, D, .zero⟩] ⟨[], []⟩).1.waits = []
  simp [allOf, h1, h2, h3]
theorem ev_fair0 {k : Int} (hk : 0 ≤ k ∧ k ≤ 100) : (⟨k, ⟨#[]⟩, ⟨#[]⟩, ⟨#[]⟩, ⟨#[]⟩, 0, 0, .odd .nilIface⟩ : Ev).fair := ⟨⟨by unfold IsInt64; show _ ≤ k ∧ k < _; omega, i64k (n := 0) (by omega), i64k (n := 0) (by omega), .inl rfl⟩, show (1 : Nat) ≤ 1099511627776 by decide, ba_nil, ba_nil, ba_nil, ba_nil⟩
def erSts (D : Int) : List Lg := [Lg.none, Lg.none, Lg.none, Lg.none, erS1, erS1, (erS2 D), (erS2 D), (erS2 D), (erS2 D), (erS3 D), (erS3 D), (erS3 D), (erS3 D), (erS3 D), (erS3 D), (erS4 D), (erS4 D), (erS4 D), (erS5 D), (erS5 D), (erS5 D), (erS5 D), (erS5 D), (erS6 D), (erS6 D), (erS7 D)]
theorem er_all {D : Int} (hD : dayB D = true) (hD1 : dayB (D + 1) = true) (h0 : 0 < D) : ∀ k, k < 26 → ∃ x l l', (erRows D)[k]? = some x ∧ (erSts D)[k]? = some l ∧ (erSts D)[k + 1]? = some l' ∧ x.1.fair ∧ l.done x.1 x.2.1 = (l', x.2.2)
  | 0, _ => ⟨_, _, _, rfl, rfl, rfl, ev_fair0 (by omega), er0⟩
  | 1, _ => ⟨_, _, _, rfl, rfl, rfl, ev_fair0 (by omega), er1⟩
  | 2, _ => ⟨_, _, _, rfl, rfl, rfl, evT_fair (by decide) tFive_ok (by decide), er2⟩
  | 3, _ => ⟨_, _, _, rfl, rfl, rfl, evT_fair (by decide) tBig_ok (by decide), er3⟩
  | 4, _ => ⟨_, _, _, rfl, rfl, rfl, evT_fair (by decide) tOr_ok (by decide), er4⟩
  | 5, _ => ⟨_, _, _, rfl, rfl, rfl, evT_fair (by decide) (tWhen_ok hD) (show 5 ≤ 100 by decide), er5 hD (Int.le_of_lt h0)⟩
  | 6, _ => ⟨_, _, _, rfl, rfl, rfl, evT_fair (by decide) tOver_ok (by decide), er6⟩
  | 7, _ => ⟨_, _, _, rfl, rfl, rfl, evF_fair (by decide) (by decide) (by decide), er7⟩
  | 8, _ => ⟨_, _, _, rfl, rfl, rfl, evF_fair (by decide) (by decide) (by decide), er8⟩
  | 9, _ => ⟨_, _, _, rfl, rfl, rfl, evF_fair (by decide) (by decide) (by decide), er9 hD (Int.le_of_lt h0)⟩
  | 10, _ => ⟨_, _, _, rfl, rfl, rfl, evF_fair (by decide) (by decide) (by decide), er10⟩
  | 11, _ => ⟨_, _, _, rfl, rfl, rfl, evC_fair (by decide) (by decide) (by decide), er11⟩
  | 12, _ => ⟨_, _, _, rfl, rfl, rfl, evC_fair (by decide) (by decide) (by decide), er12 hD (Int.le_of_lt h0)⟩
  | 13, _ => ⟨_, _, _, rfl, rfl, rfl, evC_fair (by decide) (by decide) (by decide), er13 hD h0⟩
  | 14, _ => ⟨_, _, _, rfl, rfl, rfl, evD_fair day_zero, er_dayNo (.inl rfl) day_zero (Int.le_refl 0)⟩
  | 15, _ => ⟨_, _, _, rfl, rfl, rfl, evD_fair hD, er15 hD h0⟩
  | 16, _ => ⟨_, _, _, rfl, rfl, rfl, evD_fair hD, er_dayNo (.inr rfl) hD (Int.le_refl D)⟩
  | 17, _ => ⟨_, _, _, rfl, rfl, rfl, evC_fair (by decide) (by decide) (by decide), er17 hD (Int.le_of_lt h0)⟩
  | 18, _ => ⟨_, _, _, rfl, rfl, rfl, evC_fair (by decide) (by decide) (by decide), er18 hD (Int.le_of_lt h0)⟩
  | 19, _ => ⟨_, _, _, rfl, rfl, rfl, evC_fair (by decide) (by decide) (by decide), er19 hD (Int.le_of_lt h0)⟩
  | 20, _ => ⟨_, _, _, rfl, rfl, rfl, evS_fair (by decide) hD1 (by decide), er20 hD1⟩
  | 21, _ => ⟨_, _, _, rfl, rfl, rfl, evS_fair (by decide) hD (by decide), er21 hD h0⟩
  | 22, _ => ⟨_, _, _, rfl, rfl, rfl, evS_fair (by decide) hD (by decide), er22 hD h0⟩
  | 23, _ => ⟨_, _, _, rfl, rfl, rfl, evS_fair (by decide) hD (by decide), er23 hD h0⟩
  | 24, _ => ⟨_, _, _, rfl, rfl, rfl, evS_fair (by decide) hD (by decide), er24 hD h0⟩
  | 25, _ => ⟨_, _, _, rfl, rfl, rfl, evS_fair (by decide) day_zero (by decide), er25 hD h0⟩
  | k + 26, h => by omega
end Go.Proofs.YtnekcijganhknaaGreatDoor
