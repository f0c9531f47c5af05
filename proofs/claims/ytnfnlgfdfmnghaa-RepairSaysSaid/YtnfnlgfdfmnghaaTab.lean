/- The types of the program, as far as the walks ask for them. -/
import Derived.Test.YtnfnlgfdfmnghaaAbC
import Derived.Test.YtnfnlgfdfmnghaaPlA
import Derived.Test.YtnfnlgfdfmnghaaProg
namespace Go.Ab
open Go Go.Proofs
def table : List (Nat × TI) := [
  (3, ⟨1, 8, .int .i64, 0, [], [(.int .i64 0)], false, some (.ints .i64 []), none⟩),
  (4, ⟨1, 1, .bool, 0, [], [(.bool false)], false, some (.bools []), none⟩),
  (5, ⟨1, 1, .int .u8, 0, [], [(.int .u8 0)], false, some (.ints .u8 []), none⟩),
  (9, ⟨1, 16, .string, 0, [], [(.str ByteArray.empty)], false, some (.strs []), none⟩),
  (22, ⟨1, 24, .slice, 27, [], [.nils], false, none, some (.arows [])⟩),
  (24, ⟨4, 48, .struct, 0, [(0, 1, false), (1, 1, false), (2, 1, false), (3, 1, false)], [(.int .i64 0), (.int .i64 0), (.int .i64 0), .nils], false, none, none⟩),
  (25, ⟨1, 24, .slice, 3, [], [.nils], false, none, some (.rows [])⟩),
  (27, ⟨3, 24, .struct, 0, [(0, 1, false), (1, 1, false), (2, 1, false)], [(.int .i64 0), (.int .i64 0), (.int .i64 0)], true, some (.arcs []), none⟩),
  (28, ⟨1, 8, .int .i64, 0, [], [(.int .i64 0)], false, some (.ints .i64 []), none⟩),
  (46, ⟨1, 2, .int .u16, 0, [], [(.int .u16 0)], false, some (.ints .u16 []), none⟩),
  (50, ⟨3, 40, .struct, 0, [(0, 1, false), (1, 1, false), (2, 1, false)], [(.int .i64 0), .nils, (.int .u16 0)], false, none, none⟩),
  (55, ⟨1, 8, .pointer, 103, [], [.nilp], false, none, none⟩),
  (60, ⟨5, 48, .struct, 0, [(0, 1, false), (1, 1, false), (2, 1, false), (3, 1, false), (4, 1, false)], [(.int .i64 0), (.int .i64 0), (.int .i64 0), (.int .i64 0), (.str ByteArray.empty)], false, none, none⟩),
  (63, ⟨2, 32, .struct, 0, [(0, 1, false), (1, 1, false)], [(.int .i64 0), .nils], false, none, none⟩),
  (74, ⟨1, 24, .slice, 80, [], [.nils], false, none, none⟩),
  (80, ⟨2, 32, .struct, 0, [(0, 1, false), (1, 1, false)], [(.int .i64 0), .nils], false, none, some (.pieces [])⟩),
  (86, ⟨1, 24, .slice, 22, [], [.nils], false, none, none⟩),
  (91, ⟨1, 8, .pointer, 94, [], [.nilp], false, none, none⟩),
  (92, ⟨12, 96, .array 12, 3, [], [(.int .i64 0), (.int .i64 0), (.int .i64 0), (.int .i64 0), (.int .i64 0), (.int .i64 0), (.int .i64 0), (.int .i64 0), (.int .i64 0), (.int .i64 0), (.int .i64 0), (.int .i64 0)], false, some (.ints .i64 []), none⟩),
  (94, ⟨17, 168, .struct, 0, [(0, 4, true), (4, 1, false), (5, 12, true)], [(.int .i64 0), (.int .i64 0), (.int .i64 0), .nils, .nils, (.int .i64 0), (.int .i64 0), (.int .i64 0), (.int .i64 0), (.int .i64 0), (.int .i64 0), (.int .i64 0), (.int .i64 0), (.int .i64 0), (.int .i64 0), (.int .i64 0), (.int .i64 0)], false, none, none⟩),
  (95, ⟨1, 8, .other, 0, [], [.nilf], false, none, none⟩),
  (99, ⟨5, 72, .struct, 0, [(0, 4, true), (4, 1, false)], [(.int .i64 0), (.int .i64 0), (.int .i64 0), .nils, .nils], false, none, none⟩),
  (100, ⟨1, 24, .slice, 99, [], [.nils], false, none, none⟩),
  (101, ⟨1, 24, .slice, 9, [], [.nils], false, none, none⟩),
  (103, ⟨8, 144, .struct, 0, [(0, 5, true), (5, 1, false), (6, 1, false), (7, 1, false)], [(.int .i64 0), (.int .i64 0), (.int .i64 0), .nils, .nils, .nils, .nils, .nils], false, none, none⟩),
  (108, ⟨144, 1152, .array 12, 92, [], [(.int .i64 0), (.int .i64 0), (.int .i64 0), (.int .i64 0), (.int .i64 0), (.int .i64 0), (.int .i64 0), (.int .i64 0), (.int .i64 0), (.int .i64 0), (.int .i64 0), (.int .i64 0), (.int .i64 0), (.int .i64 0), (.int .i64 0), (.int .i64 0), (.int .i64 0), (.int .i64 0), (.int .i64 0), (.int .i64 0), (.int .i64 0), (.int .i64 0), (.int .i64 0), (.int .i64 0), (.int .i64 0), (.int .i64 0), (.int .i64 0), (.int .i64 0), (.int .i64 0), (.int .i64 0), (.int .i64 0), (.int .i64 0), (.int .i64 0), (.int .i64 0), (.int .i64 0), (.int .i64 0), (.int .i64 0), (.int .i64 0), (.int .i64 0), (.int .i64 0), (.int .i64 0), (.int .i64 0), (.int .i64 0), (.int .i64 0), (.int .i64 0), (.int .i64 0), (.int .i64 0), (.int .i64 0), (.int .i64 0), (.int .i64 0), (.int .i64 0), (.int .i64 0), (.int .i64 0), (.int .i64 0), (.int .i64 0), (.int .i64 0), (.int .i64 0), (.int .i64 0), (.int .i64 0), (.int .i64 0), (.int .i64 0), (.int .i64 0), (.int .i64 0), (.int .i64 0), (.int .i64 0), (.int .i64 0), (.int .i64 0), (.int .i64 0), (.int .i64 0), (.int .i64 0), (.int .i64 0), (.int .i64 0), (.int .i64 0), (.int .i64 0), (.int .i64 0), (.int .i64 0), (.int .i64 0), (.int .i64 0), (.int .i64 0), (.int .i64 0), (.int .i64 0), (.int .i64 0), (.int .i64 0), (.int .i64 0), (.int .i64 0), (.int .i64 0), (.int .i64 0), (.int .i64 0), (.int .i64 0), (.int .i64 0), (.int .i64 0), (.int .i64 0), (.int .i64 0), (.int .i64 0), (.int .i64 0), (.int .i64 0), (.int .i64 0), (.int .i64 0), (.int .i64 0), (.int .i64 0), (.int .i64 0), (.int .i64 0), (.int .i64 0), (.int .i64 0), (.int .i64 0), (.int .i64 0), (.int .i64 0), (.int .i64 0), (.int .i64 0), (.int .i64 0), (.int .i64 0), (.int .i64 0), (.int .i64 0), (.int .i64 0), (.int .i64 0), (.int .i64 0), (.int .i64 0), (.int .i64 0), (.int .i64 0), (.int .i64 0), (.int .i64 0), (.int .i64 0), (.int .i64 0), (.int .i64 0), (.int .i64 0), (.int .i64 0), (.int .i64 0), (.int .i64 0), (.int .i64 0), (.int .i64 0), (.int .i64 0), (.int .i64 0), (.int .i64 0), (.int .i64 0), (.int .i64 0), (.int .i64 0), (.int .i64 0), (.int .i64 0), (.int .i64 0), (.int .i64 0), (.int .i64 0), (.int .i64 0), (.int .i64 0), (.int .i64 0)], false, some (.ints .i64 []), none⟩),
  (109, ⟨12, 24, .array 12, 46, [], [(.int .u16 0), (.int .u16 0), (.int .u16 0), (.int .u16 0), (.int .u16 0), (.int .u16 0), (.int .u16 0), (.int .u16 0), (.int .u16 0), (.int .u16 0), (.int .u16 0), (.int .u16 0)], false, some (.ints .u16 []), none⟩),
  (112, ⟨1, 8, .pointer, 108, [], [.nilp], false, none, none⟩),
  (114, ⟨1, 24, .slice, 25, [], [.nils], false, none, none⟩),
  (124, ⟨1, 24, .slice, 74, [], [.nils], false, none, none⟩),
  (128, ⟨1, 24, .slice, 132, [], [.nils], false, none, none⟩),
  (132, ⟨2, 16, .struct, 0, [(0, 1, false), (1, 1, false)], [(.int .i64 0), (.bool false)], false, some (.steps []), none⟩),
  (135, ⟨12, 12, .array 12, 4, [], [(.bool false), (.bool false), (.bool false), (.bool false), (.bool false), (.bool false), (.bool false), (.bool false), (.bool false), (.bool false), (.bool false), (.bool false)], false, some (.bools []), none⟩),
  (138, ⟨1, 8, .int .u64, 0, [], [(.int .u64 0)], false, some (.ints .u64 []), none⟩),
  (143, ⟨1, 8, .other, 0, [], [.nilf], false, none, none⟩),
  (146, ⟨24, 192, .array 12, 132, [], [(.int .i64 0), (.bool false), (.int .i64 0), (.bool false), (.int .i64 0), (.bool false), (.int .i64 0), (.bool false), (.int .i64 0), (.bool false), (.int .i64 0), (.bool false), (.int .i64 0), (.bool false), (.int .i64 0), (.bool false), (.int .i64 0), (.bool false), (.int .i64 0), (.bool false), (.int .i64 0), (.bool false), (.int .i64 0), (.bool false)], false, some (.steps []), none⟩),
  (147, ⟨1, 24, .slice, 5, [], [.nils], false, none, none⟩),
  (149, ⟨1, 8, .int .i64, 0, [], [(.int .i64 0)], false, some (.ints .i64 []), none⟩),
  (156, ⟨1, 4, .int .u32, 0, [], [(.int .u32 0)], false, some (.ints .u32 []), none⟩),
  (158, ⟨1, 8, .int .u64, 0, [], [(.int .u64 0)], false, some (.ints .u64 []), none⟩),
  (165, ⟨1, 8, .int .u64, 0, [], [(.int .u64 0)], false, some (.ints .u64 []), none⟩),
  (169, ⟨1, 8, .pointer, 3, [], [.nilp], false, none, none⟩)
]
def T (t : Nat) : Option TI := look t table
theorem tabOk : TOkL Try.prog table := tokL_of (by kernel_rfl)
theorem hT : ∀ t i, T t = some i → TF Try.prog t i := fun _ _ h => (tabOk.at_ h).facts
end Go.Ab
