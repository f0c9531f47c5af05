/- The types of the program, as far as the walks ask for them. -/
import Derived.Test.YtdglhalkilneaaaAbC
import Derived.Test.YtdglhalkilneaaaPl1
import Derived.Test.YtdglhalkilneaaaProg
namespace Go.Ab
open Go Go.Proofs
def table : List (Nat × TI) := [
  (3, ⟨1, 8, .int .i64, 0, [], [(.int .i64 0)], false, some (.ints .i64 []), none⟩),
  (4, ⟨1, 1, .bool, 0, [], [(.bool false)], false, some (.bools []), none⟩),
  (5, ⟨1, 1, .int .u8, 0, [], [(.int .u8 0)], false, some (.ints .u8 []), none⟩),
  (9, ⟨1, 16, .string, 0, [], [(.str ByteArray.empty)], false, some (.strs []), none⟩),
  (22, ⟨1, 24, .slice, 30, [], [.nils], false, none, none⟩),
  (23, ⟨1, 8, .int .i64, 0, [], [(.int .i64 0)], false, some (.ints .i64 []), none⟩),
  (26, ⟨1, 24, .slice, 32, [], [.nils], false, none, none⟩),
  (30, ⟨1, 24, .slice, 3, [], [.nils], false, none, some (.rows [])⟩),
  (32, ⟨2, 32, .struct, 0, [(0, 1, false), (1, 1, false)], [(.int .i64 0), .nils], false, none, some (.pieces [])⟩),
  (35, ⟨1, 8, .other, 0, [], [.nilf], false, none, none⟩),
  (37, ⟨1, 24, .slice, 99, [], [.nils], false, none, some (.arows [])⟩),
  (39, ⟨2, 32, .struct, 0, [(0, 1, false), (1, 1, false)], [(.int .i64 0), .nils], false, none, none⟩),
  (53, ⟨4, 48, .struct, 0, [(0, 1, false), (1, 1, false), (2, 1, false), (3, 1, false)], [(.int .i64 0), (.int .i64 0), (.int .i64 0), .nils], false, none, none⟩),
  (55, ⟨6, 96, .struct, 0, [(0, 4, true), (4, 1, false), (5, 1, false)], [(.int .i64 0), (.int .i64 0), (.int .i64 0), .nils, .nils, .nils], false, none, none⟩),
  (64, ⟨1, 2, .int .u16, 0, [], [(.int .u16 0)], false, some (.ints .u16 []), none⟩),
  (76, ⟨3, 40, .struct, 0, [(0, 1, false), (1, 1, false), (2, 1, false)], [(.int .i64 0), .nils, (.int .u16 0)], false, none, none⟩),
  (90, ⟨1, 24, .slice, 151, [], [.nils], false, none, none⟩),
  (99, ⟨3, 24, .struct, 0, [(0, 1, false), (1, 1, false), (2, 1, false)], [(.int .i64 0), (.int .i64 0), (.int .i64 0)], true, some (.arcs []), none⟩),
  (119, ⟨1, 8, .other, 0, [], [.nilf], false, none, none⟩),
  (131, ⟨1, 8, .other, 0, [], [.nilf], false, none, none⟩),
  (135, ⟨1, 8, .other, 0, [], [.nilf], false, none, none⟩),
  (151, ⟨4, 32, .struct, 0, [(0, 1, false), (1, 1, false), (2, 1, false), (3, 1, false)], [(.int .i64 0), (.int .i64 0), (.int .i64 0), (.int .i64 0)], true, some (.nds []), none⟩),
  (156, ⟨1, 24, .slice, 37, [], [.nils], false, none, none⟩),
  (161, ⟨12, 96, .array 12, 3, [], [(.int .i64 0), (.int .i64 0), (.int .i64 0), (.int .i64 0), (.int .i64 0), (.int .i64 0), (.int .i64 0), (.int .i64 0), (.int .i64 0), (.int .i64 0), (.int .i64 0), (.int .i64 0)], false, some (.ints .i64 []), none⟩),
  (166, ⟨1, 8, .int .u64, 0, [], [(.int .u64 0)], false, some (.ints .u64 []), none⟩),
  (171, ⟨1, 24, .slice, 26, [], [.nils], false, none, none⟩),
  (178, ⟨1, 4, .int .u32, 0, [], [(.int .u32 0)], false, some (.ints .u32 []), none⟩),
  (181, ⟨1, 8, .int .u64, 0, [], [(.int .u64 0)], false, some (.ints .u64 []), none⟩),
  (184, ⟨1, 24, .slice, 188, [], [.nils], false, none, none⟩),
  (188, ⟨2, 16, .struct, 0, [(0, 1, false), (1, 1, false)], [(.int .i64 0), (.bool false)], false, some (.steps []), none⟩),
  (190, ⟨1, 8, .int .i64, 0, [], [(.int .i64 0)], false, some (.ints .i64 []), none⟩),
  (198, ⟨24, 192, .array 12, 188, [], [(.int .i64 0), (.bool false), (.int .i64 0), (.bool false), (.int .i64 0), (.bool false), (.int .i64 0), (.bool false), (.int .i64 0), (.bool false), (.int .i64 0), (.bool false), (.int .i64 0), (.bool false), (.int .i64 0), (.bool false), (.int .i64 0), (.bool false), (.int .i64 0), (.bool false), (.int .i64 0), (.bool false), (.int .i64 0), (.bool false)], false, some (.steps []), none⟩),
  (199, ⟨1, 8, .int .u64, 0, [], [(.int .u64 0)], false, some (.ints .u64 []), none⟩),
  (203, ⟨1, 8, .pointer, 3, [], [.nilp], false, none, none⟩)
]
def T (t : Nat) : Option TI := look t table
theorem tabOk : TOkL Try.prog table := tokL_of (by kernel_rfl)
theorem hT : ∀ t i, T t = some i → TF Try.prog t i := fun _ _ h => (tabOk.at_ h).facts
end Go.Ab
