/- The types of the program, as far as the walks ask for them. -/
import Derived.Test.YtcmaffldmodacaaAbC
import Derived.Test.YtcmaffldmodacaaPlA
import Derived.Test.YtcmaffldmodacaaProg
namespace Go.Ab
open Go Go.Proofs
def table : List (Nat × TI) := [
  (3, ⟨1, 8, .int .i64, 0, [], [(.int .i64 0)], false, some (.ints .i64 []), none⟩),
  (4, ⟨1, 1, .bool, 0, [], [(.bool false)], false, some (.bools []), none⟩),
  (5, ⟨1, 1, .int .u8, 0, [], [(.int .u8 0)], false, some (.ints .u8 []), none⟩),
  (9, ⟨1, 16, .string, 0, [], [(.str ByteArray.empty)], false, some (.strs []), none⟩),
  (22, ⟨1, 24, .slice, 61, [], [.nils], false, none, some (.arows [])⟩),
  (24, ⟨4, 48, .struct, 0, [(0, 1, false), (1, 1, false), (2, 1, false), (3, 1, false)], [(.int .i64 0), (.int .i64 0), (.int .i64 0), .nils], false, none, none⟩),
  (25, ⟨1, 24, .slice, 3, [], [.nils], false, none, some (.rows [])⟩),
  (26, ⟨1, 8, .int .i64, 0, [], [(.int .i64 0)], false, some (.ints .i64 []), none⟩),
  (33, ⟨2, 32, .struct, 0, [(0, 1, false), (1, 1, false)], [(.int .i64 0), .nils], false, none, none⟩),
  (46, ⟨1, 2, .int .u16, 0, [], [(.int .u16 0)], false, some (.ints .u16 []), none⟩),
  (50, ⟨3, 40, .struct, 0, [(0, 1, false), (1, 1, false), (2, 1, false)], [(.int .i64 0), .nils, (.int .u16 0)], false, none, none⟩),
  (55, ⟨1, 8, .pointer, 96, [], [.nilp], false, none, none⟩),
  (59, ⟨5, 48, .struct, 0, [(0, 1, false), (1, 1, false), (2, 1, false), (3, 1, false), (4, 1, false)], [(.int .i64 0), (.int .i64 0), (.int .i64 0), (.int .i64 0), (.str ByteArray.empty)], false, none, none⟩),
  (61, ⟨3, 24, .struct, 0, [(0, 1, false), (1, 1, false), (2, 1, false)], [(.int .i64 0), (.int .i64 0), (.int .i64 0)], true, some (.arcs []), none⟩),
  (62, ⟨1, 8, .pointer, 65, [], [.nilp], false, none, none⟩),
  (63, ⟨12, 96, .array 12, 3, [], [(.int .i64 0), (.int .i64 0), (.int .i64 0), (.int .i64 0), (.int .i64 0), (.int .i64 0), (.int .i64 0), (.int .i64 0), (.int .i64 0), (.int .i64 0), (.int .i64 0), (.int .i64 0)], false, some (.ints .i64 []), none⟩),
  (65, ⟨17, 168, .struct, 0, [(0, 4, true), (4, 1, false), (5, 12, true)], [(.int .i64 0), (.int .i64 0), (.int .i64 0), .nils, .nils, (.int .i64 0), (.int .i64 0), (.int .i64 0), (.int .i64 0), (.int .i64 0), (.int .i64 0), (.int .i64 0), (.int .i64 0), (.int .i64 0), (.int .i64 0), (.int .i64 0), (.int .i64 0)], false, none, none⟩),
  (76, ⟨1, 24, .slice, 25, [], [.nils], false, none, none⟩),
  (79, ⟨8, 64, .array 8, 3, [], [(.int .i64 0), (.int .i64 0), (.int .i64 0), (.int .i64 0), (.int .i64 0), (.int .i64 0), (.int .i64 0), (.int .i64 0)], false, some (.ints .i64 []), none⟩),
  (84, ⟨1, 8, .other, 0, [], [.nilf], false, none, none⟩),
  (85, ⟨12, 288, .array 12, 25, [], [.nils, .nils, .nils, .nils, .nils, .nils, .nils, .nils, .nils, .nils, .nils, .nils], false, none, none⟩),
  (92, ⟨5, 72, .struct, 0, [(0, 4, true), (4, 1, false)], [(.int .i64 0), (.int .i64 0), (.int .i64 0), .nils, .nils], false, none, some (.stas [])⟩),
  (93, ⟨1, 24, .slice, 92, [], [.nils], false, none, none⟩),
  (94, ⟨1, 24, .slice, 9, [], [.nils], false, none, none⟩),
  (96, ⟨8, 144, .struct, 0, [(0, 5, true), (5, 1, false), (6, 1, false), (7, 1, false)], [(.int .i64 0), (.int .i64 0), (.int .i64 0), .nils, .nils, .nils, .nils, .nils], false, none, none⟩),
  (110, ⟨1, 8, .other, 0, [], [.nilf], false, none, none⟩),
  (112, ⟨1, 24, .slice, 116, [], [.nils], false, none, none⟩),
  (116, ⟨2, 16, .struct, 0, [(0, 1, false), (1, 1, false)], [(.int .i64 0), (.bool false)], false, some (.steps []), none⟩),
  (119, ⟨1, 24, .slice, 124, [], [.nils], false, none, none⟩),
  (124, ⟨2, 32, .struct, 0, [(0, 1, false), (1, 1, false)], [(.int .i64 0), .nils], false, none, some (.pieces [])⟩),
  (130, ⟨1, 8, .int .u64, 0, [], [(.int .u64 0)], false, some (.ints .u64 []), none⟩),
  (133, ⟨24, 192, .array 12, 116, [], [(.int .i64 0), (.bool false), (.int .i64 0), (.bool false), (.int .i64 0), (.bool false), (.int .i64 0), (.bool false), (.int .i64 0), (.bool false), (.int .i64 0), (.bool false), (.int .i64 0), (.bool false), (.int .i64 0), (.bool false), (.int .i64 0), (.bool false), (.int .i64 0), (.bool false), (.int .i64 0), (.bool false), (.int .i64 0), (.bool false)], false, some (.steps []), none⟩),
  (137, ⟨1, 24, .slice, 119, [], [.nils], false, none, none⟩),
  (139, ⟨1, 24, .slice, 5, [], [.nils], false, none, none⟩),
  (140, ⟨1, 4, .int .u32, 0, [], [(.int .u32 0)], false, some (.ints .u32 []), none⟩),
  (143, ⟨1, 8, .int .u64, 0, [], [(.int .u64 0)], false, some (.ints .u64 []), none⟩)
]
def T (t : Nat) : Option TI := look t table
theorem tabOk : TOkL Try.prog table := tokL_of (by kernel_rfl)
theorem hT : ∀ t i, T t = some i → TF Try.prog t i := fun _ _ h => (tabOk.at_ h).facts
end Go.Ab
