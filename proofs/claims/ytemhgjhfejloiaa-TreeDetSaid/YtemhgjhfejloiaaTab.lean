/- The types of the program, as far as the walks ask for them. -/
import Derived.Test.YtemhgjhfejloiaaAbC
import Derived.Test.YtemhgjhfejloiaaPlA
import Derived.Test.YtemhgjhfejloiaaProg
namespace Go.Ab
open Go Go.Proofs
def table : List (Nat × TI) := [
  (3, ⟨1, 8, .int .i64, 0, [], [(.int .i64 0)], false, some (.ints .i64 []), none⟩),
  (4, ⟨1, 1, .bool, 0, [], [(.bool false)], false, some (.bools []), none⟩),
  (5, ⟨1, 1, .int .u8, 0, [], [(.int .u8 0)], false, some (.ints .u8 []), none⟩),
  (9, ⟨1, 16, .string, 0, [], [(.str ByteArray.empty)], false, some (.strs []), none⟩),
  (22, ⟨1, 24, .slice, 26, [], [.nils], false, none, none⟩),
  (23, ⟨1, 8, .int .i64, 0, [], [(.int .i64 0)], false, some (.ints .i64 []), none⟩),
  (26, ⟨1, 24, .slice, 3, [], [.nils], false, none, some (.rows [])⟩),
  (28, ⟨1, 8, .other, 0, [], [.nilf], false, none, none⟩),
  (31, ⟨1, 24, .slice, 62, [], [.nils], false, none, some (.arows [])⟩),
  (33, ⟨4, 48, .struct, 0, [(0, 1, false), (1, 1, false), (2, 1, false), (3, 1, false)], [(.int .i64 0), (.int .i64 0), (.int .i64 0), .nils], false, none, none⟩),
  (40, ⟨2, 32, .struct, 0, [(0, 1, false), (1, 1, false)], [(.int .i64 0), .nils], false, none, none⟩),
  (41, ⟨1, 2, .int .u16, 0, [], [(.int .u16 0)], false, some (.ints .u16 []), none⟩),
  (48, ⟨1, 24, .slice, 53, [], [.nils], false, none, none⟩),
  (53, ⟨2, 32, .struct, 0, [(0, 1, false), (1, 1, false)], [(.int .i64 0), .nils], false, none, some (.pieces [])⟩),
  (56, ⟨1, 8, .other, 0, [], [.nilf], false, none, none⟩),
  (62, ⟨3, 24, .struct, 0, [(0, 1, false), (1, 1, false), (2, 1, false)], [(.int .i64 0), (.int .i64 0), (.int .i64 0)], true, some (.arcs []), none⟩),
  (105, ⟨1, 8, .other, 0, [], [.nilf], false, none, none⟩),
  (115, ⟨1, 8, .pointer, 118, [], [.nilp], false, none, none⟩),
  (116, ⟨12, 96, .array 12, 3, [], [(.int .i64 0), (.int .i64 0), (.int .i64 0), (.int .i64 0), (.int .i64 0), (.int .i64 0), (.int .i64 0), (.int .i64 0), (.int .i64 0), (.int .i64 0), (.int .i64 0), (.int .i64 0)], false, some (.ints .i64 []), none⟩),
  (118, ⟨17, 168, .struct, 0, [(0, 4, true), (4, 1, false), (5, 12, true)], [(.int .i64 0), (.int .i64 0), (.int .i64 0), .nils, .nils, (.int .i64 0), (.int .i64 0), (.int .i64 0), (.int .i64 0), (.int .i64 0), (.int .i64 0), (.int .i64 0), (.int .i64 0), (.int .i64 0), (.int .i64 0), (.int .i64 0), (.int .i64 0)], false, none, none⟩),
  (120, ⟨1, 8, .other, 0, [], [.nilf], false, none, none⟩),
  (122, ⟨144, 1152, .array 12, 116, [], [(.int .i64 0), (.int .i64 0), (.int .i64 0), (.int .i64 0), (.int .i64 0), (.int .i64 0), (.int .i64 0), (.int .i64 0), (.int .i64 0), (.int .i64 0), (.int .i64 0), (.int .i64 0), (.int .i64 0), (.int .i64 0), (.int .i64 0), (.int .i64 0), (.int .i64 0), (.int .i64 0), (.int .i64 0), (.int .i64 0), (.int .i64 0), (.int .i64 0), (.int .i64 0), (.int .i64 0), (.int .i64 0), (.int .i64 0), (.int .i64 0), (.int .i64 0), (.int .i64 0), (.int .i64 0), (.int .i64 0), (.int .i64 0), (.int .i64 0), (.int .i64 0), (.int .i64 0), (.int .i64 0), (.int .i64 0), (.int .i64 0), (.int .i64 0), (.int .i64 0), (.int .i64 0), (.int .i64 0), (.int .i64 0), (.int .i64 0), (.int .i64 0), (.int .i64 0), (.int .i64 0), (.int .i64 0), (.int .i64 0), (.int .i64 0), (.int .i64 0), (.int .i64 0), (.int .i64 0), (.int .i64 0), (.int .i64 0), (.int .i64 0), (.int .i64 0), (.int .i64 0), (.int .i64 0), (.int .i64 0), (.int .i64 0), (.int .i64 0), (.int .i64 0), (.int .i64 0), (.int .i64 0), (.int .i64 0), (.int .i64 0), (.int .i64 0), (.int .i64 0), (.int .i64 0), (.int .i64 0), (.int .i64 0), (.int .i64 0), (.int .i64 0), (.int .i64 0), (.int .i64 0), (.int .i64 0), (.int .i64 0), (.int .i64 0), (.int .i64 0), (.int .i64 0), (.int .i64 0), (.int .i64 0), (.int .i64 0), (.int .i64 0), (.int .i64 0), (.int .i64 0), (.int .i64 0), (.int .i64 0), (.int .i64 0), (.int .i64 0), (.int .i64 0), (.int .i64 0), (.int .i64 0), (.int .i64 0), (.int .i64 0), (.int .i64 0), (.int .i64 0), (.int .i64 0), (.int .i64 0), (.int .i64 0), (.int .i64 0), (.int .i64 0), (.int .i64 0), (.int .i64 0), (.int .i64 0), (.int .i64 0), (.int .i64 0), (.int .i64 0), (.int .i64 0), (.int .i64 0), (.int .i64 0), (.int .i64 0), (.int .i64 0), (.int .i64 0), (.int .i64 0), (.int .i64 0), (.int .i64 0), (.int .i64 0), (.int .i64 0), (.int .i64 0), (.int .i64 0), (.int .i64 0), (.int .i64 0), (.int .i64 0), (.int .i64 0), (.int .i64 0), (.int .i64 0), (.int .i64 0), (.int .i64 0), (.int .i64 0), (.int .i64 0), (.int .i64 0), (.int .i64 0), (.int .i64 0), (.int .i64 0), (.int .i64 0), (.int .i64 0), (.int .i64 0), (.int .i64 0), (.int .i64 0), (.int .i64 0), (.int .i64 0), (.int .i64 0)], false, some (.ints .i64 []), none⟩),
  (123, ⟨12, 24, .array 12, 41, [], [(.int .u16 0), (.int .u16 0), (.int .u16 0), (.int .u16 0), (.int .u16 0), (.int .u16 0), (.int .u16 0), (.int .u16 0), (.int .u16 0), (.int .u16 0), (.int .u16 0), (.int .u16 0)], false, some (.ints .u16 []), none⟩),
  (126, ⟨1, 8, .pointer, 122, [], [.nilp], false, none, none⟩),
  (138, ⟨8, 64, .array 8, 3, [], [(.int .i64 0), (.int .i64 0), (.int .i64 0), (.int .i64 0), (.int .i64 0), (.int .i64 0), (.int .i64 0), (.int .i64 0)], false, some (.ints .i64 []), none⟩),
  (141, ⟨1, 8, .other, 0, [], [.nilf], false, none, none⟩),
  (142, ⟨12, 288, .array 12, 26, [], [.nils, .nils, .nils, .nils, .nils, .nils, .nils, .nils, .nils, .nils, .nils, .nils], false, none, none⟩),
  (146, ⟨1, 24, .slice, 4, [], [.nils], false, none, some (.brows [])⟩),
  (149, ⟨1, 24, .slice, 41, [], [.nils], false, none, none⟩),
  (150, ⟨1, 8, .other, 0, [], [.nilf], false, none, none⟩),
  (162, ⟨12, 12, .array 12, 4, [], [(.bool false), (.bool false), (.bool false), (.bool false), (.bool false), (.bool false), (.bool false), (.bool false), (.bool false), (.bool false), (.bool false), (.bool false)], false, some (.bools []), none⟩),
  (167, ⟨1, 8, .int .u64, 0, [], [(.int .u64 0)], false, some (.ints .u64 []), none⟩),
  (175, ⟨1, 4, .int .u32, 0, [], [(.int .u32 0)], false, some (.ints .u32 []), none⟩),
  (178, ⟨1, 8, .int .u64, 0, [], [(.int .u64 0)], false, some (.ints .u64 []), none⟩),
  (182, ⟨1, 8, .int .i64, 0, [], [(.int .i64 0)], false, some (.ints .i64 []), none⟩),
  (197, ⟨1, 24, .slice, 201, [], [.nils], false, none, none⟩),
  (201, ⟨2, 16, .struct, 0, [(0, 1, false), (1, 1, false)], [(.int .i64 0), (.bool false)], false, some (.steps []), none⟩),
  (202, ⟨1, 8, .int .u64, 0, [], [(.int .u64 0)], false, some (.ints .u64 []), none⟩),
  (206, ⟨1, 8, .pointer, 3, [], [.nilp], false, none, none⟩),
  (210, ⟨24, 192, .array 12, 201, [], [(.int .i64 0), (.bool false), (.int .i64 0), (.bool false), (.int .i64 0), (.bool false), (.int .i64 0), (.bool false), (.int .i64 0), (.bool false), (.int .i64 0), (.bool false), (.int .i64 0), (.bool false), (.int .i64 0), (.bool false), (.int .i64 0), (.bool false), (.int .i64 0), (.bool false), (.int .i64 0), (.bool false), (.int .i64 0), (.bool false)], false, some (.steps []), none⟩)
]
def T (t : Nat) : Option TI := look t table
theorem tabOk : TOkL Try.prog table := tokL_of (by kernel_rfl)
theorem hT : ∀ t i, T t = some i → TF Try.prog t i := fun _ _ h => (tabOk.at_ h).facts
end Go.Ab
