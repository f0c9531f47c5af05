/- The types of the program, as far as the walks ask for them. -/
import Derived.Test.YteccjcionjkllaaAbC
import Derived.Test.YteccjcionjkllaaPlA
import Derived.Test.YteccjcionjkllaaProg
namespace Go.Ab
open Go Go.Proofs
def table : List (Nat × TI) := [
  (2, ⟨1, 8, .int .i64, 0, [], [(.int .i64 0)], false, some (.ints .i64 []), none⟩),
  (3, ⟨1, 8, .int .i64, 0, [], [(.int .i64 0)], false, some (.ints .i64 []), none⟩),
  (4, ⟨1, 1, .bool, 0, [], [(.bool false)], false, some (.bools []), none⟩),
  (5, ⟨1, 1, .int .u8, 0, [], [(.int .u8 0)], false, some (.ints .u8 []), none⟩),
  (9, ⟨1, 16, .string, 0, [], [(.str ByteArray.empty)], false, some (.strs []), none⟩),
  (22, ⟨1, 24, .slice, 33, [], [.nils], false, none, some (.arows [])⟩),
  (24, ⟨4, 48, .struct, 0, [(0, 1, false), (1, 1, false), (2, 1, false), (3, 1, false)], [(.int .i64 0), (.int .i64 0), (.int .i64 0), .nils], false, none, none⟩),
  (26, ⟨1, 24, .slice, 3, [], [.nils], false, none, some (.rows [])⟩),
  (27, ⟨1, 8, .int .i64, 0, [], [(.int .i64 0)], false, some (.ints .i64 []), none⟩),
  (31, ⟨2, 32, .struct, 0, [(0, 1, false), (1, 1, false)], [(.int .i64 0), .nils], false, none, none⟩),
  (33, ⟨3, 24, .struct, 0, [(0, 1, false), (1, 1, false), (2, 1, false)], [(.int .i64 0), (.int .i64 0), (.int .i64 0)], true, some (.arcs []), none⟩),
  (37, ⟨1, 24, .slice, 103, [], [.nils], false, none, none⟩),
  (68, ⟨1, 24, .slice, 26, [], [.nils], false, none, none⟩),
  (77, ⟨1, 8, .other, 0, [], [.nilf], false, none, none⟩),
  (78, ⟨1, 2, .int .u16, 0, [], [(.int .u16 0)], false, some (.ints .u16 []), none⟩),
  (85, ⟨3, 40, .struct, 0, [(0, 1, false), (1, 1, false), (2, 1, false)], [(.int .i64 0), .nils, (.int .u16 0)], false, none, none⟩),
  (89, ⟨1, 8, .pointer, 154, [], [.nilp], false, none, none⟩),
  (93, ⟨5, 48, .struct, 0, [(0, 1, false), (1, 1, false), (2, 1, false), (3, 1, false), (4, 1, false)], [(.int .i64 0), (.int .i64 0), (.int .i64 0), (.int .i64 0), (.str ByteArray.empty)], false, none, none⟩),
  (103, ⟨2, 32, .struct, 0, [(0, 1, false), (1, 1, false)], [(.int .i64 0), .nils], false, none, some (.pieces [])⟩),
  (109, ⟨1, 24, .slice, 4, [], [.nils], false, none, some (.brows [])⟩),
  (128, ⟨1, 24, .slice, 22, [], [.nils], false, none, none⟩),
  (132, ⟨12, 96, .array 12, 3, [], [(.int .i64 0), (.int .i64 0), (.int .i64 0), (.int .i64 0), (.int .i64 0), (.int .i64 0), (.int .i64 0), (.int .i64 0), (.int .i64 0), (.int .i64 0), (.int .i64 0), (.int .i64 0)], false, some (.ints .i64 []), none⟩),
  (136, ⟨1, 8, .other, 0, [], [.nilf], false, none, none⟩),
  (143, ⟨1, 8, .pointer, 145, [], [.nilp], false, none, none⟩),
  (145, ⟨17, 168, .struct, 0, [(0, 4, true), (4, 1, false), (5, 12, true)], [(.int .i64 0), (.int .i64 0), (.int .i64 0), .nils, .nils, (.int .i64 0), (.int .i64 0), (.int .i64 0), (.int .i64 0), (.int .i64 0), (.int .i64 0), (.int .i64 0), (.int .i64 0), (.int .i64 0), (.int .i64 0), (.int .i64 0), (.int .i64 0)], false, none, none⟩),
  (146, ⟨1, 8, .other, 0, [], [.nilf], false, none, none⟩),
  (150, ⟨5, 72, .struct, 0, [(0, 4, true), (4, 1, false)], [(.int .i64 0), (.int .i64 0), (.int .i64 0), .nils, .nils], false, none, none⟩),
  (151, ⟨1, 24, .slice, 150, [], [.nils], false, none, none⟩),
  (152, ⟨1, 24, .slice, 9, [], [.nils], false, none, none⟩),
  (154, ⟨8, 144, .struct, 0, [(0, 5, true), (5, 1, false), (6, 1, false), (7, 1, false)], [(.int .i64 0), (.int .i64 0), (.int .i64 0), .nils, .nils, .nils, .nils, .nils], false, none, none⟩),
  (158, ⟨144, 1152, .array 12, 132, [], [(.int .i64 0), (.int .i64 0), (.int .i64 0), (.int .i64 0), (.int .i64 0), (.int .i64 0), (.int .i64 0), (.int .i64 0), (.int .i64 0), (.int .i64 0), (.int .i64 0), (.int .i64 0), (.int .i64 0), (.int .i64 0), (.int .i64 0), (.int .i64 0), (.int .i64 0), (.int .i64 0), (.int .i64 0), (.int .i64 0), (.int .i64 0), (.int .i64 0), (.int .i64 0), (.int .i64 0), (.int .i64 0), (.int .i64 0), (.int .i64 0), (.int .i64 0), (.int .i64 0), (.int .i64 0), (.int .i64 0), (.int .i64 0), (.int .i64 0), (.int .i64 0), (.int .i64 0), (.int .i64 0), (.int .i64 0), (.int .i64 0), (.int .i64 0), (.int .i64 0), (.int .i64 0), (.int .i64 0), (.int .i64 0), (.int .i64 0), (.int .i64 0), (.int .i64 0), (.int .i64 0), (.int .i64 0), (.int .i64 0), (.int .i64 0), (.int .i64 0), (.int .i64 0), (.int .i64 0), (.int .i64 0), (.int .i64 0), (.int .i64 0), (.int .i64 0), (.int .i64 0), (.int .i64 0), (.int .i64 0), (.int .i64 0), (.int .i64 0), (.int .i64 0), (.int .i64 0), (.int .i64 0), (.int .i64 0), (.int .i64 0), (.int .i64 0), (.int .i64 0), (.int .i64 0), (.int .i64 0), (.int .i64 0), (.int .i64 0), (.int .i64 0), (.int .i64 0), (.int .i64 0), (.int .i64 0), (.int .i64 0), (.int .i64 0), (.int .i64 0), (.int .i64 0), (.int .i64 0), (.int .i64 0), (.int .i64 0), (.int .i64 0), (.int .i64 0), (.int .i64 0), (.int .i64 0), (.int .i64 0), (.int .i64 0), (.int .i64 0), (.int .i64 0), (.int .i64 0), (.int .i64 0), (.int .i64 0), (.int .i64 0), (.int .i64 0), (.int .i64 0), (.int .i64 0), (.int .i64 0), (.int .i64 0), (.int .i64 0), (.int .i64 0), (.int .i64 0), (.int .i64 0), (.int .i64 0), (.int .i64 0), (.int .i64 0), (.int .i64 0), (.int .i64 0), (.int .i64 0), (.int .i64 0), (.int .i64 0), (.int .i64 0), (.int .i64 0), (.int .i64 0), (.int .i64 0), (.int .i64 0), (.int .i64 0), (.int .i64 0), (.int .i64 0), (.int .i64 0), (.int .i64 0), (.int .i64 0), (.int .i64 0), (.int .i64 0), (.int .i64 0), (.int .i64 0), (.int .i64 0), (.int .i64 0), (.int .i64 0), (.int .i64 0), (.int .i64 0), (.int .i64 0), (.int .i64 0), (.int .i64 0), (.int .i64 0), (.int .i64 0), (.int .i64 0), (.int .i64 0), (.int .i64 0), (.int .i64 0), (.int .i64 0), (.int .i64 0)], false, some (.ints .i64 []), none⟩),
  (159, ⟨12, 24, .array 12, 78, [], [(.int .u16 0), (.int .u16 0), (.int .u16 0), (.int .u16 0), (.int .u16 0), (.int .u16 0), (.int .u16 0), (.int .u16 0), (.int .u16 0), (.int .u16 0), (.int .u16 0), (.int .u16 0)], false, some (.ints .u16 []), none⟩),
  (162, ⟨1, 8, .pointer, 158, [], [.nilp], false, none, none⟩),
  (166, ⟨1, 24, .slice, 170, [], [.nils], false, none, none⟩),
  (170, ⟨2, 16, .struct, 0, [(0, 1, false), (1, 1, false)], [(.int .i64 0), (.bool false)], false, some (.steps []), none⟩),
  (175, ⟨1, 24, .slice, 37, [], [.nils], false, none, none⟩),
  (180, ⟨1, 8, .int .u64, 0, [], [(.int .u64 0)], false, some (.ints .u64 []), none⟩),
  (186, ⟨12, 12, .array 12, 4, [], [(.bool false), (.bool false), (.bool false), (.bool false), (.bool false), (.bool false), (.bool false), (.bool false), (.bool false), (.bool false), (.bool false), (.bool false)], false, some (.bools []), none⟩),
  (188, ⟨24, 192, .array 12, 170, [], [(.int .i64 0), (.bool false), (.int .i64 0), (.bool false), (.int .i64 0), (.bool false), (.int .i64 0), (.bool false), (.int .i64 0), (.bool false), (.int .i64 0), (.bool false), (.int .i64 0), (.bool false), (.int .i64 0), (.bool false), (.int .i64 0), (.bool false), (.int .i64 0), (.bool false), (.int .i64 0), (.bool false), (.int .i64 0), (.bool false)], false, some (.steps []), none⟩),
  (190, ⟨1, 8, .int .i64, 0, [], [(.int .i64 0)], false, some (.ints .i64 []), none⟩),
  (196, ⟨1, 4, .int .u32, 0, [], [(.int .u32 0)], false, some (.ints .u32 []), none⟩),
  (198, ⟨1, 8, .int .u64, 0, [], [(.int .u64 0)], false, some (.ints .u64 []), none⟩),
  (203, ⟨1, 24, .slice, 5, [], [.nils], false, none, none⟩),
  (209, ⟨1, 8, .int .u64, 0, [], [(.int .u64 0)], false, some (.ints .u64 []), none⟩),
  (213, ⟨1, 8, .pointer, 3, [], [.nilp], false, none, none⟩)
]
def T (t : Nat) : Option TI := look t table
theorem tabOk : TOkL Try.prog table := tokL_of (by kernel_rfl)
theorem hT : ∀ t i, T t = some i → TF Try.prog t i := fun _ _ h => (tabOk.at_ h).facts
end Go.Ab
