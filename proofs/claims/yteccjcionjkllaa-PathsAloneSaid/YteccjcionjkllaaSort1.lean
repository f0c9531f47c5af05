/- The library's contract of slices.Sort, laid at this program. -/
import Derived.Test.YteccjcionjkllaaTab
import Derived.Test.YteccjcionjkllaaSort0
namespace Go.Ab
open Go Go.Proofs Go.Shelf
def ren189 : Ren := ⟨fun | 125 => 127 | 128 => 143 | 129 => 144 | 189 => 93 | 215 => 129 | 216 => 97 | 257 => 126 | 294 => 135 | 295 => 136 | 296 => 137 | 297 => 138 | 298 => 139 | 299 => 140 | 300 => 141 | 301 => 142 | 328 => 155 | 329 => 156 | 330 => 157 | 331 => 158 | 332 => 159 | 343 => 163 | n => n, fun | 0 => 0 | 3 => 3 | 4 => 4 | 5 => 5 | 9 => 9 | 28 => 26 | 46 => 180 | 51 => 196 | 53 => 198 | 131 => 172 | 182 => 190 | 183 => 191 | 218 => 209 | 222 => 213 | 228 => 217 | 229 => 218 | n => n, fun n => n⟩
theorem lays189 : Lays.n189 Try.prog ren189 := {
  mixed := by kernel_rfl
  f125 := Try.func127.trans (congrArg some (by kernel_rfl))
  f128 := Try.func143.trans (congrArg some (by kernel_rfl))
  f129 := Try.func144.trans (congrArg some (by kernel_rfl))
  f189 := Try.func93.trans (congrArg some (by kernel_rfl))
  f215 := Try.func129.trans (congrArg some (by kernel_rfl))
  f216 := Try.func97.trans (congrArg some (by kernel_rfl))
  f257 := Try.func126.trans (congrArg some (by kernel_rfl))
  f294 := Try.func135.trans (congrArg some (by kernel_rfl))
  f295 := Try.func136.trans (congrArg some (by kernel_rfl))
  f296 := Try.func137.trans (congrArg some (by kernel_rfl))
  f297 := Try.func138.trans (congrArg some (by kernel_rfl))
  f298 := Try.func139.trans (congrArg some (by kernel_rfl))
  f299 := Try.func140.trans (congrArg some (by kernel_rfl))
  f300 := Try.func141.trans (congrArg some (by kernel_rfl))
  f301 := Try.func142.trans (congrArg some (by kernel_rfl))
  f328 := Try.func155.trans (congrArg some (by kernel_rfl))
  f329 := Try.func156.trans (congrArg some (by kernel_rfl))
  f330 := Try.func157.trans (congrArg some (by kernel_rfl))
  f331 := Try.func158.trans (congrArg some (by kernel_rfl))
  f332 := Try.func159.trans (congrArg some (by kernel_rfl))
  f343 := Try.func163.trans (congrArg some (by kernel_rfl))
  t0 := Try.underlying0
  a0 := Try.isAgg0
  z0 := Try.sizeOf0
  v0 := Try.zeroValue0
  t3 := Try.underlying3
  a3 := Try.isAgg3
  z3 := Try.sizeOf3
  v3 := Try.zeroValue3
  t4 := Try.underlying4
  a4 := Try.isAgg4
  z4 := Try.sizeOf4
  v4 := Try.zeroValue4
  t5 := Try.underlying5
  a5 := Try.isAgg5
  z5 := Try.sizeOf5
  v5 := Try.zeroValue5
  t9 := Try.underlying9
  a9 := Try.isAgg9
  z9 := Try.sizeOf9
  v9 := Try.zeroValue9
  t28 := Try.underlying26
  a28 := Try.isAgg26
  z28 := Try.sizeOf26
  v28 := Try.zeroValue26
  t46 := Try.underlying180
  a46 := Try.isAgg180
  z46 := Try.sizeOf180
  v46 := Try.zeroValue180
  t51 := Try.underlying196
  a51 := Try.isAgg196
  z51 := Try.sizeOf196
  v51 := Try.zeroValue196
  t53 := Try.underlying198
  a53 := Try.isAgg198
  z53 := Try.sizeOf198
  v53 := Try.zeroValue198
  t131 := Try.underlying172
  a131 := Try.isAgg172
  z131 := Try.sizeOf172
  v131 := Try.zeroValue172
  t182 := Try.underlying190
  a182 := Try.isAgg190
  z182 := Try.sizeOf190
  v182 := Try.zeroValue190
  t183 := Try.underlying191
  a183 := Try.isAgg191
  z183 := Try.sizeOf191
  v183 := Try.zeroValue191
  t218 := Try.underlying209
  a218 := Try.isAgg209
  z218 := Try.sizeOf209
  v218 := Try.zeroValue209
  t222 := Try.underlying213
  a222 := Try.isAgg213
  z222 := Try.sizeOf213
  v222 := Try.zeroValue213
  t228 := Try.underlying217
  a228 := Try.isAgg217
  z228 := Try.sizeOf217
  v228 := Try.zeroValue217
  t229 := Try.underlying218
  a229 := Try.isAgg218
  z229 := Try.sizeOf218
  v229 := Try.zeroValue218 }
theorem sort_is (id : Nat) (zs : List Int) (hlen : zs.length < 4611686018427387904) :
    ACall Try.prog 93 [.one (.rw id 0 zs.length)] [(id, .flat (.ints .i64 zs))] (fun ov oh => ov = .tup [] ∧ oh = [(id, .flat (.ints .i64 (sorted zs)))]) :=
  sort_ints lays189 ⟨_, lays189.f189, rfl, rfl⟩ id zs hlen
end Go.Ab
