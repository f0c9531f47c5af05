/- The library's contract of slices.Sort, laid at this program. -/
import Derived.Test.YtglkldhjffnhhaaTab
import Derived.Test.YtglkldhjffnhhaaSort0
namespace Go.Ab
open Go Go.Proofs Go.Shelf
def ren189 : Ren := ⟨fun | 125 => 152 | 128 => 167 | 129 => 168 | 189 => 128 | 215 => 154 | 216 => 164 | 257 => 151 | 294 => 158 | 295 => 159 | 296 => 160 | 297 => 161 | 298 => 162 | 299 => 163 | 300 => 165 | 301 => 166 | 328 => 177 | 329 => 178 | 330 => 179 | 331 => 180 | 332 => 181 | 343 => 185 | n => n, fun | 0 => 0 | 3 => 3 | 4 => 4 | 5 => 5 | 9 => 9 | 28 => 25 | 46 => 172 | 51 => 180 | 53 => 183 | 131 => 110 | 182 => 187 | 183 => 188 | 218 => 200 | 222 => 204 | 228 => 208 | 229 => 209 | n => n, fun n => n⟩
theorem lays189 : Lays.n189 Try.prog ren189 := {
  mixed := by kernel_rfl
  f125 := Try.func152.trans (congrArg some (by kernel_rfl))
  f128 := Try.func167.trans (congrArg some (by kernel_rfl))
  f129 := Try.func168.trans (congrArg some (by kernel_rfl))
  f189 := Try.func128.trans (congrArg some (by kernel_rfl))
  f215 := Try.func154.trans (congrArg some (by kernel_rfl))
  f216 := Try.func164.trans (congrArg some (by kernel_rfl))
  f257 := Try.func151.trans (congrArg some (by kernel_rfl))
  f294 := Try.func158.trans (congrArg some (by kernel_rfl))
  f295 := Try.func159.trans (congrArg some (by kernel_rfl))
  f296 := Try.func160.trans (congrArg some (by kernel_rfl))
  f297 := Try.func161.trans (congrArg some (by kernel_rfl))
  f298 := Try.func162.trans (congrArg some (by kernel_rfl))
  f299 := Try.func163.trans (congrArg some (by kernel_rfl))
  f300 := Try.func165.trans (congrArg some (by kernel_rfl))
  f301 := Try.func166.trans (congrArg some (by kernel_rfl))
  f328 := Try.func177.trans (congrArg some (by kernel_rfl))
  f329 := Try.func178.trans (congrArg some (by kernel_rfl))
  f330 := Try.func179.trans (congrArg some (by kernel_rfl))
  f331 := Try.func180.trans (congrArg some (by kernel_rfl))
  f332 := Try.func181.trans (congrArg some (by kernel_rfl))
  f343 := Try.func185.trans (congrArg some (by kernel_rfl))
  t0 := Try.underlying0
  a0 := Try.isAgg0
  z0 := Try.sizeOf0
  v0 := Try.zeroValue0
  t3 := Try.underlying3
  a3 := Try.isAgg3
  z3 := Try.sizeOf3
  v3 := Try.zeroValue3
  t4 := Try.underlying4
  a4 := Try.isAgg4
  z4 := Try.sizeOf4
  v4 := Try.zeroValue4
  t5 := Try.underlying5
  a5 := Try.isAgg5
  z5 := Try.sizeOf5
  v5 := Try.zeroValue5
  t9 := Try.underlying9
  a9 := Try.isAgg9
  z9 := Try.sizeOf9
  v9 := Try.zeroValue9
  t28 := Try.underlying25
  a28 := Try.isAgg25
  z28 := Try.sizeOf25
  v28 := Try.zeroValue25
  t46 := Try.underlying172
  a46 := Try.isAgg172
  z46 := Try.sizeOf172
  v46 := Try.zeroValue172
  t51 := Try.underlying180
  a51 := Try.isAgg180
  z51 := Try.sizeOf180
  v51 := Try.zeroValue180
  t53 := Try.underlying183
  a53 := Try.isAgg183
  z53 := Try.sizeOf183
  v53 := Try.zeroValue183
  t131 := Try.underlying110
  a131 := Try.isAgg110
  z131 := Try.sizeOf110
  v131 := Try.zeroValue110
  t182 := Try.underlying187
  a182 := Try.isAgg187
  z182 := Try.sizeOf187
  v182 := Try.zeroValue187
  t183 := Try.underlying188
  a183 := Try.isAgg188
  z183 := Try.sizeOf188
  v183 := Try.zeroValue188
  t218 := Try.underlying200
  a218 := Try.isAgg200
  z218 := Try.sizeOf200
  v218 := Try.zeroValue200
  t222 := Try.underlying204
  a222 := Try.isAgg204
  z222 := Try.sizeOf204
  v222 := Try.zeroValue204
  t228 := Try.underlying208
  a228 := Try.isAgg208
  z228 := Try.sizeOf208
  v228 := Try.zeroValue208
  t229 := Try.underlying209
  a229 := Try.isAgg209
  z229 := Try.sizeOf209
  v229 := Try.zeroValue209 }

theorem sort_is (id : Nat) (zs : List Int) (hlen : zs.length < 4611686018427387904) :
    ACall Try.prog 128 [.one (.rw id 0 zs.length)] [(id, .flat (.ints .i64 zs))] (fun ov oh => ov = .tup [] ∧ oh = [(id, .flat (.ints .i64 (sorted zs)))]) :=
  sort_ints lays189 ⟨_, lays189.f189, rfl, rfl⟩ id zs hlen
end Go.Ab
