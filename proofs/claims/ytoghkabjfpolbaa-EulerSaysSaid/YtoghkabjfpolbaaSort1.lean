/- The library's contract of slices.Sort, laid at this program. -/
import Derived.Test.YtoghkabjfpolbaaTab
import Derived.Test.YtoghkabjfpolbaaSort0
namespace Go.Ab
open Go Go.Proofs Go.Shelf
def ren189 : Ren := ⟨fun | 125 => 153 | 128 => 174 | 129 => 175 | 189 => 115 | 215 => 155 | 216 => 140 | 257 => 152 | 294 => 166 | 295 => 167 | 296 => 168 | 297 => 169 | 298 => 170 | 299 => 171 | 300 => 172 | 301 => 173 | 328 => 188 | 329 => 189 | 330 => 190 | 331 => 191 | 332 => 192 | 343 => 196 | n => n, fun | 0 => 0 | 3 => 3 | 4 => 4 | 5 => 5 | 9 => 9 | 28 => 23 | 46 => 170 | 51 => 185 | 53 => 188 | 131 => 125 | 182 => 192 | 183 => 193 | 218 => 213 | 222 => 217 | 228 => 222 | 229 => 223 | n => n, fun n => n⟩
theorem lays189 : Lays.n189 Try.prog ren189 := {
  mixed := by kernel_rfl
  f125 := Try.func153.trans (congrArg some (by kernel_rfl))
  f128 := Try.func174.trans (congrArg some (by kernel_rfl))
  f129 := Try.func175.trans (congrArg some (by kernel_rfl))
  f189 := Try.func115.trans (congrArg some (by kernel_rfl))
  f215 := Try.func155.trans (congrArg some (by kernel_rfl))
  f216 := Try.func140.trans (congrArg some (by kernel_rfl))
  f257 := Try.func152.trans (congrArg some (by kernel_rfl))
  f294 := Try.func166.trans (congrArg some (by kernel_rfl))
  f295 := Try.func167.trans (congrArg some (by kernel_rfl))
  f296 := Try.func168.trans (congrArg some (by kernel_rfl))
  f297 := Try.func169.trans (congrArg some (by kernel_rfl))
  f298 := Try.func170.trans (congrArg some (by kernel_rfl))
  f299 := Try.func171.trans (congrArg some (by kernel_rfl))
  f300 := Try.func172.trans (congrArg some (by kernel_rfl))
  f301 := Try.func173.trans (congrArg some (by kernel_rfl))
  f328 := Try.func188.trans (congrArg some (by kernel_rfl))
  f329 := Try.func189.trans (congrArg some (by kernel_rfl))
  f330 := Try.func190.trans (congrArg some (by kernel_rfl))
  f331 := Try.func191.trans (congrArg some (by kernel_rfl))
  f332 := Try.func192.trans (congrArg some (by kernel_rfl))
  f343 := Try.func196.trans (congrArg some (by kernel_rfl))
  t0 := Try.underlying0
  a0 := Try.isAgg0
  z0 := Try.sizeOf0
  v0 := Try.zeroValue0
  t3 := Try.underlying3
  a3 := Try.isAgg3
  z3 := Try.sizeOf3
  v3 := Try.zeroValue3
  t4 := Try.underlying4
  a4 := Try.isAgg4
  z4 := Try.sizeOf4
  v4 := Try.zeroValue4
  t5 := Try.underlying5
  a5 := Try.isAgg5
  z5 := Try.sizeOf5
  v5 := Try.zeroValue5
  t9 := Try.underlying9
  a9 := Try.isAgg9
  z9 := Try.sizeOf9
  v9 := Try.zeroValue9
  t28 := Try.underlying23
  a28 := Try.isAgg23
  z28 := Try.sizeOf23
  v28 := Try.zeroValue23
  t46 := Try.underlying170
  a46 := Try.isAgg170
  z46 := Try.sizeOf170
  v46 := Try.zeroValue170
  t51 := Try.underlying185
  a51 := Try.isAgg185
  z51 := Try.sizeOf185
  v51 := Try.zeroValue185
  t53 := Try.underlying188
  a53 := Try.isAgg188
  z53 := Try.sizeOf188
  v53 := Try.zeroValue188
  t131 := Try.underlying125
  a131 := Try.isAgg125
  z131 := Try.sizeOf125
  v131 := Try.zeroValue125
  t182 := Try.underlying192
  a182 := Try.isAgg192
  z182 := Try.sizeOf192
  v182 := Try.zeroValue192
  t183 := Try.underlying193
  a183 := Try.isAgg193
  z183 := Try.sizeOf193
  v183 := Try.zeroValue193
  t218 := Try.underlying213
  a218 := Try.isAgg213
  z218 := Try.sizeOf213
  v218 := Try.zeroValue213
  t222 := Try.underlying217
  a222 := Try.isAgg217
  z222 := Try.sizeOf217
  v222 := Try.zeroValue217
  t228 := Try.underlying222
  a228 := Try.isAgg222
  z228 := Try.sizeOf222
  v228 := Try.zeroValue222
  t229 := Try.underlying223
  a229 := Try.isAgg223
  z229 := Try.sizeOf223
  v229 := Try.zeroValue223 }

theorem sort_is (id : Nat) (zs : List Int) (hlen : zs.length < 4611686018427387904) :
    ACall Try.prog 115 [.one (.rw id 0 zs.length)] [(id, .flat (.ints .i64 zs))] (fun ov oh => ov = .tup [] ∧ oh = [(id, .flat (.ints .i64 (sorted zs)))]) :=
  sort_ints lays189 ⟨_, lays189.f189, rfl, rfl⟩ id zs hlen
end Go.Ab
