/- The library's contract of slices.Sort, laid at this program. -/
import Derived.Test.YtakfbagokponeaaTab
import Derived.Test.YtakfbagokponeaaSort0
namespace Go.Ab
open Go Go.Proofs Go.Shelf
def ren189 : Ren := ⟨fun | 125 => 128 | 128 => 152 | 129 => 153 | 189 => 95 | 215 => 139 | 216 => 149 | 257 => 127 | 294 => 143 | 295 => 144 | 296 => 145 | 297 => 146 | 298 => 147 | 299 => 148 | 300 => 150 | 301 => 151 | 328 => 167 | 329 => 168 | 330 => 169 | 331 => 170 | 332 => 171 | 343 => 177 | n => n, fun | 0 => 0 | 3 => 3 | 4 => 4 | 5 => 5 | 9 => 9 | 28 => 25 | 46 => 170 | 51 => 197 | 53 => 199 | 131 => 194 | 182 => 189 | 183 => 190 | 218 => 216 | 222 => 220 | 228 => 226 | 229 => 227 | n => n, fun n => n⟩
theorem lays189 : Lays.n189 Try.prog ren189 := {
  mixed := by kernel_rfl
  f125 := Try.func128.trans (congrArg some (by kernel_rfl))
  f128 := Try.func152.trans (congrArg some (by kernel_rfl))
  f129 := Try.func153.trans (congrArg some (by kernel_rfl))
  f189 := Try.func95.trans (congrArg some (by kernel_rfl))
  f215 := Try.func139.trans (congrArg some (by kernel_rfl))
  f216 := Try.func149.trans (congrArg some (by kernel_rfl))
  f257 := Try.func127.trans (congrArg some (by kernel_rfl))
  f294 := Try.func143.trans (congrArg some (by kernel_rfl))
  f295 := Try.func144.trans (congrArg some (by kernel_rfl))
  f296 := Try.func145.trans (congrArg some (by kernel_rfl))
  f297 := Try.func146.trans (congrArg some (by kernel_rfl))
  f298 := Try.func147.trans (congrArg some (by kernel_rfl))
  f299 := Try.func148.trans (congrArg some (by kernel_rfl))
  f300 := Try.func150.trans (congrArg some (by kernel_rfl))
  f301 := Try.func151.trans (congrArg some (by kernel_rfl))
  f328 := Try.func167.trans (congrArg some (by kernel_rfl))
  f329 := Try.func168.trans (congrArg some (by kernel_rfl))
  f330 := Try.func169.trans (congrArg some (by kernel_rfl))
  f331 := Try.func170.trans (congrArg some (by kernel_rfl))
  f332 := Try.func171.trans (congrArg some (by kernel_rfl))
  f343 := Try.func177.trans (congrArg some (by kernel_rfl))
  t0 := Try.underlying0
  a0 := Try.isAgg0
  z0 := Try.sizeOf0
  v0 := Try.zeroValue0
  t3 := Try.underlying3
  a3 := Try.isAgg3
  z3 := Try.sizeOf3
  v3 := Try.zeroValue3
  t4 := Try.underlying4
  a4 := Try.isAgg4
  z4 := Try.sizeOf4
  v4 := Try.zeroValue4
  t5 := Try.underlying5
  a5 := Try.isAgg5
  z5 := Try.sizeOf5
  v5 := Try.zeroValue5
  t9 := Try.underlying9
  a9 := Try.isAgg9
  z9 := Try.sizeOf9
  v9 := Try.zeroValue9
  t28 := Try.underlying25
  a28 := Try.isAgg25
  z28 := Try.sizeOf25
  v28 := Try.zeroValue25
  t46 := Try.underlying170
  a46 := Try.isAgg170
  z46 := Try.sizeOf170
  v46 := Try.zeroValue170
  t51 := Try.underlying197
  a51 := Try.isAgg197
  z51 := Try.sizeOf197
  v51 := Try.zeroValue197
  t53 := Try.underlying199
  a53 := Try.isAgg199
  z53 := Try.sizeOf199
  v53 := Try.zeroValue199
  t131 := Try.underlying194
  a131 := Try.isAgg194
  z131 := Try.sizeOf194
  v131 := Try.zeroValue194
  t182 := Try.underlying189
  a182 := Try.isAgg189
  z182 := Try.sizeOf189
  v182 := Try.zeroValue189
  t183 := Try.underlying190
  a183 := Try.isAgg190
  z183 := Try.sizeOf190
  v183 := Try.zeroValue190
  t218 := Try.underlying216
  a218 := Try.isAgg216
  z218 := Try.sizeOf216
  v218 := Try.zeroValue216
  t222 := Try.underlying220
  a222 := Try.isAgg220
  z222 := Try.sizeOf220
  v222 := Try.zeroValue220
  t228 := Try.underlying226
  a228 := Try.isAgg226
  z228 := Try.sizeOf226
  v228 := Try.zeroValue226
  t229 := Try.underlying227
  a229 := Try.isAgg227
  z229 := Try.sizeOf227
  v229 := Try.zeroValue227 }

theorem sort_is (id : Nat) (zs : List Int) (hlen : zs.length < 4611686018427387904) :
    ACall Try.prog 95 [.one (.rw id 0 zs.length)] [(id, .flat (.ints .i64 zs))] (fun ov oh => ov = .tup [] ∧ oh = [(id, .flat (.ints .i64 (sorted zs)))]) :=
  sort_ints lays189 ⟨_, lays189.f189, rfl, rfl⟩ id zs hlen
end Go.Ab
