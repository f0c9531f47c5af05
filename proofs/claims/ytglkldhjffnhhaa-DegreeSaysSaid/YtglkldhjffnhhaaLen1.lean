/- The library's contract of math/bits.Len, laid at this program. -/
import Derived.Test.YtglkldhjffnhhaaTab
import Derived.Test.YtglkldhjffnhhaaLen0
namespace Go.Ab
open Go Go.Proofs Go.Shelf
def ren125 : Ren := ⟨fun | 125 => 152 | 128 => 167 | 129 => 168 | n => n, fun | 3 => 3 | 4 => 4 | 5 => 5 | 9 => 9 | 46 => 172 | 51 => 180 | 53 => 183 | n => n, fun n => n⟩
theorem lays125 : Lays.n125 Try.prog ren125 := {
  mixed := by kernel_rfl
  f125 := Try.func152.trans (congrArg some (by kernel_rfl))
  f128 := Try.func167.trans (congrArg some (by kernel_rfl))
  f129 := Try.func168.trans (congrArg some (by kernel_rfl))
  t3 := Try.underlying3
  a3 := Try.isAgg3
  z3 := Try.sizeOf3
  v3 := Try.zeroValue3
  t4 := Try.underlying4
  a4 := Try.isAgg4
  z4 := Try.sizeOf4
  v4 := Try.zeroValue4
  t5 := Try.underlying5
  a5 := Try.isAgg5
  z5 := Try.sizeOf5
  v5 := Try.zeroValue5
  t9 := Try.underlying9
  a9 := Try.isAgg9
  z9 := Try.sizeOf9
  v9 := Try.zeroValue9
  t46 := Try.underlying172
  a46 := Try.isAgg172
  z46 := Try.sizeOf172
  v46 := Try.zeroValue172
  t51 := Try.underlying180
  a51 := Try.isAgg180
  z51 := Try.sizeOf180
  v51 := Try.zeroValue180
  t53 := Try.underlying183
  a53 := Try.isAgg183
  z53 := Try.sizeOf183
  v53 := Try.zeroValue183 }

theorem len_is (x : Int) (h0 : 0 ≤ x) (h1 : x ≤ 18446744073709551615) : ACall Try.prog 152 [.one (.int .u64 x)] [] (fun ov oh => ov = .one (.int .i64 ((Lib.bitLen x.toNat : Nat) : Int)) ∧ oh = []) :=
  len_call lays125 ⟨_, lays125.f125, rfl, rfl⟩ x h0 h1
end Go.Ab
