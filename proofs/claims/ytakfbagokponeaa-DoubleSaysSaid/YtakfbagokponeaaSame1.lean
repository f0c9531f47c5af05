/- Of lists of numbers: equality. -/
import Derived.Test.YtakfbagokponeaaTab
import Derived.Test.YtakfbagokponeaaF1
set_option maxRecDepth 100000
namespace Go.Ab
open Go Go.Proofs
theorem same_ints (xs ys : List Int) : ACall Try.prog 20 [.one (.ro (.ints .i64 xs)), .one (.ro (.ints .i64 ys))] [] (fun ov oh => ov = .one (.bool (decide (xs = ys))) ∧ oh = []) := by
  refine acall_intro hT Try.func20 rfl (by kernel_rfl) rfl (by kernel_rfl) ?_
  refine awp_run_seq [0, 1] [] [] ⟨8, [(0, .one (.ro (.ints .i64 xs))), (1, .one (.ro (.ints .i64 ys)))], []⟩ hT (by kernel_rfl) trivial ?_
  refine awp_seq (awp_region ?_)
  refine aops_run 2 [5, 6] [] [] ⟨8, [(5, .one (.ro (.ints .i64 xs))), (6, .one (.ro (.ints .i64 ys)))], []⟩ hT (by kernel_rfl) (by kernel_rfl) trivial ?_
  refine aops_pure false ⟨true, [], 71, [.one (.ro (.ints .i64 xs)), .one (.ro (.ints .i64 ys))], []⟩ [.one (.ro (.ints .i64 xs)), .one (.ro (.ints .i64 ys))] (.one (.bool (decide (xs = ys)))) ⟨8, [(5, .one (.ro (.ints .i64 xs))), (6, .one (.ro (.ints .i64 ys))), (7, .one (.bool (decide (xs = ys))))], []⟩ (by kernel_rfl) (by kernel_rfl) (fun _ => trivial) rfl (fun _ => equal_ints xs ys) ?_
  refine aops_run 1 [4] [] [] ⟨8, [(4, .one (.bool (decide (xs = ys))))], []⟩ hT (by kernel_rfl) (by kernel_rfl) trivial ?_
  refine aops_end_seq (by kernel_rfl) ?_
  refine awp_ret ?_
  refine kRet.ret _ [] [] (.one (.bool (decide (xs = ys)))) [] (by kernel_rfl) trivial ?_
  exact ⟨rfl, rfl⟩

end Go.Ab
