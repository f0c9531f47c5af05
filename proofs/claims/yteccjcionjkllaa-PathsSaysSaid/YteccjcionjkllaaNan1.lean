/- Of numbers: none is no number. -/
import Derived.Test.YteccjcionjkllaaTab
import Derived.Test.YteccjcionjkllaaG1
set_option maxRecDepth 100000
namespace Go.Ab
open Go Go.Proofs
theorem cmp_isNaN (x : Int) : ACall Try.prog 129 [.one (.int .i64 x)] [] (fun ov oh => ov = .one (.bool false) ∧ oh = []) := by
  refine acall_intro hT Try.func129 rfl (by kernel_rfl) rfl (by kernel_rfl) ?_
  refine awp_run_seq [0] [] [] ⟨6, [(0, .one (.int .i64 x))], []⟩ hT (by kernel_rfl) trivial ?_
  refine awp_run_seq [2] [] [] ⟨6, [(2, .one (.bool (decide (x ≠ x))))], []⟩ hT (by kernel_rfl) trivial ?_
  refine awp_ret ?_
  refine kRet.ret _ [] [] (.one (.bool (decide (x ≠ x)))) [] (by kernel_rfl) trivial ?_
  exact ⟨congrArg (fun x1 => (.one (.bool x1) : AV)) (show (decide (x ≠ x)) = false from by simp), rfl⟩

end Go.Ab
