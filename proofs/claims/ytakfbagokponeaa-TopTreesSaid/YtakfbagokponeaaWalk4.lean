/- Of ways: how far, and which way. -/
import Derived.Test.YtakfbagokponeaaTab
import Derived.Test.YtakfbagokponeaaWalk3
set_option maxRecDepth 100000
namespace Go.Ab
open Go Go.Proofs
theorem walk_far (n s : Int) (es : List Arc) : ACall Try.prog 28 [.agg [(.int .i64 n), (.ro (.arcs es))], .one (.int .i64 s)] [] (fun ov oh => ov = .tup [(false, [(.ro (.ints .i64 (okL (farErr n es s) (farOf n es s))))]), (false, [(.int .i64 (farErr n es s))])] ∧ oh = []) := by
  refine acall_intro hT Try.func28 rfl (by kernel_rfl) rfl (by kernel_rfl) ?_
  refine awp_run_seq [1, 2] [102] [] ⟨18, [(1, .one (.int .i64 s)), (2, .one (.ptr 102 0 0))], [(102, .box 1 2 [(.int .i64 n), (.ro (.arcs es))])]⟩ hT (by kernel_rfl) trivial ?_
  refine awp_seq (awp_region ?_)
  refine aops_run 2 [10, 11] [] [(0 < 1)] ⟨18, [(10, .agg [(.int .i64 n), (.ro (.arcs es))]), (11, .one (.int .i64 s))], []⟩ hT (by kernel_rfl) (by kernel_rfl) ⟨(by decide), trivial⟩ ?_
  refine aops_call [] [] false ⟨true, [], 79, [.agg [(.int .i64 n), (.ro (.arcs es))], .one (.int .i64 s)], []⟩ [.agg [(.int .i64 n), (.ro (.arcs es))], .one (.int .i64 s)] (sm := ⟨18, [(10, .agg [(.int .i64 n), (.ro (.arcs es))]), (11, .one (.int .i64 s)), (12, .whn false (.one .any))], []⟩) (by kernel_rfl) (by kernel_rfl) (by decide) (fun _ => trivial) rfl (fun _ => walk_search n s es) (fun _ v Hr hv => ?_) (fun h => by cases h)
  obtain ⟨bl, hby, rfl, rfl⟩ := hv
  refine ⟨⟨18, [(10, .agg [(.int .i64 n), (.ro (.arcs es))]), (11, .one (.int .i64 s)), (12, .tup [(false, [(.ro (.ints .i64 (okL (farErr n es s) (farOf n es s))))]), (false, [(.ro (.ints .i64 bl))]), (false, [(.int .i64 (farErr n es s))])])], []⟩, by kernel_rfl, ?_⟩
  refine aops_run 7 [6, 8] [] [] ⟨18, [(6, .one (.ro (.ints .i64 (okL (farErr n es s) (farOf n es s))))), (8, .one (.int .i64 (farErr n es s)))], []⟩ hT (by kernel_rfl) (by kernel_rfl) trivial ?_
  refine aops_end_seq (by kernel_rfl) ?_
  refine awp_run_seq [4, 5] [] [] ⟨18, [(4, .one (.ro (.ints .i64 (okL (farErr n es s) (farOf n es s))))), (5, .one (.int .i64 (farErr n es s)))], []⟩ hT (by kernel_rfl) trivial ?_
  refine awp_ret ?_
  refine kRet.ret _ [] [] (.tup [(false, [(.ro (.ints .i64 (okL (farErr n es s) (farOf n es s))))]), (false, [(.int .i64 (farErr n es s))])]) [] (by kernel_rfl) trivial ?_
  exact ⟨rfl, rfl⟩
end Go.Ab
