/- Of what a flow costs: Best. -/
import Derived.Test.YtglkldhjffnhhaaTab
import Derived.Test.YtglkldhjffnhhaaCheap1
import Derived.Test.YtglkldhjffnhhaaShort3
import Derived.Test.YtglkldhjffnhhaaPlCheap5
set_option maxRecDepth 100000
namespace Go.Ab
open Go Go.Proofs
theorem cheap_best (n s t : Int) (es : List Arc) (cost f : List Int) : ACall Try.prog 27 [.agg [(.int .i64 n), (.int .i64 s), (.int .i64 t), (.ro (.arcs es))], .one (.ro (.ints .i64 cost)), .one (.ro (.ints .i64 f))] [] (fun ov oh => ov = .tup [(false, [(.bool (decide ((costErr2 n s t es cost f) = 0) && !(@decide (NegC n (RS es cost f)) (Classical.propDecidable _))))]), (false, [(.int .i64 (costErr2 n s t es cost f))])] ∧ oh = []) := by
  refine acall_intro hT Try.func27 rfl (by kernel_rfl) rfl (by kernel_rfl) ?_
  refine awp_run_seq [1, 2, 3] [103] [] ⟨32, [(1, .one (.ro (.ints .i64 cost))), (2, .one (.ro (.ints .i64 f))), (3, .one (.ptr 103 0 0))], [(103, .box 1 4 [(.int .i64 n), (.int .i64 s), (.int .i64 t), (.ro (.arcs es))])]⟩ hT (by kernel_rfl) trivial ?_
  refine awp_seq ?_
  refine awp_seq (awp_region ?_)
  refine aops_run 3 [1, 2, 3, 13, 14, 15] [103] [(0 < 1)] ⟨32, [(1, .one (.ro (.ints .i64 cost))), (2, .one (.ro (.ints .i64 f))), (3, .one (.ptr 103 0 0)), (13, .agg [(.int .i64 n), (.int .i64 s), (.int .i64 t), (.ro (.arcs es))]), (14, .one (.ro (.ints .i64 cost))), (15, .one (.ro (.ints .i64 f)))], [(103, .box 1 4 [(.int .i64 n), (.int .i64 s), (.int .i64 t), (.ro (.arcs es))])]⟩ hT (by kernel_rfl) (by kernel_rfl) ⟨(by decide), trivial⟩ ?_
  refine aops_pure false ⟨true, [], 53, [.agg [(.int .i64 n), (.int .i64 s), (.int .i64 t), (.ro (.arcs es))], .one (.ro (.ints .i64 cost)), .one (.ro (.ints .i64 f))], []⟩ [.agg [(.int .i64 n), (.int .i64 s), (.int .i64 t), (.ro (.arcs es))], .one (.ro (.ints .i64 cost)), .one (.ro (.ints .i64 f))] (.tup [(false, [(.int .i64 (okI (costErr2 n s t es cost f) (dear cost f)))]), (false, [(.int .i64 (costErr2 n s t es cost f))])]) ⟨32, [(1, .one (.ro (.ints .i64 cost))), (2, .one (.ro (.ints .i64 f))), (3, .one (.ptr 103 0 0)), (13, .agg [(.int .i64 n), (.int .i64 s), (.int .i64 t), (.ro (.arcs es))]), (14, .one (.ro (.ints .i64 cost))), (15, .one (.ro (.ints .i64 f))), (16, .tup [(false, [(.int .i64 (okI (costErr2 n s t es cost f) (dear cost f)))]), (false, [(.int .i64 (costErr2 n s t es cost f))])])], [(103, .box 1 4 [(.int .i64 n), (.int .i64 s), (.int .i64 t), (.ro (.arcs es))])]⟩ (by kernel_rfl) (by kernel_rfl) (fun _ => trivial) rfl (fun _ => cheap_cost n s t es cost f) ?_
  refine aops_run 5 [1, 2, 3, 9] [103] [] ⟨32, [(1, .one (.ro (.ints .i64 cost))), (2, .one (.ro (.ints .i64 f))), (3, .one (.ptr 103 0 0)), (9, .one (.int .i64 (costErr2 n s t es cost f)))], [(103, .box 1 4 [(.int .i64 n), (.int .i64 s), (.int .i64 t), (.ro (.arcs es))])]⟩ hT (by kernel_rfl) (by kernel_rfl) trivial ?_
  refine aops_end_seq (by kernel_rfl) ?_
  refine awp_run_seq [1, 2, 3, 9, 20] [103] [] ⟨32, [(1, .one (.ro (.ints .i64 cost))), (2, .one (.ro (.ints .i64 f))), (3, .one (.ptr 103 0 0)), (9, .one (.int .i64 (costErr2 n s t es cost f))), (20, .one (.bool (decide ((costErr2 n s t es cost f) ≠ 0))))], [(103, .box 1 4 [(.int .i64 n), (.int .i64 s), (.int .i64 t), (.ro (.arcs es))])]⟩ hT (by kernel_rfl) trivial ?_
  refine awp_cond (b := (decide ((costErr2 n s t es cost f) ≠ 0))) (by kernel_rfl) (fun c2 => ?_) (fun c2 => ?_)
  · -- yes 2
    try simp only [bs] at c2
    refine awp_run_seq [6, 7] [] [] ⟨32, [(6, .one (.bool false)), (7, .one (.int .i64 (costErr2 n s t es cost f)))], []⟩ hT (by kernel_rfl) trivial ?_
    refine awp_ret ?_
    refine kRet.ret _ [] [] (.tup [(false, [(.bool false)]), (false, [(.int .i64 (costErr2 n s t es cost f))])]) [] (by kernel_rfl) trivial ?_
    exact ⟨congrArg (fun x1 => (.tup [(false, [(.bool x1)]), (false, [(.int .i64 (costErr2 n s t es cost f))])] : AV)) (show false = (decide ((costErr2 n s t es cost f) = 0) && !(@decide (NegC n (RS es cost f)) (Classical.propDecidable _))) from by first | (rw [decide_eq_false (by omega)]; rfl) | rfl), rfl⟩
  · -- no 2
    try simp only [bs] at c2
    have hE0 : (costErr2 n s t es cost f) = 0 := by omega
    have hE1 : (costErr n s t es cost) = 0 := by unfold costErr2 at hE0; split at hE0; omega; omega
    obtain ⟨hn, hc⟩ := costErr_ok hE1
    have hFl := flowErr_ok (show flowErr n s t es f = 0 by unfold costErr2 at hE0; rw [if_neg (by omega)] at hE0; exact hE0)
    have hfl := hFl.fin.len
    have he30 := hc.1
    have hG := left_in (cost := cost) (f := f) hn hc
    refine awp_skip ?_
    refine awp_seq (awp_region ?_)
    refine aops_run 3 [23, 24, 25] [] [(0 < 1)] ⟨32, [(23, .agg [(.int .i64 n), (.int .i64 s), (.int .i64 t), (.ro (.arcs es))]), (24, .one (.ro (.ints .i64 cost))), (25, .one (.ro (.ints .i64 f)))], []⟩ hT (by kernel_rfl) (by kernel_rfl) ⟨(by decide), trivial⟩ ?_
    refine aops_call [] [(9001, 126)] false ⟨true, [], 93, [.agg [(.int .i64 n), (.int .i64 s), (.int .i64 t), (.ro (.arcs es))], .one (.ro (.ints .i64 cost)), .one (.ro (.ints .i64 f))], []⟩ [.agg [(.int .i64 n), (.int .i64 s), (.int .i64 t), (.ro (.arcs es))], .one (.ro (.ints .i64 cost)), .one (.ro (.ints .i64 f))] (sm := ⟨32, [(23, .agg [(.int .i64 n), (.int .i64 s), (.int .i64 t), (.ro (.arcs es))]), (24, .one (.ro (.ints .i64 cost))), (25, .one (.ro (.ints .i64 f))), (26, .whn false (.one .any))], []⟩) (by kernel_rfl) (by kernel_rfl) (by decide) (fun _ => trivial) rfl (fun _ => cheap_left n s t es cost f hc (by omega)) (fun _ v Hr hv => ?_) (fun h => by cases h)
    obtain ⟨rfl, rfl⟩ := hv
    refine ⟨⟨32, [(23, .agg [(.int .i64 n), (.int .i64 s), (.int .i64 t), (.ro (.arcs es))]), (24, .one (.ro (.ints .i64 cost))), (25, .one (.ro (.ints .i64 f))), (26, .agg [(.int .i64 n), (.rw 126 0 (List.length (leftA es cost f es.length)))])], [(126, .flat (.arcs (leftA es cost f es.length)))]⟩, by kernel_rfl, ?_⟩
    refine aops_call [] [] true ⟨true, [], 29, [.agg [(.int .i64 n), (.ro (.arcs (List.take (List.length (leftA es cost f es.length)) (leftA es cost f es.length))))]], []⟩ [.agg [(.int .i64 n), (.ro (.arcs (leftA es cost f es.length)))]] (sm := ⟨32, [(23, .agg [(.int .i64 n), (.int .i64 s), (.int .i64 t), (.ro (.arcs es))]), (24, .one (.ro (.ints .i64 cost))), (25, .one (.ro (.ints .i64 f))), (26, .agg [(.int .i64 n), (.rw 126 0 (List.length (leftA es cost f es.length)))]), (27, .whn false (.one .any))], [(126, .flat (.arcs (leftA es cost f es.length)))]⟩) (by kernel_rfl) (by kernel_rfl) (by decide) (fun _ => trivial) (by rw [show (List.take (List.length (leftA es cost f es.length)) (leftA es cost f es.length)) = (leftA es cost f es.length) from List.take_of_length_le (by first | omega | simp)]) (fun _ => short_heights n (leftA es cost f es.length)) (fun _ v Hr hv => ?_) (fun h => by cases h)
    obtain ⟨h, e1, hho, rfl, rfl⟩ := hv
    refine ⟨⟨32, [(23, .agg [(.int .i64 n), (.int .i64 s), (.int .i64 t), (.ro (.arcs es))]), (24, .one (.ro (.ints .i64 cost))), (25, .one (.ro (.ints .i64 f))), (26, .agg [(.int .i64 n), (.rw 126 0 (List.length (leftA es cost f es.length)))]), (27, .tup [(false, [.any]), (false, [(.int .i64 e1)])])], [(126, .flat (.arcs (leftA es cost f es.length)))]⟩, by kernel_rfl, ?_⟩
    refine aops_run 5 [11] [] [] ⟨32, [(11, .one (.int .i64 e1))], []⟩ hT (by kernel_rfl) (by kernel_rfl) trivial ?_
    refine aops_end_seq (by kernel_rfl) ?_
    have hh := heights_iff (left_arcs es cost f) hG.inR (fun u v c hr => ⟨(hr.in_ hn hc).1, (hr.in_ hn hc).2.1⟩) hG.err hho
    refine awp_run_seq [6, 7] [] [] ⟨32, [(6, .one (.bool (decide (e1 = 0)))), (7, .one (.int .i64 0))], []⟩ hT (by kernel_rfl) trivial ?_
    refine awp_ret ?_
    refine kRet.ret _ [] [] (.tup [(false, [(.bool (decide (e1 = 0)))]), (false, [(.int .i64 0)])]) [] (by kernel_rfl) trivial ?_
    exact ⟨by first | rw [show (decide ((costErr2 n s t es cost f) = 0) && !(@decide (NegC n (RS es cost f)) (Classical.propDecidable _))) = (decide (e1 = 0)) from Eq.symm (by exact best_bool hE0 (hh.imp (fun q => ⟨q.1, q.2.1.none⟩) (fun q => ⟨by omega, q.2⟩))), show (costErr2 n s t es cost f) = 0 from Eq.symm (by exact hE0.symm)] | rw [show (decide ((costErr2 n s t es cost f) = 0) && !(@decide (NegC n (RS es cost f)) (Classical.propDecidable _))) = (decide (e1 = 0)) from Eq.symm (by exact best_bool hE0 (hh.imp (fun q => ⟨q.1, q.2.1.none⟩) (fun q => ⟨by omega, q.2⟩)))] | rw [show (costErr2 n s t es cost f) = 0 from Eq.symm (by exact hE0.symm)], rfl⟩

end Go.Ab
