/- Of pairs of any: the checks. -/
import Derived.Test.YtglkldhjffnhhaaTab
import Derived.Test.YtglkldhjffnhhaaG1
import Derived.Test.YtglkldhjffnhhaaPlMate3
set_option maxRecDepth 100000
namespace Go.Ab
open Go Go.Proofs
theorem bl_check (n : Int) (es : List Arc) : ACall Try.prog 33 [.agg [(.int .i64 n), (.ro (.arcs es))]] [] (fun ov oh => ov = .one (.int .i64 (poolErr n es)) ∧ oh = []) := by
  refine acall_intro hT Try.func33 rfl (by kernel_rfl) rfl (by kernel_rfl) ?_
  refine awp_run_seq [1] [101] [] ⟨12, [(1, .one (.ptr 101 0 0))], [(101, .box 1 2 [(.int .i64 n), (.ro (.arcs es))])]⟩ hT (by kernel_rfl) trivial ?_
  refine awp_seq ?_
  refine awp_seq (awp_region ?_)
  refine aops_run 1 [1, 4] [101] [(0 < 1)] ⟨12, [(1, .one (.ptr 101 0 0)), (4, .agg [(.int .i64 n), (.ro (.arcs es))])], [(101, .box 1 2 [(.int .i64 n), (.ro (.arcs es))])]⟩ hT (by kernel_rfl) (by kernel_rfl) ⟨(by decide), trivial⟩ ?_
  refine aops_pure false ⟨true, [], 97, [.agg [(.int .i64 n), (.ro (.arcs es))]], []⟩ [.agg [(.int .i64 n), (.ro (.arcs es))]] (.one (.int .i64 (graphErr n es (-10000)))) ⟨12, [(1, .one (.ptr 101 0 0)), (4, .agg [(.int .i64 n), (.ro (.arcs es))]), (5, .one (.int .i64 (graphErr n es (-10000))))], [(101, .box 1 2 [(.int .i64 n), (.ro (.arcs es))])]⟩ (by kernel_rfl) (by kernel_rfl) (fun _ => trivial) rfl (fun _ => graph_CheckLong n es) ?_
  refine aops_run 1 [1, 3] [101] [] ⟨12, [(1, .one (.ptr 101 0 0)), (3, .one (.int .i64 (graphErr n es (-10000))))], [(101, .box 1 2 [(.int .i64 n), (.ro (.arcs es))])]⟩ hT (by kernel_rfl) (by kernel_rfl) trivial ?_
  refine aops_end_seq (by kernel_rfl) ?_
  refine awp_run_seq [1, 3, 7] [101] [] ⟨12, [(1, .one (.ptr 101 0 0)), (3, .one (.int .i64 (graphErr n es (-10000)))), (7, .one (.bool (decide ((graphErr n es (-10000)) ≠ 0))))], [(101, .box 1 2 [(.int .i64 n), (.ro (.arcs es))])]⟩ hT (by kernel_rfl) trivial ?_
  refine awp_cond (b := (decide ((graphErr n es (-10000)) ≠ 0))) (by kernel_rfl) (fun c2 => ?_) (fun c2 => ?_)
  · -- yes 2
    try simp only [bs] at c2
    refine awp_run_seq [2] [] [] ⟨12, [(2, .one (.int .i64 (graphErr n es (-10000))))], []⟩ hT (by kernel_rfl) trivial ?_
    refine awp_ret ?_
    refine kRet.ret _ [] [] (.one (.int .i64 (graphErr n es (-10000)))) [] (by kernel_rfl) trivial ?_
    exact ⟨congrArg (fun x1 => (.one (.int .i64 x1) : AV)) (show (graphErr n es (-10000)) = (poolErr n es) from by rw [poolErr, if_pos (by omega)]), rfl⟩
  · -- no 2
    try simp only [bs] at c2
    refine awp_skip ?_
    refine awp_seq ?_
    refine awp_run_seq [11] [] [(0 < 1)] ⟨12, [(11, .one (.bool (decide ((9 : Int) < n))))], []⟩ hT (by kernel_rfl) ⟨(by decide), trivial⟩ ?_
    refine awp_cond (b := (decide ((9 : Int) < n))) (by kernel_rfl) (fun c4 => ?_) (fun c4 => ?_)
    · -- yes 4
      try simp only [bs] at c4
      refine awp_run_seq [2] [] [] ⟨12, [(2, .one (.int .i64 2))], []⟩ hT (by kernel_rfl) trivial ?_
      refine awp_ret ?_
      refine kRet.ret _ [] [] (.one (.int .i64 2)) [] (by kernel_rfl) trivial ?_
      exact ⟨congrArg (fun x1 => (.one (.int .i64 x1) : AV)) (show 2 = (poolErr n es) from by rw [poolErr, if_neg (by omega), if_pos (by omega)]), rfl⟩
    · -- no 4
      try simp only [bs] at c4
      refine awp_skip ?_
      refine awp_run_seq [2] [] [] ⟨12, [(2, .one (.int .i64 0))], []⟩ hT (by kernel_rfl) trivial ?_
      refine awp_ret ?_
      refine kRet.ret _ [] [] (.one (.int .i64 0)) [] (by kernel_rfl) trivial ?_
      exact ⟨congrArg (fun x1 => (.one (.int .i64 x1) : AV)) (show 0 = (poolErr n es) from by rw [poolErr, if_neg (by omega), if_neg (by omega)]), rfl⟩

theorem ref_pool (n : Int) (es : List Arc) : ACall Try.prog 32 [.agg [(.int .i64 n), (.ro (.arcs es))]] [] (fun ov oh => ov = .one (.int .i64 (poolErr n es)) ∧ oh = []) := by
  refine acall_intro hT Try.func32 rfl (by kernel_rfl) rfl (by kernel_rfl) ?_
  refine awp_run_seq [1] [101] [] ⟨14, [(1, .one (.ptr 101 0 0))], [(101, .box 1 2 [(.int .i64 n), (.ro (.arcs es))])]⟩ hT (by kernel_rfl) trivial ?_
  refine awp_seq (awp_region ?_)
  refine aops_run 1 [1, 4] [101] [(0 < 1)] ⟨14, [(1, .one (.ptr 101 0 0)), (4, .agg [(.int .i64 n), (.ro (.arcs es))])], [(101, .box 1 2 [(.int .i64 n), (.ro (.arcs es))])]⟩ hT (by kernel_rfl) (by kernel_rfl) ⟨(by decide), trivial⟩ ?_
  refine aops_pure false ⟨true, [], 44, [.agg [(.int .i64 n), (.ro (.arcs es))]], []⟩ [.agg [(.int .i64 n), (.ro (.arcs es))]] (.one (.int .i64 (graphErr n es (-10000)))) ⟨14, [(1, .one (.ptr 101 0 0)), (4, .agg [(.int .i64 n), (.ro (.arcs es))]), (5, .one (.int .i64 (graphErr n es (-10000))))], [(101, .box 1 2 [(.int .i64 n), (.ro (.arcs es))])]⟩ (by kernel_rfl) (by kernel_rfl) (fun _ => trivial) rfl (fun _ => ref_LongErr n es) ?_
  refine aops_run 1 [1, 3] [101] [] ⟨14, [(1, .one (.ptr 101 0 0)), (3, .one (.int .i64 (graphErr n es (-10000))))], [(101, .box 1 2 [(.int .i64 n), (.ro (.arcs es))])]⟩ hT (by kernel_rfl) (by kernel_rfl) trivial ?_
  refine aops_end_seq (by kernel_rfl) ?_
  refine awp_seq ?_
  refine awp_run_seq [3, 12] [] [((decide ((graphErr n es (-10000)) = 0)) = true → ((decide ((graphErr n es (-10000)) = 0)) = true → (decide ((graphErr n es (-10000)) = 0)) = true)), ((decide ((graphErr n es (-10000)) = 0)) = true → (0 < 1)), ((decide ((graphErr n es (-10000)) = 0)) = true → ((decide ((graphErr n es (-10000)) = 0)) = true → (decide ((graphErr n es (-10000)) = 0)) = true)), ((decide ((graphErr n es (-10000)) = 0)) = true → (decide ((graphErr n es (-10000)) = 0)) = true)] ⟨14, [(3, .one (.int .i64 (graphErr n es (-10000)))), (12, .one (.bool ((decide ((graphErr n es (-10000)) = 0)) && (decide ((9 : Int) < n)))))], []⟩ hT (by kernel_rfl) ⟨(by intro hg; first | exact hg | skip; (try simp only [bs] at hg ⊢); first | exact hg | first | omega | (simp only [lens]; omega) | (simp only [Bool.cond_decide]; omega) | (simp only [nadd_eq]; omega) | grind), (by intro hg; first | exact hg | skip; (try simp only [bs] at hg); first | exact hg | first | omega | (simp only [lens]; omega) | (simp only [Bool.cond_decide]; omega) | (simp only [nadd_eq]; omega) | grind), (by intro hg; first | exact hg | skip; (try simp only [bs] at hg ⊢); first | exact hg | first | omega | (simp only [lens]; omega) | (simp only [Bool.cond_decide]; omega) | (simp only [nadd_eq]; omega) | grind), (fun h => h), trivial⟩ ?_
  refine awp_join_tail (fun σ => ∃ (e : Int), (e = (poolErr n es)) ∧ σ = ⟨14, [(3, .one (.int .i64 e))], []⟩) ?_ ?_
  ·
    refine awp_cond (b := ((decide ((graphErr n es (-10000)) = 0)) && (decide ((9 : Int) < n)))) (by kernel_rfl) (fun c2 => ?_) (fun c2 => ?_)
    · -- yes 2
      try simp only [bs] at c2
      refine awp_run [3] [] [] ⟨14, [(3, .one (.int .i64 2))], []⟩ hT (by kernel_rfl) trivial ?_
      exact jend ⟨2, (by rw [poolErr, if_neg (by omega), if_pos (by omega)]), (by kernel_rfl)⟩
    · -- no 2
      try simp only [bs] at c2
      refine awp_cut [3] [] ⟨14, [(3, .one (.int .i64 (graphErr n es (-10000))))], []⟩ (by kernel_rfl) ?_
      refine awp_skip ?_
      exact jend ⟨(graphErr n es (-10000)), (by unfold poolErr; split; rfl; rw [if_neg (by omega)]; omega), (by kernel_rfl)⟩
  rintro _ ⟨e, he, rfl⟩
  refine awp_run_seq [2] [] [] ⟨14, [(2, .one (.int .i64 e))], []⟩ hT (by kernel_rfl) trivial ?_
  refine awp_ret ?_
  refine kRet.ret _ [] [] (.one (.int .i64 e)) [] (by kernel_rfl) trivial ?_
  exact ⟨congrArg (fun x1 => (.one (.int .i64 x1) : AV)) (show e = (poolErr n es) from by first | exact he | exact he.symm), rfl⟩

end Go.Ab
