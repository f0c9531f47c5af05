/- Of what a flow costs: the checks, the cost, what is left. -/
import Derived.Test.YtglkldhjffnhhaaTab
import Derived.Test.YtglkldhjffnhhaaFlow2
import Derived.Test.YtglkldhjffnhhaaPlCheap4
import Derived.Test.YtglkldhjffnhhaaDag
set_option maxRecDepth 100000
namespace Go.Ab
open Go Go.Proofs
theorem cheap_check (n s t : Int) (es : List Arc) (cost : List Int) : ACall Try.prog 55 [.agg [(.int .i64 n), (.int .i64 s), (.int .i64 t), (.ro (.arcs es))], .one (.ro (.ints .i64 cost))] [] (fun ov oh => ov = .one (.int .i64 (costErr n s t es cost)) ∧ oh = []) := by
  refine acall_intro hT Try.func55 rfl (by kernel_rfl) rfl (by kernel_rfl) ?_
  refine awp_run_seq [1, 2] [102] [] ⟨36, [(1, .one (.ro (.ints .i64 cost))), (2, .one (.ptr 102 0 0))], [(102, .box 1 4 [(.int .i64 n), (.int .i64 s), (.int .i64 t), (.ro (.arcs es))])]⟩ hT (by kernel_rfl) trivial ?_
  refine awp_seq ?_
  refine awp_seq (awp_region ?_)
  refine aops_run 1 [1, 2, 8] [102] [(0 < 1)] ⟨36, [(1, .one (.ro (.ints .i64 cost))), (2, .one (.ptr 102 0 0)), (8, .agg [(.int .i64 n), (.int .i64 s), (.int .i64 t), (.ro (.arcs es))])], [(102, .box 1 4 [(.int .i64 n), (.int .i64 s), (.int .i64 t), (.ro (.arcs es))])]⟩ hT (by kernel_rfl) (by kernel_rfl) ⟨(by decide), trivial⟩ ?_
  refine aops_pure false ⟨true, [], 78, [.agg [(.int .i64 n), (.int .i64 s), (.int .i64 t), (.ro (.arcs es))]], []⟩ [.agg [(.int .i64 n), (.int .i64 s), (.int .i64 t), (.ro (.arcs es))]] (.one (.int .i64 (netErr n s t es))) ⟨36, [(1, .one (.ro (.ints .i64 cost))), (2, .one (.ptr 102 0 0)), (8, .agg [(.int .i64 n), (.int .i64 s), (.int .i64 t), (.ro (.arcs es))]), (9, .one (.int .i64 (netErr n s t es)))], [(102, .box 1 4 [(.int .i64 n), (.int .i64 s), (.int .i64 t), (.ro (.arcs es))])]⟩ (by kernel_rfl) (by kernel_rfl) (fun _ => trivial) rfl (fun _ => graph_CheckNet n s t es) ?_
  refine aops_run 1 [1, 2, 5] [102] [] ⟨36, [(1, .one (.ro (.ints .i64 cost))), (2, .one (.ptr 102 0 0)), (5, .one (.int .i64 (netErr n s t es)))], [(102, .box 1 4 [(.int .i64 n), (.int .i64 s), (.int .i64 t), (.ro (.arcs es))])]⟩ hT (by kernel_rfl) (by kernel_rfl) trivial ?_
  refine aops_end_seq (by kernel_rfl) ?_
  refine awp_run_seq [1, 2, 5, 11] [102] [] ⟨36, [(1, .one (.ro (.ints .i64 cost))), (2, .one (.ptr 102 0 0)), (5, .one (.int .i64 (netErr n s t es))), (11, .one (.bool (decide ((netErr n s t es) ≠ 0))))], [(102, .box 1 4 [(.int .i64 n), (.int .i64 s), (.int .i64 t), (.ro (.arcs es))])]⟩ hT (by kernel_rfl) trivial ?_
  refine awp_cond (b := (decide ((netErr n s t es) ≠ 0))) (by kernel_rfl) (fun c2 => ?_) (fun c2 => ?_)
  · -- yes 2
    try simp only [bs] at c2
    refine awp_run_seq [4] [] [] ⟨36, [(4, .one (.int .i64 (netErr n s t es)))], []⟩ hT (by kernel_rfl) trivial ?_
    refine awp_ret ?_
    refine kRet.ret _ [] [] (.one (.int .i64 (netErr n s t es))) [] (by kernel_rfl) trivial ?_
    exact ⟨congrArg (fun x1 => (.one (.int .i64 x1) : AV)) (show (netErr n s t es) = (costErr n s t es cost) from by rw [costErr, if_pos (by omega)]), rfl⟩
  · -- no 2
    try simp only [bs] at c2
    have hN : netErr n s t es = 0 := by omega
    refine awp_skip ?_
    refine awp_seq ?_
    refine awp_run_seq [1, 2, 16] [102] [(0 < 1)] ⟨36, [(1, .one (.ro (.ints .i64 cost))), (2, .one (.ptr 102 0 0)), (16, .one (.bool (decide ((30 : Int) < ((es.length : Nat) : Int)))))], [(102, .box 1 4 [(.int .i64 n), (.int .i64 s), (.int .i64 t), (.ro (.arcs es))])]⟩ hT (by kernel_rfl) ⟨(by decide), trivial⟩ ?_
    refine awp_cond (b := (decide ((30 : Int) < ((es.length : Nat) : Int)))) (by kernel_rfl) (fun c4 => ?_) (fun c4 => ?_)
    · -- yes 4
      try simp only [bs] at c4
      refine awp_run_seq [4] [] [] ⟨36, [(4, .one (.int .i64 2))], []⟩ hT (by kernel_rfl) trivial ?_
      refine awp_ret ?_
      refine kRet.ret _ [] [] (.one (.int .i64 2)) [] (by kernel_rfl) trivial ?_
      exact ⟨congrArg (fun x1 => (.one (.int .i64 x1) : AV)) (show 2 = (costErr n s t es cost) from by rw [costErr, if_neg (by omega), if_pos (by omega)]), rfl⟩
    · -- no 4
      try simp only [bs] at c4
      refine awp_skip ?_
      refine awp_seq ?_
      refine awp_run_seq [1, 22] [] [(0 < 1)] ⟨36, [(1, .one (.ro (.ints .i64 cost))), (22, .one (.bool (decide (((cost.length : Nat) : Int) ≠ ((es.length : Nat) : Int)))))], []⟩ hT (by kernel_rfl) ⟨(by decide), trivial⟩ ?_
      refine awp_cond (b := (decide (((cost.length : Nat) : Int) ≠ ((es.length : Nat) : Int)))) (by kernel_rfl) (fun c6 => ?_) (fun c6 => ?_)
      · -- yes 6
        try simp only [bs] at c6
        refine awp_run_seq [4] [] [] ⟨36, [(4, .one (.int .i64 3))], []⟩ hT (by kernel_rfl) trivial ?_
        refine awp_ret ?_
        refine kRet.ret _ [] [] (.one (.int .i64 3)) [] (by kernel_rfl) trivial ?_
        exact ⟨congrArg (fun x1 => (.one (.int .i64 x1) : AV)) (show 3 = (costErr n s t es cost) from by rw [costErr, if_neg (by omega), if_neg (by omega), if_pos (by omega)]), rfl⟩
      · -- no 6
        try simp only [bs] at c6
        refine awp_skip ?_
        refine awp_seq ?_
        refine awp_run_seq [23, 24, 25] [] [] ⟨36, [(23, .one (.ro (.ints .i64 cost))), (24, .one (.int .i64 ((cost.length : Nat) : Int))), (25, .one (.int .i64 0))], []⟩ hT (by kernel_rfl) trivial ?_
        refine awp_block ?_
        refine awp_loop (I := fun κ σ => ∃ (i : Nat), ((i ≤ cost.length) ∧ (∀ j, j < i → offCost (cost.getD j 0) = false) ∧ cost.length - i = κ) ∧ σ = ⟨36, [(23, .one (.ro (.ints .i64 cost))), (24, .one (.int .i64 ((cost.length : Nat) : Int))), (25, .one (.int .i64 ((i : Nat) : Int)))], []⟩) _ ⟨0, ⟨(by omega), (by intro j hj; omega), rfl⟩, (by kernel_rfl)⟩ ?_
        rintro κ _ ⟨i, ⟨hi, hp, rfl⟩, rfl⟩
        refine awp_run_seq [23, 24, 25, 26] [] [] ⟨36, [(23, .one (.ro (.ints .i64 cost))), (24, .one (.int .i64 ((cost.length : Nat) : Int))), (25, .one (.int .i64 ((i : Nat) : Int))), (26, .one (.bool (decide (((i : Nat) : Int) < ((cost.length : Nat) : Int)))))], []⟩ hT (by kernel_rfl) trivial ?_
        refine awp_seq ?_
        refine awp_cond (b := (decide (((i : Nat) : Int) < ((cost.length : Nat) : Int)))) (by kernel_rfl) (fun c9 => ?_) (fun c9 => ?_)
        · -- yes 9
          try simp only [bs] at c9
          refine awp_skip ?_
          refine awp_seq ?_
          refine awp_block ?_
          refine awp_run_seq [7, 23, 24, 25] [] [((0 : Int) ≤ ((i : Nat) : Int)), (((i : Nat) : Int) < ((cost.length : Nat) : Int))] ⟨36, [(7, .one (.int .i64 (List.getD cost i 0))), (23, .one (.ro (.ints .i64 cost))), (24, .one (.int .i64 ((cost.length : Nat) : Int))), (25, .one (.int .i64 ((i : Nat) : Int)))], []⟩ hT (by kernel_rfl) ⟨(by first | omega | (simp only [lens]; omega) | (simp only [Bool.cond_decide]; omega) | (simp only [nadd_eq]; omega)), (by first | omega | (simp only [lens]; omega) | (simp only [Bool.cond_decide]; omega) | (simp only [nadd_eq]; omega)), trivial⟩ ?_
          refine awp_run_seq [23, 24, 25, 34] [] [((!(decide ((List.getD cost i 0) < 0))) = true → ((!(decide ((List.getD cost i 0) < 0))) = true → (!(decide ((List.getD cost i 0) < 0))) = true)), ((!(decide ((List.getD cost i 0) < 0))) = true → (!(decide ((List.getD cost i 0) < 0))) = true)] ⟨36, [(23, .one (.ro (.ints .i64 cost))), (24, .one (.int .i64 ((cost.length : Nat) : Int))), (25, .one (.int .i64 ((i : Nat) : Int))), (34, .one (.bool ((decide ((List.getD cost i 0) < 0)) || (decide ((1000 : Int) < (List.getD cost i 0))))))], []⟩ hT (by kernel_rfl) ⟨(by intro hg; first | exact hg | skip; (try simp only [bs] at hg ⊢); first | exact hg | first | omega | (simp only [lens]; omega) | (simp only [Bool.cond_decide]; omega) | (simp only [nadd_eq]; omega) | grind), (fun h => h), trivial⟩ ?_
          refine awp_cond (b := ((decide ((List.getD cost i 0) < 0)) || (decide ((1000 : Int) < (List.getD cost i 0))))) (by kernel_rfl) (fun c11 => ?_) (fun c11 => ?_)
          · -- yes 11
            try simp only [bs] at c11
            have hyes : cost.any offCost = true := any_at (d := 0) (i := i) (by omega) (by rw [offCost, Bool.or_eq_true, decide_eq_true_eq, decide_eq_true_eq]; omega)
            refine awp_run_seq [4] [] [] ⟨36, [(4, .one (.int .i64 1))], []⟩ hT (by kernel_rfl) trivial ?_
            refine awp_ret ?_
            refine kRet.ret _ [] [] (.one (.int .i64 1)) [] (by kernel_rfl) trivial ?_
            exact ⟨congrArg (fun x1 => (.one (.int .i64 x1) : AV)) (show 1 = (costErr n s t es cost) from by rw [costErr, if_neg (by omega), if_neg (by omega), if_neg (by omega), if_pos hyes]), rfl⟩
          · -- no 11
            try simp only [bs] at c11
            have hob : offCost (cost.getD i 0) = false := by rw [offCost, Bool.or_eq_false_iff, decide_eq_false_iff_not, decide_eq_false_iff_not]; omega
            refine awp_skip ?_
            refine awp_run [23, 24, 25] [] [(-9223372036854775808 ≤ (((i + 1) : Nat) : Int) ∧ (((i + 1) : Nat) : Int) ≤ 9223372036854775807)] ⟨36, [(23, .one (.ro (.ints .i64 cost))), (24, .one (.int .i64 ((cost.length : Nat) : Int))), (25, .one (.int .i64 (((i + 1) : Nat) : Int)))], []⟩ hT (by kernel_rfl) ⟨(by first | omega | (simp only [lens]; omega) | (simp only [Bool.cond_decide]; omega) | (simp only [nadd_eq]; omega)), trivial⟩ ?_
            refine loop_end _ ?_ ⟨(i + 1), ⟨(by omega), (by intro j hj; rcases Nat.lt_succ_iff_lt_or_eq.1 hj with q | q; exact hp j q; subst q; exact hob), rfl⟩, (by kernel_rfl)⟩
            omega
        · -- no 9
          try simp only [bs] at c9
          have hno : cost.any offCost = false := any_none (d := 0) (fun j hj => hp j (by omega))
          refine awp_exit ?_
          refine awp_run_seq [4] [] [] ⟨36, [(4, .one (.int .i64 0))], []⟩ hT (by kernel_rfl) trivial ?_
          refine awp_ret ?_
          refine kRet.ret _ [] [] (.one (.int .i64 0)) [] (by kernel_rfl) trivial ?_
          exact ⟨congrArg (fun x1 => (.one (.int .i64 x1) : AV)) (show 0 = (costErr n s t es cost) from by rw [costErr, if_neg (by omega), if_neg (by omega), if_neg (by omega), if_neg (by rw [hno]; decide)]), rfl⟩

theorem cheap_cost (n s t : Int) (es : List Arc) (cost f : List Int) : ACall Try.prog 53 [.agg [(.int .i64 n), (.int .i64 s), (.int .i64 t), (.ro (.arcs es))], .one (.ro (.ints .i64 cost)), .one (.ro (.ints .i64 f))] [] (fun ov oh => ov = .tup [(false, [(.int .i64 (okI (costErr2 n s t es cost f) (dear cost f)))]), (false, [(.int .i64 (costErr2 n s t es cost f))])] ∧ oh = []) := by
  refine acall_intro hT Try.func53 rfl (by kernel_rfl) rfl (by kernel_rfl) ?_
  refine awp_run_seq [1, 2, 3] [103] [] ⟨42, [(1, .one (.ro (.ints .i64 cost))), (2, .one (.ro (.ints .i64 f))), (3, .one (.ptr 103 0 0))], [(103, .box 1 4 [(.int .i64 n), (.int .i64 s), (.int .i64 t), (.ro (.arcs es))])]⟩ hT (by kernel_rfl) trivial ?_
  refine awp_seq ?_
  refine awp_seq (awp_region ?_)
  refine aops_run 2 [1, 2, 3, 13, 14] [103] [(0 < 1)] ⟨42, [(1, .one (.ro (.ints .i64 cost))), (2, .one (.ro (.ints .i64 f))), (3, .one (.ptr 103 0 0)), (13, .agg [(.int .i64 n), (.int .i64 s), (.int .i64 t), (.ro (.arcs es))]), (14, .one (.ro (.ints .i64 cost)))], [(103, .box 1 4 [(.int .i64 n), (.int .i64 s), (.int .i64 t), (.ro (.arcs es))])]⟩ hT (by kernel_rfl) (by kernel_rfl) ⟨(by decide), trivial⟩ ?_
  refine aops_pure false ⟨true, [], 55, [.agg [(.int .i64 n), (.int .i64 s), (.int .i64 t), (.ro (.arcs es))], .one (.ro (.ints .i64 cost))], []⟩ [.agg [(.int .i64 n), (.int .i64 s), (.int .i64 t), (.ro (.arcs es))], .one (.ro (.ints .i64 cost))] (.one (.int .i64 (costErr n s t es cost))) ⟨42, [(1, .one (.ro (.ints .i64 cost))), (2, .one (.ro (.ints .i64 f))), (3, .one (.ptr 103 0 0)), (13, .agg [(.int .i64 n), (.int .i64 s), (.int .i64 t), (.ro (.arcs es))]), (14, .one (.ro (.ints .i64 cost))), (15, .one (.int .i64 (costErr n s t es cost)))], [(103, .box 1 4 [(.int .i64 n), (.int .i64 s), (.int .i64 t), (.ro (.arcs es))])]⟩ (by kernel_rfl) (by kernel_rfl) (fun _ => trivial) rfl (fun _ => cheap_check n s t es cost) ?_
  refine aops_run 1 [1, 2, 3, 8] [103] [] ⟨42, [(1, .one (.ro (.ints .i64 cost))), (2, .one (.ro (.ints .i64 f))), (3, .one (.ptr 103 0 0)), (8, .one (.int .i64 (costErr n s t es cost)))], [(103, .box 1 4 [(.int .i64 n), (.int .i64 s), (.int .i64 t), (.ro (.arcs es))])]⟩ hT (by kernel_rfl) (by kernel_rfl) trivial ?_
  refine aops_end_seq (by kernel_rfl) ?_
  refine awp_run_seq [1, 2, 3, 8, 17] [103] [] ⟨42, [(1, .one (.ro (.ints .i64 cost))), (2, .one (.ro (.ints .i64 f))), (3, .one (.ptr 103 0 0)), (8, .one (.int .i64 (costErr n s t es cost))), (17, .one (.bool (decide ((costErr n s t es cost) ≠ 0))))], [(103, .box 1 4 [(.int .i64 n), (.int .i64 s), (.int .i64 t), (.ro (.arcs es))])]⟩ hT (by kernel_rfl) trivial ?_
  refine awp_cond (b := (decide ((costErr n s t es cost) ≠ 0))) (by kernel_rfl) (fun c2 => ?_) (fun c2 => ?_)
  · -- yes 2
    try simp only [bs] at c2
    have hE : (costErr2 n s t es cost f) = (costErr n s t es cost) := by rw [costErr2, if_pos (by omega)]
    have hE0 : (costErr2 n s t es cost f) ≠ 0 := by omega
    refine awp_run_seq [6, 7] [] [] ⟨42, [(6, .one (.int .i64 0)), (7, .one (.int .i64 (costErr n s t es cost)))], []⟩ hT (by kernel_rfl) trivial ?_
    refine awp_ret ?_
    refine kRet.ret _ [] [] (.tup [(false, [(.int .i64 0)]), (false, [(.int .i64 (costErr n s t es cost))])]) [] (by kernel_rfl) trivial ?_
    exact ⟨by first | rw [show (okI (costErr2 n s t es cost f) (dear cost f)) = 0 from Eq.symm (by first | exact hE.symm | exact (okI_no _ hE0).symm), show (costErr2 n s t es cost f) = (costErr n s t es cost) from Eq.symm (by first | exact hE.symm | exact (okI_no _ hE0).symm)] | rw [show (okI (costErr2 n s t es cost f) (dear cost f)) = 0 from Eq.symm (by first | exact hE.symm | exact (okI_no _ hE0).symm)] | rw [show (costErr2 n s t es cost f) = (costErr n s t es cost) from Eq.symm (by first | exact hE.symm | exact (okI_no _ hE0).symm)], rfl⟩
  · -- no 2
    try simp only [bs] at c2
    have hE1 : (costErr n s t es cost) = 0 := by omega
    obtain ⟨hn, hc⟩ := costErr_ok hE1
    have hE : (costErr2 n s t es cost f) = flowErr n s t es f := by rw [costErr2, if_neg (by omega)]
    refine awp_skip ?_
    refine awp_seq ?_
    refine awp_seq (awp_region ?_)
    refine aops_run 2 [1, 2, 19, 20] [] [(0 < 1)] ⟨42, [(1, .one (.ro (.ints .i64 cost))), (2, .one (.ro (.ints .i64 f))), (19, .agg [(.int .i64 n), (.int .i64 s), (.int .i64 t), (.ro (.arcs es))]), (20, .one (.ro (.ints .i64 f)))], []⟩ hT (by kernel_rfl) (by kernel_rfl) ⟨(by decide), trivial⟩ ?_
    refine aops_pure false ⟨true, [], 96, [.agg [(.int .i64 n), (.int .i64 s), (.int .i64 t), (.ro (.arcs es))], .one (.ro (.ints .i64 f))], []⟩ [.agg [(.int .i64 n), (.int .i64 s), (.int .i64 t), (.ro (.arcs es))], .one (.ro (.ints .i64 f))] (.one (.int .i64 (flowErr n s t es f))) ⟨42, [(1, .one (.ro (.ints .i64 cost))), (2, .one (.ro (.ints .i64 f))), (19, .agg [(.int .i64 n), (.int .i64 s), (.int .i64 t), (.ro (.arcs es))]), (20, .one (.ro (.ints .i64 f))), (21, .one (.int .i64 (flowErr n s t es f)))], []⟩ (by kernel_rfl) (by kernel_rfl) (fun _ => trivial) rfl (fun _ => flow_check n s t es f) ?_
    refine aops_run 1 [1, 2, 9] [] [] ⟨42, [(1, .one (.ro (.ints .i64 cost))), (2, .one (.ro (.ints .i64 f))), (9, .one (.int .i64 (flowErr n s t es f)))], []⟩ hT (by kernel_rfl) (by kernel_rfl) trivial ?_
    refine aops_end_seq (by kernel_rfl) ?_
    refine awp_run_seq [1, 2, 9, 23] [] [] ⟨42, [(1, .one (.ro (.ints .i64 cost))), (2, .one (.ro (.ints .i64 f))), (9, .one (.int .i64 (flowErr n s t es f))), (23, .one (.bool (decide ((flowErr n s t es f) ≠ 0))))], []⟩ hT (by kernel_rfl) trivial ?_
    refine awp_cond (b := (decide ((flowErr n s t es f) ≠ 0))) (by kernel_rfl) (fun c5 => ?_) (fun c5 => ?_)
    · -- yes 5
      try simp only [bs] at c5
      have hE0 : (costErr2 n s t es cost f) ≠ 0 := by omega
      refine awp_run_seq [6, 7] [] [] ⟨42, [(6, .one (.int .i64 0)), (7, .one (.int .i64 (flowErr n s t es f)))], []⟩ hT (by kernel_rfl) trivial ?_
      refine awp_ret ?_
      refine kRet.ret _ [] [] (.tup [(false, [(.int .i64 0)]), (false, [(.int .i64 (flowErr n s t es f))])]) [] (by kernel_rfl) trivial ?_
      exact ⟨by first | rw [show (okI (costErr2 n s t es cost f) (dear cost f)) = 0 from Eq.symm (by first | exact hE.symm | exact (okI_no _ hE0).symm), show (costErr2 n s t es cost f) = (flowErr n s t es f) from Eq.symm (by first | exact hE.symm | exact (okI_no _ hE0).symm)] | rw [show (okI (costErr2 n s t es cost f) (dear cost f)) = 0 from Eq.symm (by first | exact hE.symm | exact (okI_no _ hE0).symm)] | rw [show (costErr2 n s t es cost f) = (flowErr n s t es f) from Eq.symm (by first | exact hE.symm | exact (okI_no _ hE0).symm)], rfl⟩
    · -- no 5
      try simp only [bs] at c5
      have hFl := flowErr_ok (show flowErr n s t es f = 0 by omega)
      have hfi := hFl.fin
      have h10 : ∀ k, k < es.length → f.getD k 0 ≤ 10000 := fun k hk => (hFl.f10 k hk).2
      have hfl := hfi.len
      have hcl := hc.2.1
      have he30 := hc.1
      refine awp_skip ?_
      refine awp_run_seq [1, 2, 10] [] [] ⟨42, [(1, .one (.ro (.ints .i64 cost))), (2, .one (.ro (.ints .i64 f))), (10, .one (.int .i64 0))], []⟩ hT (by kernel_rfl) trivial ?_
      refine awp_seq ?_
      refine awp_run_seq [1, 10, 25, 26, 27] [] [] ⟨42, [(1, .one (.ro (.ints .i64 cost))), (10, .one (.int .i64 0)), (25, .one (.ro (.ints .i64 f))), (26, .one (.int .i64 ((f.length : Nat) : Int))), (27, .one (.int .i64 0))], []⟩ hT (by kernel_rfl) trivial ?_
      refine awp_block ?_
      refine awp_loop (I := fun κ σ => ∃ (i : Nat) (sm : Int), ((i ≤ f.length) ∧ (sm + dear (cost.drop i) (f.drop i) = dear cost f) ∧ (0 ≤ sm ∧ sm ≤ 10000000 * (i : Int)) ∧ f.length - i = κ) ∧ σ = ⟨42, [(1, .one (.ro (.ints .i64 cost))), (10, .one (.int .i64 sm)), (25, .one (.ro (.ints .i64 f))), (26, .one (.int .i64 ((f.length : Nat) : Int))), (27, .one (.int .i64 ((i : Nat) : Int)))], []⟩) _ ⟨0, 0, ⟨(by omega), (by simp), (by omega), rfl⟩, (by kernel_rfl)⟩ ?_
      rintro κ _ ⟨i, sm, ⟨hi, hs, hb, rfl⟩, rfl⟩
      refine awp_run_seq [1, 10, 25, 26, 27, 28] [] [] ⟨42, [(1, .one (.ro (.ints .i64 cost))), (10, .one (.int .i64 sm)), (25, .one (.ro (.ints .i64 f))), (26, .one (.int .i64 ((f.length : Nat) : Int))), (27, .one (.int .i64 ((i : Nat) : Int))), (28, .one (.bool (decide (((i : Nat) : Int) < ((f.length : Nat) : Int)))))], []⟩ hT (by kernel_rfl) trivial ?_
      refine awp_seq ?_
      refine awp_cond (b := (decide (((i : Nat) : Int) < ((f.length : Nat) : Int)))) (by kernel_rfl) (fun c9 => ?_) (fun c9 => ?_)
      · -- yes 9
        try simp only [bs] at c9
        have hdd := dear_drop (cost := cost) (f := f) (i := i) (by omega) (by omega)
        have hfk := hfi.at_ i (by omega)
        have hck := hc.2.2 i (by omega)
        have hm0 := Int.mul_nonneg hfk.1 hck.1
        have hf10 := h10 i (by omega)
        have hm1 : f.getD i 0 * cost.getD i 0 ≤ 10000 * 1000 := Int.mul_le_mul hf10 hck.2 hck.1 (by decide)
        refine awp_skip ?_
        refine awp_seq ?_
        refine awp_block ?_
        refine awp_run_seq [1, 10, 11, 12, 25, 26, 27] [] [((0 : Int) ≤ ((i : Nat) : Int)), (((i : Nat) : Int) < ((f.length : Nat) : Int))] ⟨42, [(1, .one (.ro (.ints .i64 cost))), (10, .one (.int .i64 sm)), (11, .one (.int .i64 ((i : Nat) : Int))), (12, .one (.int .i64 (List.getD f i 0))), (25, .one (.ro (.ints .i64 f))), (26, .one (.int .i64 ((f.length : Nat) : Int))), (27, .one (.int .i64 ((i : Nat) : Int)))], []⟩ hT (by kernel_rfl) ⟨(by first | omega | (simp only [lens]; omega) | (simp only [Bool.cond_decide]; omega) | (simp only [nadd_eq]; omega)), (by first | omega | (simp only [lens]; omega) | (simp only [Bool.cond_decide]; omega) | (simp only [nadd_eq]; omega)), trivial⟩ ?_
        refine awp_run [1, 10, 25, 26, 27] [] [((0 : Int) ≤ ((i : Nat) : Int)), (((i : Nat) : Int) < ((cost.length : Nat) : Int)), (-9223372036854775808 ≤ ((List.getD f i 0) * (List.getD cost i 0)) ∧ ((List.getD f i 0) * (List.getD cost i 0)) ≤ 9223372036854775807), (-9223372036854775808 ≤ (sm + ((List.getD f i 0) * (List.getD cost i 0))) ∧ (sm + ((List.getD f i 0) * (List.getD cost i 0))) ≤ 9223372036854775807)] ⟨42, [(1, .one (.ro (.ints .i64 cost))), (10, .one (.int .i64 (sm + ((List.getD f i 0) * (List.getD cost i 0))))), (25, .one (.ro (.ints .i64 f))), (26, .one (.int .i64 ((f.length : Nat) : Int))), (27, .one (.int .i64 ((i : Nat) : Int)))], []⟩ hT (by kernel_rfl) ⟨(by first | omega | (simp only [lens]; omega) | (simp only [Bool.cond_decide]; omega) | (simp only [nadd_eq]; omega)), (by first | omega | (simp only [lens]; omega) | (simp only [Bool.cond_decide]; omega) | (simp only [nadd_eq]; omega)), (by first | omega | (simp only [lens]; omega) | (simp only [Bool.cond_decide]; omega) | (simp only [nadd_eq]; omega)), (by first | omega | (simp only [lens]; omega) | (simp only [Bool.cond_decide]; omega) | (simp only [nadd_eq]; omega)), trivial⟩ ?_
        refine awp_run [1, 10, 25, 26, 27] [] [(-9223372036854775808 ≤ (((i + 1) : Nat) : Int) ∧ (((i + 1) : Nat) : Int) ≤ 9223372036854775807)] ⟨42, [(1, .one (.ro (.ints .i64 cost))), (10, .one (.int .i64 (sm + ((List.getD f i 0) * (List.getD cost i 0))))), (25, .one (.ro (.ints .i64 f))), (26, .one (.int .i64 ((f.length : Nat) : Int))), (27, .one (.int .i64 (((i + 1) : Nat) : Int)))], []⟩ hT (by kernel_rfl) ⟨(by first | omega | (simp only [lens]; omega) | (simp only [Bool.cond_decide]; omega) | (simp only [nadd_eq]; omega)), trivial⟩ ?_
        refine loop_end _ ?_ ⟨(i + 1), (sm + ((List.getD f i 0) * (List.getD cost i 0))), ⟨(by omega), (by omega), (by omega), rfl⟩, (by kernel_rfl)⟩
        omega
      · -- no 9
        try simp only [bs] at c9
        have hfin : sm = dear cost f := by rw [← hs, dear_end (by omega)]; omega
        have hE0 : (costErr2 n s t es cost f) = 0 := by omega
        refine awp_exit ?_
        refine awp_run_seq [6, 7] [] [] ⟨42, [(6, .one (.int .i64 sm)), (7, .one (.int .i64 0))], []⟩ hT (by kernel_rfl) trivial ?_
        refine awp_ret ?_
        refine kRet.ret _ [] [] (.tup [(false, [(.int .i64 sm)]), (false, [(.int .i64 0)])]) [] (by kernel_rfl) trivial ?_
        exact ⟨by first | rw [show (okI (costErr2 n s t es cost f) (dear cost f)) = sm from Eq.symm (by first | exact hE0.symm | (rw [okI_ok _ hE0]; exact hfin)), show (costErr2 n s t es cost f) = 0 from Eq.symm (by first | exact hE0.symm | (rw [okI_ok _ hE0]; exact hfin))] | rw [show (okI (costErr2 n s t es cost f) (dear cost f)) = sm from Eq.symm (by first | exact hE0.symm | (rw [okI_ok _ hE0]; exact hfin))] | rw [show (costErr2 n s t es cost f) = 0 from Eq.symm (by first | exact hE0.symm | (rw [okI_ok _ hE0]; exact hfin))], rfl⟩

theorem cheap_left (n s t : Int) (es : List Arc) (cost f : List Int) (hc : CostOk es cost) (hfl : f.length = es.length) : ACall Try.prog 93 [.agg [(.int .i64 n), (.int .i64 s), (.int .i64 t), (.ro (.arcs es))], .one (.ro (.ints .i64 cost)), .one (.ro (.ints .i64 f))] [] (fun ov oh => ov = .agg [(.int .i64 n), (.rw 9001 0 (List.length (leftA es cost f es.length)))] ∧ oh = [(9001, .flat (.arcs (leftA es cost f es.length)))]) := by
  refine acall_intro hT Try.func93 rfl (by kernel_rfl) rfl (by kernel_rfl) ?_
  have hcl := hc.2.1
  have he30 := hc.1
  refine awp_run_seq [1, 2, 3, 6] [103, 106] [] ⟨73, [(1, .one (.ro (.ints .i64 cost))), (2, .one (.ro (.ints .i64 f))), (3, .one (.ptr 103 0 0)), (6, .one (.ptr 106 0 0))], [(103, .box 1 4 [(.int .i64 n), (.int .i64 s), (.int .i64 t), (.ro (.arcs es))]), (106, .box 1 2 [(.int .i64 0), .nils])]⟩ hT (by kernel_rfl) trivial ?_
  refine awp_run_seq [1, 2, 3, 6, 7] [103, 106, 107] [(0 < 1), (0 < 1)] ⟨73, [(1, .one (.ro (.ints .i64 cost))), (2, .one (.ro (.ints .i64 f))), (3, .one (.ptr 103 0 0)), (6, .one (.ptr 106 0 0)), (7, .one (.ptr 107 0 0))], [(103, .box 1 4 [(.int .i64 n), (.int .i64 s), (.int .i64 t), (.ro (.arcs es))]), (106, .box 1 2 [(.int .i64 0), .nils]), (107, .box 1 2 [(.int .i64 n), .nils])]⟩ hT (by kernel_rfl) ⟨(by decide), (by decide), trivial⟩ ?_
  refine awp_seq ?_
  refine awp_run_seq [1, 2, 6, 7, 16, 17, 18] [106, 107] [(0 < 1)] ⟨73, [(1, .one (.ro (.ints .i64 cost))), (2, .one (.ro (.ints .i64 f))), (6, .one (.ptr 106 0 0)), (7, .one (.ptr 107 0 0)), (16, .one (.ro (.arcs es))), (17, .one (.int .i64 ((es.length : Nat) : Int))), (18, .one (.int .i64 0))], [(106, .box 1 2 [(.int .i64 0), .nils]), (107, .box 1 2 [(.int .i64 n), .nils])]⟩ hT (by kernel_rfl) ⟨(by decide), trivial⟩ ?_
  refine awp_block ?_
  refine awp_weak (awk_empty 6701 (.flat (.arcs [])) rfl (by decide) _) ?_
  refine awp_weak (awk_boxcell 107 1 1 2 [(.int .i64 n), .nils] .nils (.rw 6701 0 0) _ (by kernel_rfl) rfl (wkv_nils (o := .flat (.arcs [])) (by kernel_rfl))) ?_
  refine awp_loop (I := fun κ σ => ∃ (k : Nat) (A : List Arc), ((k ≤ es.length) ∧ (A = leftA es cost f k) ∧ es.length - k = κ) ∧ σ = ⟨73, [(1, .one (.ro (.ints .i64 cost))), (2, .one (.ro (.ints .i64 f))), (6, .one (.ptr 106 0 0)), (7, .one (.ptr 107 0 0)), (16, .one (.ro (.arcs es))), (17, .one (.int .i64 ((es.length : Nat) : Int))), (18, .one (.int .i64 ((k : Nat) : Int)))], [(106, .box 1 2 [(.int .i64 0), .nils]), (107, .box 1 2 [(.int .i64 n), (.rw 6701 0 A.length)]), (6701, .flat (.arcs A))]⟩) _ ⟨0, [], ⟨(by omega), (by rfl), rfl⟩, (by kernel_rfl)⟩ ?_
  rintro κ _ ⟨k, A, ⟨hk, hA, rfl⟩, rfl⟩
  have hAl : A.length = 2 * k := by rw [hA]; exact leftA_len es cost f k
  refine awp_run_seq [1, 2, 6, 7, 16, 17, 18, 19] [106, 107, 6701] [] ⟨73, [(1, .one (.ro (.ints .i64 cost))), (2, .one (.ro (.ints .i64 f))), (6, .one (.ptr 106 0 0)), (7, .one (.ptr 107 0 0)), (16, .one (.ro (.arcs es))), (17, .one (.int .i64 ((es.length : Nat) : Int))), (18, .one (.int .i64 ((k : Nat) : Int))), (19, .one (.bool (decide (((k : Nat) : Int) < ((es.length : Nat) : Int)))))], [(106, .box 1 2 [(.int .i64 0), .nils]), (107, .box 1 2 [(.int .i64 n), (.rw 6701 0 A.length)]), (6701, .flat (.arcs A))]⟩ hT (by kernel_rfl) trivial ?_
  refine awp_seq ?_
  refine awp_cond (b := (decide (((k : Nat) : Int) < ((es.length : Nat) : Int)))) (by kernel_rfl) (fun c3 => ?_) (fun c3 => ?_)
  · -- yes 3
    try simp only [bs] at c3
    have hck := hc.2.2 k (by omega)
    refine awp_skip ?_
    refine awp_seq ?_
    refine awp_block ?_
    refine awp_run_seq [1, 2, 6, 7, 8, 9, 16, 17, 18] [106, 107, 109, 6701] [((0 : Int) ≤ ((k : Nat) : Int)), (((k : Nat) : Int) < ((es.length : Nat) : Int)), (0 < 1)] ⟨73, [(1, .one (.ro (.ints .i64 cost))), (2, .one (.ro (.ints .i64 f))), (6, .one (.ptr 106 0 0)), (7, .one (.ptr 107 0 0)), (8, .one (.int .i64 ((k : Nat) : Int))), (9, .one (.ptr 109 0 0)), (16, .one (.ro (.arcs es))), (17, .one (.int .i64 ((es.length : Nat) : Int))), (18, .one (.int .i64 ((k : Nat) : Int)))], [(106, .box 1 2 [(.int .i64 0), .nils]), (107, .box 1 2 [(.int .i64 n), (.rw 6701 0 A.length)]), (109, .box 1 3 [(.int .i64 ((List.getD es k default).src)), (.int .i64 ((List.getD es k default).dst)), (.int .i64 ((List.getD es k default).cap))]), (6701, .flat (.arcs A))]⟩ hT (by kernel_rfl) ⟨(by first | omega | (simp only [lens]; omega) | (simp only [Bool.cond_decide]; omega) | (simp only [nadd_eq]; omega)), (by first | omega | (simp only [lens]; omega) | (simp only [Bool.cond_decide]; omega) | (simp only [nadd_eq]; omega)), (by decide), trivial⟩ ?_
    -- 0 of 14 operations in any order
    refine awp_seq (awp_calm3 [] false [[], [0], [], [2], [0, 1, 2, 3], [], [5], [], [7], [5, 6, 7, 8], [], [], [0, 1, 2, 3, 4, 10, 11], [0, 1, 2, 3, 4, 5, 6, 7, 8, 9, 10, 11, 12]] 0 14 #[false, false, false, false, false, false, false, false, false, false, false, false, false, false] [1, 2, 6, 7, 8, 9, 16, 17, 18] [106, 107, 109, 6701] [] ⟨73, [(1, .one (.ro (.ints .i64 cost))), (2, .one (.ro (.ints .i64 f))), (6, .one (.ptr 106 0 0)), (7, .one (.ptr 107 0 0)), (8, .one (.int .i64 ((k : Nat) : Int))), (9, .one (.ptr 109 0 0)), (16, .one (.ro (.arcs es))), (17, .one (.int .i64 ((es.length : Nat) : Int))), (18, .one (.int .i64 ((k : Nat) : Int)))], [(106, .box 1 2 [(.int .i64 0), .nils]), (107, .box 1 2 [(.int .i64 n), (.rw 6701 0 A.length)]), (109, .box 1 3 [(.int .i64 ((List.getD es k default).src)), (.int .i64 ((List.getD es k default).dst)), (.int .i64 ((List.getD es k default).cap))]), (6701, .flat (.arcs A))]⟩ (by kernel_rfl) hT (by kernel_rfl) (by kernel_rfl) (by kernel_rfl) (by kernel_rfl) trivial ?_)
    -- 6720 orders, 110 states
    refine aany_dag (n := 0) (L := #[true, true, true, true, true, true, true, true, true, true, true, true, true, true]) (s' := ⟨73, [(1, .one (.ro (.ints .i64 cost))), (2, .one (.ro (.ints .i64 f))), (6, .one (.ptr 106 0 0)), (7, .one (.ptr 107 0 0)), (8, .one (.int .i64 ((k : Nat) : Int))), (9, .one (.ptr 109 0 0)), (10, .one (.ptr 110 0 0)), (11, .one (.ptr 111 0 0)), (16, .one (.ro (.arcs es))), (17, .one (.int .i64 ((es.length : Nat) : Int))), (18, .one (.int .i64 ((k : Nat) : Int)))], [(106, .box 1 2 [(.int .i64 0), .nils]), (107, .box 1 2 [(.int .i64 n), (.rw 6701 0 A.length)]), (109, .box 1 3 [(.int .i64 ((List.getD es k default).src)), (.int .i64 ((List.getD es k default).dst)), (.int .i64 ((List.getD es k default).cap))]), (110, .box 1 3 [(.int .i64 ((List.getD es k default).src)), (.int .i64 ((List.getD es k default).src)), (.int .i64 0)]), (111, .box 1 3 [(.int .i64 ((List.getD es k default).src)), (.int .i64 ((List.getD es k default).src)), (.int .i64 0)]), (6701, .flat (.arcs A))]⟩) [] false 14 [1, 2, 6, 7, 8, 9, 10, 11, 16, 17, 18] [106, 107, 109, 110, 111, 6701] [(0, []), (1, [(0 < 1)]), (2, []), (3, [(0 < 1)]), (4, []), (5, []), (6, [(0 < 1)]), (7, []), (8, [(0 < 1)]), (9, []), (10, []), (11, []), (12, [(0 < 1)]), (13, [(0 < 1)])] hT (by kernel_rfl) (by kernel_rfl) (by kernel_rfl) ⟨trivial, ⟨(by decide), trivial⟩, trivial, ⟨(by decide), trivial⟩, trivial, trivial, ⟨(by decide), trivial⟩, trivial, ⟨(by decide), trivial⟩, trivial, trivial, trivial, ⟨(by decide), trivial⟩, ⟨(by decide), trivial⟩, trivial⟩ ?_
    refine aany_end [] false [1, 2, 6, 7, 8, 9, 10, 11, 16, 17, 18] [106, 107, 109, 110, 111, 6701] 1 [] ⟨73, [(1, .one (.ro (.ints .i64 cost))), (2, .one (.ro (.ints .i64 f))), (6, .one (.ptr 106 0 0)), (7, .one (.ptr 107 0 0)), (8, .one (.int .i64 ((k : Nat) : Int))), (9, .one (.ptr 109 0 0)), (10, .one (.ptr 110 0 0)), (11, .one (.ptr 111 0 0)), (16, .one (.ro (.arcs es))), (17, .one (.int .i64 ((es.length : Nat) : Int))), (18, .one (.int .i64 ((k : Nat) : Int)))], [(106, .box 1 2 [(.int .i64 0), .nils]), (107, .box 1 2 [(.int .i64 n), (.rw 6701 0 A.length)]), (109, .box 1 3 [(.int .i64 ((List.getD es k default).src)), (.int .i64 ((List.getD es k default).dst)), (.int .i64 ((List.getD es k default).cap))]), (110, .box 1 3 [(.int .i64 ((List.getD es k default).src)), (.int .i64 ((List.getD es k default).src)), (.int .i64 0)]), (111, .box 1 3 [(.int .i64 ((List.getD es k default).src)), (.int .i64 ((List.getD es k default).src)), (.int .i64 0)]), (6701, .flat (.arcs A))]⟩ (by kernel_rfl) hT (by kernel_rfl) trivial ?_
    refine awp_seq ?_
    refine awp_seq (awp_still [1, 2, 6, 7, 8, 9, 10, 11, 16, 17, 18, 39] [106, 107, 109, 110, 111, 6701] [((0 : Int) ≤ ((k : Nat) : Int)), (((k : Nat) : Int) < ((f.length : Nat) : Int)), (0 < 1)] ⟨73, [(1, .one (.ro (.ints .i64 cost))), (2, .one (.ro (.ints .i64 f))), (6, .one (.ptr 106 0 0)), (7, .one (.ptr 107 0 0)), (8, .one (.int .i64 ((k : Nat) : Int))), (9, .one (.ptr 109 0 0)), (10, .one (.ptr 110 0 0)), (11, .one (.ptr 111 0 0)), (16, .one (.ro (.arcs es))), (17, .one (.int .i64 ((es.length : Nat) : Int))), (18, .one (.int .i64 ((k : Nat) : Int))), (39, .one (.bool (decide ((List.getD f k 0) < ((List.getD es k default).cap)))))], [(106, .box 1 2 [(.int .i64 0), .nils]), (107, .box 1 2 [(.int .i64 n), (.rw 6701 0 A.length)]), (109, .box 1 3 [(.int .i64 ((List.getD es k default).src)), (.int .i64 ((List.getD es k default).dst)), (.int .i64 ((List.getD es k default).cap))]), (110, .box 1 3 [(.int .i64 ((List.getD es k default).src)), (.int .i64 ((List.getD es k default).src)), (.int .i64 0)]), (111, .box 1 3 [(.int .i64 ((List.getD es k default).src)), (.int .i64 ((List.getD es k default).src)), (.int .i64 0)]), (6701, .flat (.arcs A))]⟩ (by kernel_rfl) (by kernel_rfl) hT (by kernel_rfl) ⟨(by first | omega | (simp only [lens]; omega) | (simp only [Bool.cond_decide]; omega) | (simp only [nadd_eq]; omega)), (by first | omega | (simp only [lens]; omega) | (simp only [Bool.cond_decide]; omega) | (simp only [nadd_eq]; omega)), (by decide), trivial⟩ ?_)
    refine awp_cond (b := (decide ((List.getD f k 0) < ((List.getD es k default).cap)))) (by kernel_rfl) (fun c6 => ?_) (fun c6 => ?_)
    · -- yes 6
      try simp only [bs] at c6
      have hsF : stepF es cost f k = ⟨(es.getD k default).src, (es.getD k default).dst, cost.getD k 0⟩ := if_pos c6
      refine awp_tail 9 [1, 2, 6, 7, 8, 9, 10, 11, 16, 17, 18, 48] [106, 107, 109, 110, 111, 6701] [(0 < 1), (0 < 1), ((0 : Int) ≤ ((k : Nat) : Int)), (((k : Nat) : Int) < ((cost.length : Nat) : Int))] ⟨73, [(1, .one (.ro (.ints .i64 cost))), (2, .one (.ro (.ints .i64 f))), (6, .one (.ptr 106 0 0)), (7, .one (.ptr 107 0 0)), (8, .one (.int .i64 ((k : Nat) : Int))), (9, .one (.ptr 109 0 0)), (10, .one (.ptr 110 0 0)), (11, .one (.ptr 111 0 0)), (16, .one (.ro (.arcs es))), (17, .one (.int .i64 ((es.length : Nat) : Int))), (18, .one (.int .i64 ((k : Nat) : Int))), (48, .agg [(.int .i64 ((List.getD es k default).src)), (.int .i64 ((List.getD es k default).dst)), (.int .i64 (List.getD cost k 0))])], [(106, .box 1 2 [(.int .i64 0), .nils]), (107, .box 1 2 [(.int .i64 n), (.rw 6701 0 A.length)]), (109, .box 1 3 [(.int .i64 ((List.getD es k default).src)), (.int .i64 ((List.getD es k default).dst)), (.int .i64 ((List.getD es k default).cap))]), (110, .box 1 3 [(.int .i64 ((List.getD es k default).src)), (.int .i64 ((List.getD es k default).src)), (.int .i64 0)]), (111, .box 1 3 [(.int .i64 ((List.getD es k default).src)), (.int .i64 ((List.getD es k default).src)), (.int .i64 0)]), (6701, .flat (.arcs A))]⟩ (by kernel_rfl) (by kernel_rfl) hT (by kernel_rfl) ⟨(by decide), (by decide), (by first | omega | (simp only [lens]; omega) | (simp only [Bool.cond_decide]; omega) | (simp only [nadd_eq]; omega)), (by first | omega | (simp only [lens]; omega) | (simp only [Bool.cond_decide]; omega) | (simp only [nadd_eq]; omega)), trivial⟩ ?_
      refine aops_run 1 [1, 2, 6, 7, 8, 9, 10, 11, 16, 17, 18] [106, 107, 109, 110, 111, 6701] [(0 < 1)] ⟨73, [(1, .one (.ro (.ints .i64 cost))), (2, .one (.ro (.ints .i64 f))), (6, .one (.ptr 106 0 0)), (7, .one (.ptr 107 0 0)), (8, .one (.int .i64 ((k : Nat) : Int))), (9, .one (.ptr 109 0 0)), (10, .one (.ptr 110 0 0)), (11, .one (.ptr 111 0 0)), (16, .one (.ro (.arcs es))), (17, .one (.int .i64 ((es.length : Nat) : Int))), (18, .one (.int .i64 ((k : Nat) : Int)))], [(106, .box 1 2 [(.int .i64 0), .nils]), (107, .box 1 2 [(.int .i64 n), (.rw 6701 0 A.length)]), (109, .box 1 3 [(.int .i64 ((List.getD es k default).src)), (.int .i64 ((List.getD es k default).dst)), (.int .i64 ((List.getD es k default).cap))]), (110, .box 1 3 [(.int .i64 ((List.getD es k default).src)), (.int .i64 ((List.getD es k default).dst)), (.int .i64 (List.getD cost k 0))]), (111, .box 1 3 [(.int .i64 ((List.getD es k default).src)), (.int .i64 ((List.getD es k default).src)), (.int .i64 0)]), (6701, .flat (.arcs A))]⟩ hT (by kernel_rfl) (by kernel_rfl) ⟨(by decide), trivial⟩ ?_
      refine aops_end (by kernel_rfl) ?_
      refine awp_seq ?_
      refine awp_run_seq [1, 2, 6, 7, 8, 9, 10, 11, 16, 17, 18, 53] [106, 107, 109, 110, 111, 6701] [((0 : Int) ≤ ((k : Nat) : Int)), (((k : Nat) : Int) < ((f.length : Nat) : Int))] ⟨73, [(1, .one (.ro (.ints .i64 cost))), (2, .one (.ro (.ints .i64 f))), (6, .one (.ptr 106 0 0)), (7, .one (.ptr 107 0 0)), (8, .one (.int .i64 ((k : Nat) : Int))), (9, .one (.ptr 109 0 0)), (10, .one (.ptr 110 0 0)), (11, .one (.ptr 111 0 0)), (16, .one (.ro (.arcs es))), (17, .one (.int .i64 ((es.length : Nat) : Int))), (18, .one (.int .i64 ((k : Nat) : Int))), (53, .one (.bool (decide ((0 : Int) < (List.getD f k 0)))))], [(106, .box 1 2 [(.int .i64 0), .nils]), (107, .box 1 2 [(.int .i64 n), (.rw 6701 0 A.length)]), (109, .box 1 3 [(.int .i64 ((List.getD es k default).src)), (.int .i64 ((List.getD es k default).dst)), (.int .i64 ((List.getD es k default).cap))]), (110, .box 1 3 [(.int .i64 ((List.getD es k default).src)), (.int .i64 ((List.getD es k default).dst)), (.int .i64 (List.getD cost k 0))]), (111, .box 1 3 [(.int .i64 ((List.getD es k default).src)), (.int .i64 ((List.getD es k default).src)), (.int .i64 0)]), (6701, .flat (.arcs A))]⟩ hT (by kernel_rfl) ⟨(by first | omega | (simp only [lens]; omega) | (simp only [Bool.cond_decide]; omega) | (simp only [nadd_eq]; omega)), (by first | omega | (simp only [lens]; omega) | (simp only [Bool.cond_decide]; omega) | (simp only [nadd_eq]; omega)), trivial⟩ ?_
      refine awp_cond (b := (decide ((0 : Int) < (List.getD f k 0)))) (by kernel_rfl) (fun c8 => ?_) (fun c8 => ?_)
      · -- yes 8
        try simp only [bs] at c8
        have hsB : stepB es cost f k = ⟨(es.getD k default).dst, (es.getD k default).src, -cost.getD k 0⟩ := if_pos c8
        refine awp_tail 10 [1, 2, 6, 7, 10, 11, 16, 17, 18, 63] [106, 107, 110, 111, 6701] [(0 < 1), (0 < 1), ((0 : Int) ≤ ((k : Nat) : Int)), (((k : Nat) : Int) < ((cost.length : Nat) : Int)), (-9223372036854775808 ≤ (-(List.getD cost k 0)) ∧ (-(List.getD cost k 0)) ≤ 9223372036854775807)] ⟨73, [(1, .one (.ro (.ints .i64 cost))), (2, .one (.ro (.ints .i64 f))), (6, .one (.ptr 106 0 0)), (7, .one (.ptr 107 0 0)), (10, .one (.ptr 110 0 0)), (11, .one (.ptr 111 0 0)), (16, .one (.ro (.arcs es))), (17, .one (.int .i64 ((es.length : Nat) : Int))), (18, .one (.int .i64 ((k : Nat) : Int))), (63, .agg [(.int .i64 ((List.getD es k default).dst)), (.int .i64 ((List.getD es k default).src)), (.int .i64 (-(List.getD cost k 0)))])], [(106, .box 1 2 [(.int .i64 0), .nils]), (107, .box 1 2 [(.int .i64 n), (.rw 6701 0 A.length)]), (110, .box 1 3 [(.int .i64 ((List.getD es k default).src)), (.int .i64 ((List.getD es k default).dst)), (.int .i64 (List.getD cost k 0))]), (111, .box 1 3 [(.int .i64 ((List.getD es k default).src)), (.int .i64 ((List.getD es k default).src)), (.int .i64 0)]), (6701, .flat (.arcs A))]⟩ (by kernel_rfl) (by kernel_rfl) hT (by kernel_rfl) ⟨(by decide), (by decide), (by first | omega | (simp only [lens]; omega) | (simp only [Bool.cond_decide]; omega) | (simp only [nadd_eq]; omega)), (by first | omega | (simp only [lens]; omega) | (simp only [Bool.cond_decide]; omega) | (simp only [nadd_eq]; omega)), (by first | omega | (simp only [lens]; omega) | (simp only [Bool.cond_decide]; omega) | (simp only [nadd_eq]; omega)), trivial⟩ ?_
        refine aops_run 1 [1, 2, 6, 7, 10, 11, 16, 17, 18] [106, 107, 110, 111, 6701] [(0 < 1)] ⟨73, [(1, .one (.ro (.ints .i64 cost))), (2, .one (.ro (.ints .i64 f))), (6, .one (.ptr 106 0 0)), (7, .one (.ptr 107 0 0)), (10, .one (.ptr 110 0 0)), (11, .one (.ptr 111 0 0)), (16, .one (.ro (.arcs es))), (17, .one (.int .i64 ((es.length : Nat) : Int))), (18, .one (.int .i64 ((k : Nat) : Int)))], [(106, .box 1 2 [(.int .i64 0), .nils]), (107, .box 1 2 [(.int .i64 n), (.rw 6701 0 A.length)]), (110, .box 1 3 [(.int .i64 ((List.getD es k default).src)), (.int .i64 ((List.getD es k default).dst)), (.int .i64 (List.getD cost k 0))]), (111, .box 1 3 [(.int .i64 ((List.getD es k default).dst)), (.int .i64 ((List.getD es k default).src)), (.int .i64 (-(List.getD cost k 0)))]), (6701, .flat (.arcs A))]⟩ hT (by kernel_rfl) (by kernel_rfl) ⟨(by decide), trivial⟩ ?_
        refine aops_end (by kernel_rfl) ?_
        refine awp_region ?_
        refine aops_run 8 [1, 2, 6, 7, 16, 17, 18] [106, 107, 6701] [(0 < 1), (0 < 1), (0 < 1), (A.length = A.length), ((A.length + 2) * 24 ≤ 140737488355328), ((A.length + 2) ≤ 9223372036854775807), (0 < 1)] ⟨73, [(1, .one (.ro (.ints .i64 cost))), (2, .one (.ro (.ints .i64 f))), (6, .one (.ptr 106 0 0)), (7, .one (.ptr 107 0 0)), (16, .one (.ro (.arcs es))), (17, .one (.int .i64 ((es.length : Nat) : Int))), (18, .one (.int .i64 ((k : Nat) : Int)))], [(106, .box 1 2 [(.int .i64 0), .nils]), (107, .box 1 2 [(.int .i64 n), (.rw 6701 0 (A.length + 2))]), (6701, .flat (.arcs (A ++ [⟨((List.getD es k default).src), ((List.getD es k default).dst), (List.getD cost k 0)⟩, ⟨((List.getD es k default).dst), ((List.getD es k default).src), (-(List.getD cost k 0))⟩])))]⟩ hT (by kernel_rfl) (by kernel_rfl) ⟨(by decide), (by decide), (by decide), (by first | omega | (simp only [lens]; omega) | (simp only [Bool.cond_decide]; omega) | (simp only [nadd_eq]; omega)), (by first | omega | (simp only [lens]; omega) | (simp only [Bool.cond_decide]; omega) | (simp only [nadd_eq]; omega)), (by first | omega | (simp only [lens]; omega) | (simp only [Bool.cond_decide]; omega) | (simp only [nadd_eq]; omega)), (by decide), trivial⟩ ?_
        refine aops_end (by kernel_rfl) ?_
        refine awp_run [1, 2, 6, 7, 16, 17, 18] [106, 107, 6701] [(-9223372036854775808 ≤ (((k + 1) : Nat) : Int) ∧ (((k + 1) : Nat) : Int) ≤ 9223372036854775807)] ⟨73, [(1, .one (.ro (.ints .i64 cost))), (2, .one (.ro (.ints .i64 f))), (6, .one (.ptr 106 0 0)), (7, .one (.ptr 107 0 0)), (16, .one (.ro (.arcs es))), (17, .one (.int .i64 ((es.length : Nat) : Int))), (18, .one (.int .i64 (((k + 1) : Nat) : Int)))], [(106, .box 1 2 [(.int .i64 0), .nils]), (107, .box 1 2 [(.int .i64 n), (.rw 6701 0 (A.length + 2))]), (6701, .flat (.arcs (A ++ [⟨((List.getD es k default).src), ((List.getD es k default).dst), (List.getD cost k 0)⟩, ⟨((List.getD es k default).dst), ((List.getD es k default).src), (-(List.getD cost k 0))⟩])))]⟩ hT (by kernel_rfl) ⟨(by first | omega | (simp only [lens]; omega) | (simp only [Bool.cond_decide]; omega) | (simp only [nadd_eq]; omega)), trivial⟩ ?_
        refine loop_end _ ?_ ⟨(k + 1), (A ++ [⟨((List.getD es k default).src), ((List.getD es k default).dst), (List.getD cost k 0)⟩, ⟨((List.getD es k default).dst), ((List.getD es k default).src), (-(List.getD cost k 0))⟩]), ⟨(by omega), (by rw [leftA, hsF, hsB, hA]), rfl⟩, (by first | (simp only [lens]; done) | (simp only [Nat.zero_add]; done) | simp only [lens, Nat.zero_add])⟩
        omega
      · -- no 8
        try simp only [bs] at c8
        have hsB : stepB es cost f k = ⟨(es.getD k default).src, (es.getD k default).src, 0⟩ := if_neg c8
        refine awp_skip ?_
        refine awp_region ?_
        refine aops_run 8 [1, 2, 6, 7, 16, 17, 18] [106, 107, 6701] [(0 < 1), (0 < 1), (0 < 1), (A.length = A.length), ((A.length + 2) * 24 ≤ 140737488355328), ((A.length + 2) ≤ 9223372036854775807), (0 < 1)] ⟨73, [(1, .one (.ro (.ints .i64 cost))), (2, .one (.ro (.ints .i64 f))), (6, .one (.ptr 106 0 0)), (7, .one (.ptr 107 0 0)), (16, .one (.ro (.arcs es))), (17, .one (.int .i64 ((es.length : Nat) : Int))), (18, .one (.int .i64 ((k : Nat) : Int)))], [(106, .box 1 2 [(.int .i64 0), .nils]), (107, .box 1 2 [(.int .i64 n), (.rw 6701 0 (A.length + 2))]), (6701, .flat (.arcs (A ++ [⟨((List.getD es k default).src), ((List.getD es k default).dst), (List.getD cost k 0)⟩, ⟨((List.getD es k default).src), ((List.getD es k default).src), 0⟩])))]⟩ hT (by kernel_rfl) (by kernel_rfl) ⟨(by decide), (by decide), (by decide), (by first | omega | (simp only [lens]; omega) | (simp only [Bool.cond_decide]; omega) | (simp only [nadd_eq]; omega)), (by first | omega | (simp only [lens]; omega) | (simp only [Bool.cond_decide]; omega) | (simp only [nadd_eq]; omega)), (by first | omega | (simp only [lens]; omega) | (simp only [Bool.cond_decide]; omega) | (simp only [nadd_eq]; omega)), (by decide), trivial⟩ ?_
        refine aops_end (by kernel_rfl) ?_
        refine awp_run [1, 2, 6, 7, 16, 17, 18] [106, 107, 6701] [(-9223372036854775808 ≤ (((k + 1) : Nat) : Int) ∧ (((k + 1) : Nat) : Int) ≤ 9223372036854775807)] ⟨73, [(1, .one (.ro (.ints .i64 cost))), (2, .one (.ro (.ints .i64 f))), (6, .one (.ptr 106 0 0)), (7, .one (.ptr 107 0 0)), (16, .one (.ro (.arcs es))), (17, .one (.int .i64 ((es.length : Nat) : Int))), (18, .one (.int .i64 (((k + 1) : Nat) : Int)))], [(106, .box 1 2 [(.int .i64 0), .nils]), (107, .box 1 2 [(.int .i64 n), (.rw 6701 0 (A.length + 2))]), (6701, .flat (.arcs (A ++ [⟨((List.getD es k default).src), ((List.getD es k default).dst), (List.getD cost k 0)⟩, ⟨((List.getD es k default).src), ((List.getD es k default).src), 0⟩])))]⟩ hT (by kernel_rfl) ⟨(by first | omega | (simp only [lens]; omega) | (simp only [Bool.cond_decide]; omega) | (simp only [nadd_eq]; omega)), trivial⟩ ?_
        refine loop_end _ ?_ ⟨(k + 1), (A ++ [⟨((List.getD es k default).src), ((List.getD es k default).dst), (List.getD cost k 0)⟩, ⟨((List.getD es k default).src), ((List.getD es k default).src), 0⟩]), ⟨(by omega), (by rw [leftA, hsF, hsB, hA]), rfl⟩, (by first | (simp only [lens]; done) | (simp only [Nat.zero_add]; done) | simp only [lens, Nat.zero_add])⟩
        omega
    · -- no 6
      try simp only [bs] at c6
      have hsF : stepF es cost f k = ⟨(es.getD k default).src, (es.getD k default).src, 0⟩ := if_neg c6
      refine awp_skip ?_
      refine awp_seq ?_
      refine awp_run_seq [1, 2, 6, 7, 8, 9, 10, 11, 16, 17, 18, 53] [106, 107, 109, 110, 111, 6701] [((0 : Int) ≤ ((k : Nat) : Int)), (((k : Nat) : Int) < ((f.length : Nat) : Int))] ⟨73, [(1, .one (.ro (.ints .i64 cost))), (2, .one (.ro (.ints .i64 f))), (6, .one (.ptr 106 0 0)), (7, .one (.ptr 107 0 0)), (8, .one (.int .i64 ((k : Nat) : Int))), (9, .one (.ptr 109 0 0)), (10, .one (.ptr 110 0 0)), (11, .one (.ptr 111 0 0)), (16, .one (.ro (.arcs es))), (17, .one (.int .i64 ((es.length : Nat) : Int))), (18, .one (.int .i64 ((k : Nat) : Int))), (53, .one (.bool (decide ((0 : Int) < (List.getD f k 0)))))], [(106, .box 1 2 [(.int .i64 0), .nils]), (107, .box 1 2 [(.int .i64 n), (.rw 6701 0 A.length)]), (109, .box 1 3 [(.int .i64 ((List.getD es k default).src)), (.int .i64 ((List.getD es k default).dst)), (.int .i64 ((List.getD es k default).cap))]), (110, .box 1 3 [(.int .i64 ((List.getD es k default).src)), (.int .i64 ((List.getD es k default).src)), (.int .i64 0)]), (111, .box 1 3 [(.int .i64 ((List.getD es k default).src)), (.int .i64 ((List.getD es k default).src)), (.int .i64 0)]), (6701, .flat (.arcs A))]⟩ hT (by kernel_rfl) ⟨(by first | omega | (simp only [lens]; omega) | (simp only [Bool.cond_decide]; omega) | (simp only [nadd_eq]; omega)), (by first | omega | (simp only [lens]; omega) | (simp only [Bool.cond_decide]; omega) | (simp only [nadd_eq]; omega)), trivial⟩ ?_
      refine awp_cond (b := (decide ((0 : Int) < (List.getD f k 0)))) (by kernel_rfl) (fun c8 => ?_) (fun c8 => ?_)
      · -- yes 8
        try simp only [bs] at c8
        have hsB : stepB es cost f k = ⟨(es.getD k default).dst, (es.getD k default).src, -cost.getD k 0⟩ := if_pos c8
        refine awp_tail 10 [1, 2, 6, 7, 10, 11, 16, 17, 18, 63] [106, 107, 110, 111, 6701] [(0 < 1), (0 < 1), ((0 : Int) ≤ ((k : Nat) : Int)), (((k : Nat) : Int) < ((cost.length : Nat) : Int)), (-9223372036854775808 ≤ (-(List.getD cost k 0)) ∧ (-(List.getD cost k 0)) ≤ 9223372036854775807)] ⟨73, [(1, .one (.ro (.ints .i64 cost))), (2, .one (.ro (.ints .i64 f))), (6, .one (.ptr 106 0 0)), (7, .one (.ptr 107 0 0)), (10, .one (.ptr 110 0 0)), (11, .one (.ptr 111 0 0)), (16, .one (.ro (.arcs es))), (17, .one (.int .i64 ((es.length : Nat) : Int))), (18, .one (.int .i64 ((k : Nat) : Int))), (63, .agg [(.int .i64 ((List.getD es k default).dst)), (.int .i64 ((List.getD es k default).src)), (.int .i64 (-(List.getD cost k 0)))])], [(106, .box 1 2 [(.int .i64 0), .nils]), (107, .box 1 2 [(.int .i64 n), (.rw 6701 0 A.length)]), (110, .box 1 3 [(.int .i64 ((List.getD es k default).src)), (.int .i64 ((List.getD es k default).src)), (.int .i64 0)]), (111, .box 1 3 [(.int .i64 ((List.getD es k default).src)), (.int .i64 ((List.getD es k default).src)), (.int .i64 0)]), (6701, .flat (.arcs A))]⟩ (by kernel_rfl) (by kernel_rfl) hT (by kernel_rfl) ⟨(by decide), (by decide), (by first | omega | (simp only [lens]; omega) | (simp only [Bool.cond_decide]; omega) | (simp only [nadd_eq]; omega)), (by first | omega | (simp only [lens]; omega) | (simp only [Bool.cond_decide]; omega) | (simp only [nadd_eq]; omega)), (by first | omega | (simp only [lens]; omega) | (simp only [Bool.cond_decide]; omega) | (simp only [nadd_eq]; omega)), trivial⟩ ?_
        refine aops_run 1 [1, 2, 6, 7, 10, 11, 16, 17, 18] [106, 107, 110, 111, 6701] [(0 < 1)] ⟨73, [(1, .one (.ro (.ints .i64 cost))), (2, .one (.ro (.ints .i64 f))), (6, .one (.ptr 106 0 0)), (7, .one (.ptr 107 0 0)), (10, .one (.ptr 110 0 0)), (11, .one (.ptr 111 0 0)), (16, .one (.ro (.arcs es))), (17, .one (.int .i64 ((es.length : Nat) : Int))), (18, .one (.int .i64 ((k : Nat) : Int)))], [(106, .box 1 2 [(.int .i64 0), .nils]), (107, .box 1 2 [(.int .i64 n), (.rw 6701 0 A.length)]), (110, .box 1 3 [(.int .i64 ((List.getD es k default).src)), (.int .i64 ((List.getD es k default).src)), (.int .i64 0)]), (111, .box 1 3 [(.int .i64 ((List.getD es k default).dst)), (.int .i64 ((List.getD es k default).src)), (.int .i64 (-(List.getD cost k 0)))]), (6701, .flat (.arcs A))]⟩ hT (by kernel_rfl) (by kernel_rfl) ⟨(by decide), trivial⟩ ?_
        refine aops_end (by kernel_rfl) ?_
        refine awp_region ?_
        refine aops_run 8 [1, 2, 6, 7, 16, 17, 18] [106, 107, 6701] [(0 < 1), (0 < 1), (0 < 1), (A.length = A.length), ((A.length + 2) * 24 ≤ 140737488355328), ((A.length + 2) ≤ 9223372036854775807), (0 < 1)] ⟨73, [(1, .one (.ro (.ints .i64 cost))), (2, .one (.ro (.ints .i64 f))), (6, .one (.ptr 106 0 0)), (7, .one (.ptr 107 0 0)), (16, .one (.ro (.arcs es))), (17, .one (.int .i64 ((es.length : Nat) : Int))), (18, .one (.int .i64 ((k : Nat) : Int)))], [(106, .box 1 2 [(.int .i64 0), .nils]), (107, .box 1 2 [(.int .i64 n), (.rw 6701 0 (A.length + 2))]), (6701, .flat (.arcs (A ++ [⟨((List.getD es k default).src), ((List.getD es k default).src), 0⟩, ⟨((List.getD es k default).dst), ((List.getD es k default).src), (-(List.getD cost k 0))⟩])))]⟩ hT (by kernel_rfl) (by kernel_rfl) ⟨(by decide), (by decide), (by decide), (by first | omega | (simp only [lens]; omega) | (simp only [Bool.cond_decide]; omega) | (simp only [nadd_eq]; omega)), (by first | omega | (simp only [lens]; omega) | (simp only [Bool.cond_decide]; omega) | (simp only [nadd_eq]; omega)), (by first | omega | (simp only [lens]; omega) | (simp only [Bool.cond_decide]; omega) | (simp only [nadd_eq]; omega)), (by decide), trivial⟩ ?_
        refine aops_end (by kernel_rfl) ?_
        refine awp_run [1, 2, 6, 7, 16, 17, 18] [106, 107, 6701] [(-9223372036854775808 ≤ (((k + 1) : Nat) : Int) ∧ (((k + 1) : Nat) : Int) ≤ 9223372036854775807)] ⟨73, [(1, .one (.ro (.ints .i64 cost))), (2, .one (.ro (.ints .i64 f))), (6, .one (.ptr 106 0 0)), (7, .one (.ptr 107 0 0)), (16, .one (.ro (.arcs es))), (17, .one (.int .i64 ((es.length : Nat) : Int))), (18, .one (.int .i64 (((k + 1) : Nat) : Int)))], [(106, .box 1 2 [(.int .i64 0), .nils]), (107, .box 1 2 [(.int .i64 n), (.rw 6701 0 (A.length + 2))]), (6701, .flat (.arcs (A ++ [⟨((List.getD es k default).src), ((List.getD es k default).src), 0⟩, ⟨((List.getD es k default).dst), ((List.getD es k default).src), (-(List.getD cost k 0))⟩])))]⟩ hT (by kernel_rfl) ⟨(by first | omega | (simp only [lens]; omega) | (simp only [Bool.cond_decide]; omega) | (simp only [nadd_eq]; omega)), trivial⟩ ?_
        refine loop_end _ ?_ ⟨(k + 1), (A ++ [⟨((List.getD es k default).src), ((List.getD es k default).src), 0⟩, ⟨((List.getD es k default).dst), ((List.getD es k default).src), (-(List.getD cost k 0))⟩]), ⟨(by omega), (by rw [leftA, hsF, hsB, hA]), rfl⟩, (by first | (simp only [lens]; done) | (simp only [Nat.zero_add]; done) | simp only [lens, Nat.zero_add])⟩
        omega
      · -- no 8
        try simp only [bs] at c8
        have hsB : stepB es cost f k = ⟨(es.getD k default).src, (es.getD k default).src, 0⟩ := if_neg c8
        refine awp_skip ?_
        refine awp_region ?_
        refine aops_run 8 [1, 2, 6, 7, 16, 17, 18] [106, 107, 6701] [(0 < 1), (0 < 1), (0 < 1), (A.length = A.length), ((A.length + 2) * 24 ≤ 140737488355328), ((A.length + 2) ≤ 9223372036854775807), (0 < 1)] ⟨73, [(1, .one (.ro (.ints .i64 cost))), (2, .one (.ro (.ints .i64 f))), (6, .one (.ptr 106 0 0)), (7, .one (.ptr 107 0 0)), (16, .one (.ro (.arcs es))), (17, .one (.int .i64 ((es.length : Nat) : Int))), (18, .one (.int .i64 ((k : Nat) : Int)))], [(106, .box 1 2 [(.int .i64 0), .nils]), (107, .box 1 2 [(.int .i64 n), (.rw 6701 0 (A.length + 2))]), (6701, .flat (.arcs (A ++ [⟨((List.getD es k default).src), ((List.getD es k default).src), 0⟩, ⟨((List.getD es k default).src), ((List.getD es k default).src), 0⟩])))]⟩ hT (by kernel_rfl) (by kernel_rfl) ⟨(by decide), (by decide), (by decide), (by first | omega | (simp only [lens]; omega) | (simp only [Bool.cond_decide]; omega) | (simp only [nadd_eq]; omega)), (by first | omega | (simp only [lens]; omega) | (simp only [Bool.cond_decide]; omega) | (simp only [nadd_eq]; omega)), (by first | omega | (simp only [lens]; omega) | (simp only [Bool.cond_decide]; omega) | (simp only [nadd_eq]; omega)), (by decide), trivial⟩ ?_
        refine aops_end (by kernel_rfl) ?_
        refine awp_run [1, 2, 6, 7, 16, 17, 18] [106, 107, 6701] [(-9223372036854775808 ≤ (((k + 1) : Nat) : Int) ∧ (((k + 1) : Nat) : Int) ≤ 9223372036854775807)] ⟨73, [(1, .one (.ro (.ints .i64 cost))), (2, .one (.ro (.ints .i64 f))), (6, .one (.ptr 106 0 0)), (7, .one (.ptr 107 0 0)), (16, .one (.ro (.arcs es))), (17, .one (.int .i64 ((es.length : Nat) : Int))), (18, .one (.int .i64 (((k + 1) : Nat) : Int)))], [(106, .box 1 2 [(.int .i64 0), .nils]), (107, .box 1 2 [(.int .i64 n), (.rw 6701 0 (A.length + 2))]), (6701, .flat (.arcs (A ++ [⟨((List.getD es k default).src), ((List.getD es k default).src), 0⟩, ⟨((List.getD es k default).src), ((List.getD es k default).src), 0⟩])))]⟩ hT (by kernel_rfl) ⟨(by first | omega | (simp only [lens]; omega) | (simp only [Bool.cond_decide]; omega) | (simp only [nadd_eq]; omega)), trivial⟩ ?_
        refine loop_end _ ?_ ⟨(k + 1), (A ++ [⟨((List.getD es k default).src), ((List.getD es k default).src), 0⟩, ⟨((List.getD es k default).src), ((List.getD es k default).src), 0⟩]), ⟨(by omega), (by rw [leftA, hsF, hsB, hA]), rfl⟩, (by first | (simp only [lens]; done) | (simp only [Nat.zero_add]; done) | simp only [lens, Nat.zero_add])⟩
        omega
  · -- no 3
    try simp only [bs] at c3
    have hfin : A = leftA es cost f es.length := by rw [hA, show k = es.length by omega]
    refine awp_exit ?_
    refine awp_run_seq [6] [106, 6701] [(0 < 1), (0 < 1)] ⟨73, [(6, .one (.ptr 106 0 0))], [(106, .box 1 2 [(.int .i64 n), (.rw 6701 0 A.length)]), (6701, .flat (.arcs A))]⟩ hT (by kernel_rfl) ⟨(by decide), (by decide), trivial⟩ ?_
    refine awp_weak (awk_ren 6701 9001 (s' := ⟨73, [(6, .one (.ptr 106 0 0))], [(106, .box 1 2 [(.int .i64 n), (.rw 9001 0 A.length)]), (9001, .flat (.arcs A))]⟩) (by kernel_rfl)) ?_
    refine awp_ret ?_
    refine kRet.ret _ [9001] [(0 < 1)] (.agg [(.int .i64 n), (.rw 9001 0 A.length)]) [(9001, .flat (.arcs A))] (by kernel_rfl) ⟨(by decide), trivial⟩ ?_
    exact ⟨(by rw [hfin]), (by rw [hfin])⟩

end Go.Ab
