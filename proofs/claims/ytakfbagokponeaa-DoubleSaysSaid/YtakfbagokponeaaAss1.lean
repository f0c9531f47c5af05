/- Of assign: the checks. -/
import Derived.Test.YtakfbagokponeaaTab
import Derived.Test.YtakfbagokponeaaFunI
import Derived.Test.YtakfbagokponeaaPlAssign
set_option maxRecDepth 100000
namespace Go.Ab
open Go Go.Proofs
theorem tableErr1 (m x : Int) : ACall Try.prog 118 [.one (.int .i64 x), .one (.ptr 1 0 0)] [(1, .box 1 1 [(.int .i64 m)])] (fun ov oh => ov = .one (.bool (offBad m x)) ∧ oh = [(1, .box 1 1 [(.int .i64 m)])]) := by
  refine acall_intro hT Try.func118 rfl (by kernel_rfl) rfl (by kernel_rfl) ?_
  refine awp_run_seq [0, 1] [] [] ⟨11, [(0, .one (.int .i64 x)), (1, .one (.ptr 1 0 0))], [(1, .box 1 1 [(.int .i64 m)])]⟩ hT (by kernel_rfl) trivial ?_
  refine awp_run_seq [3] [] [(0 < 1), ((!(decide (x < m))) = true → ((!(decide (x < m))) = true → (!(decide (x < m))) = true)), ((!(decide (x < m))) = true → (!(decide (x < m))) = true)] ⟨11, [(3, .one (.bool ((decide (x < m)) || (decide ((1000 : Int) < x)))))], [(1, .box 1 1 [(.int .i64 m)])]⟩ hT (by kernel_rfl) ⟨(by decide), (by intro hg; first | exact hg | skip; (try simp only [bs] at hg ⊢); first | exact hg | first | omega | (simp only [lens]; omega) | (simp only [Bool.cond_decide]; omega) | (simp only [nadd_eq]; omega) | grind), (fun h => h), trivial⟩ ?_
  refine awp_ret ?_
  refine kRet.ret _ [] [] (.one (.bool ((decide (x < m)) || (decide ((1000 : Int) < x))))) [(1, .box 1 1 [(.int .i64 m)])] (by kernel_rfl) trivial ?_
  exact ⟨(by kernel_rfl), (by kernel_rfl)⟩

theorem ref_tableErr (t : List (List Int)) (w : Int) : ACall Try.prog 66 [.one (.rs (.rows t)), .one (.int .i64 w)] [] (fun ov oh => ov = .one (.int .i64 (tabErr t w)) ∧ oh = []) := by
  refine acall_intro hT Try.func66 rfl (by kernel_rfl) rfl (by kernel_rfl) ?_
  refine awp_run_seq [0, 3] [103] [] ⟨25, [(0, .one (.rs (.rows t))), (3, .one (.ptr 103 0 0))], [(103, .box 1 1 [(.int .i64 w)])]⟩ hT (by kernel_rfl) trivial ?_
  refine awp_seq ?_
  refine awp_run_seq [0, 3, 9] [103] [] ⟨25, [(0, .one (.rs (.rows t))), (3, .one (.ptr 103 0 0)), (9, .one (.bool (decide ((6 : Int) < ((t.length : Nat) : Int)))))], [(103, .box 1 1 [(.int .i64 w)])]⟩ hT (by kernel_rfl) trivial ?_
  refine awp_cond (b := (decide ((6 : Int) < ((t.length : Nat) : Int)))) (by kernel_rfl) (fun c1 => ?_) (fun c1 => ?_)
  · -- yes 1
    try simp only [bs] at c1
    refine awp_run_seq [4] [] [] ⟨25, [(4, .one (.int .i64 2))], []⟩ hT (by kernel_rfl) trivial ?_
    refine awp_ret ?_
    refine kRet.ret _ [] [] (.one (.int .i64 2)) [] (by kernel_rfl) trivial ?_
    exact ⟨congrArg (fun x1 => (.one (.int .i64 x1) : AV)) (show 2 = (tabErr t w) from by rw [tabErr, if_pos (by omega)]), rfl⟩
  · -- no 1
    try simp only [bs] at c1
    refine awp_skip ?_
    refine awp_seq ?_
    refine awp_run_seq [0, 3, 10, 11, 12] [103] [] ⟨25, [(0, .one (.rs (.rows t))), (3, .one (.ptr 103 0 0)), (10, .one (.rs (.rows t))), (11, .one (.int .i64 ((t.length : Nat) : Int))), (12, .one (.int .i64 0))], [(103, .box 1 1 [(.int .i64 w)])]⟩ hT (by kernel_rfl) trivial ?_
    refine awp_block ?_
    refine awp_loop (I := fun κ σ => ∃ (i : Nat), ((i ≤ t.length) ∧ (rowsErr t.length w (t.drop i) = rowsErr t.length w t) ∧ t.length - i = κ) ∧ σ = ⟨25, [(0, .one (.rs (.rows t))), (3, .one (.ptr 103 0 0)), (10, .one (.rs (.rows t))), (11, .one (.int .i64 ((t.length : Nat) : Int))), (12, .one (.int .i64 ((i : Nat) : Int)))], [(103, .box 1 1 [(.int .i64 w)])]⟩) _ ⟨0, ⟨(by omega), (by rfl), rfl⟩, (by kernel_rfl)⟩ ?_
    rintro κ _ ⟨i, ⟨hi, hq, rfl⟩, rfl⟩
    refine awp_run_seq [0, 3, 10, 11, 12, 13] [103] [] ⟨25, [(0, .one (.rs (.rows t))), (3, .one (.ptr 103 0 0)), (10, .one (.rs (.rows t))), (11, .one (.int .i64 ((t.length : Nat) : Int))), (12, .one (.int .i64 ((i : Nat) : Int))), (13, .one (.bool (decide (((i : Nat) : Int) < ((t.length : Nat) : Int)))))], [(103, .box 1 1 [(.int .i64 w)])]⟩ hT (by kernel_rfl) trivial ?_
    refine awp_seq ?_
    refine awp_cond (b := (decide (((i : Nat) : Int) < ((t.length : Nat) : Int)))) (by kernel_rfl) (fun c4 => ?_) (fun c4 => ?_)
    · -- yes 4
      try simp only [bs] at c4
      refine awp_skip ?_
      refine awp_seq ?_
      refine awp_block ?_
      refine awp_run_seq [0, 3, 6, 10, 11, 12] [103] [((0 : Int) ≤ ((i : Nat) : Int)), (((i : Nat) : Int) < ((t.length : Nat) : Int))] ⟨25, [(0, .one (.rs (.rows t))), (3, .one (.ptr 103 0 0)), (6, .one (.ro (.ints .i64 (List.getD t i [])))), (10, .one (.rs (.rows t))), (11, .one (.int .i64 ((t.length : Nat) : Int))), (12, .one (.int .i64 ((i : Nat) : Int)))], [(103, .box 1 1 [(.int .i64 w)])]⟩ hT (by kernel_rfl) ⟨(by first | omega | (simp only [lens]; omega) | (simp only [Bool.cond_decide]; omega) | (simp only [nadd_eq]; omega)), (by first | omega | (simp only [lens]; omega) | (simp only [Bool.cond_decide]; omega) | (simp only [nadd_eq]; omega)), trivial⟩ ?_
      refine awp_seq ?_
      refine awp_run_seq [0, 3, 6, 10, 11, 12, 20] [103] [] ⟨25, [(0, .one (.rs (.rows t))), (3, .one (.ptr 103 0 0)), (6, .one (.ro (.ints .i64 (List.getD t i [])))), (10, .one (.rs (.rows t))), (11, .one (.int .i64 ((t.length : Nat) : Int))), (12, .one (.int .i64 ((i : Nat) : Int))), (20, .one (.bool (decide ((((List.length (List.getD t i [])) : Nat) : Int) ≠ ((t.length : Nat) : Int)))))], [(103, .box 1 1 [(.int .i64 w)])]⟩ hT (by kernel_rfl) trivial ?_
      refine awp_cond (b := (decide ((((List.length (List.getD t i [])) : Nat) : Int) ≠ ((t.length : Nat) : Int)))) (by kernel_rfl) (fun c6 => ?_) (fun c6 => ?_)
      · -- yes 6
        try simp only [bs] at c6
        refine awp_run_seq [4] [] [] ⟨25, [(4, .one (.int .i64 3))], []⟩ hT (by kernel_rfl) trivial ?_
        refine awp_ret ?_
        refine kRet.ret _ [] [] (.one (.int .i64 3)) [] (by kernel_rfl) trivial ?_
        exact ⟨congrArg (fun x1 => (.one (.int .i64 x1) : AV)) (show 3 = (tabErr t w) from by rw [tabErr, if_neg (by omega), ← hq, rows_drop (i := i) (by omega), if_pos (by omega)]), rfl⟩
      · -- no 6
        try simp only [bs] at c6
        refine awp_skip ?_
        refine awp_seq (awp_region ?_)
        refine aops_run 2 [0, 3, 10, 11, 12, 21, 22] [103] [] ⟨25, [(0, .one (.rs (.rows t))), (3, .one (.ptr 103 0 0)), (10, .one (.rs (.rows t))), (11, .one (.int .i64 ((t.length : Nat) : Int))), (12, .one (.int .i64 ((i : Nat) : Int))), (21, .one (.ro (.ints .i64 (List.getD t i [])))), (22, .one (.fn 118 [(.ptr 103 0 0)]))], [(103, .box 1 1 [(.int .i64 w)])]⟩ hT (by kernel_rfl) (by kernel_rfl) trivial ?_
        refine aops_call [(1, 103)] [] false ⟨true, [], 88, [.one (.ro (.ints .i64 (List.getD t i []))), .one (.fn 118 [(.ptr 1 0 0)])], [(1, .box 1 1 [(.int .i64 w)])]⟩ [.one (.ro (.ints .i64 (List.getD t i []))), .one (.fn 118 [(.ptr 1 0 0)])] (sm := ⟨25, [(0, .one (.rs (.rows t))), (3, .one (.ptr 103 0 0)), (10, .one (.rs (.rows t))), (11, .one (.int .i64 ((t.length : Nat) : Int))), (12, .one (.int .i64 ((i : Nat) : Int))), (21, .one (.ro (.ints .i64 (List.getD t i [])))), (22, .one (.fn 118 [(.ptr 103 0 0)])), (23, .whn false (.one .any))], [(103, .box 1 1 [(.int .i64 w)])]⟩) (by kernel_rfl) (by kernel_rfl) (by decide) (fun _ => trivial) rfl (fun _ => hasf_ints_i 118 (offBad w) (List.getD t i []) w (fun x hx => tableErr1 w x)) (fun _ v Hr hv => ?_) (fun h => by cases h)
        obtain ⟨rfl, rfl⟩ := hv
        refine ⟨⟨25, [(0, .one (.rs (.rows t))), (3, .one (.ptr 103 0 0)), (10, .one (.rs (.rows t))), (11, .one (.int .i64 ((t.length : Nat) : Int))), (12, .one (.int .i64 ((i : Nat) : Int))), (21, .one (.ro (.ints .i64 (List.getD t i [])))), (22, .one (.fn 118 [(.ptr 103 0 0)])), (23, .one (.bool (List.any (List.getD t i []) (offBad w))))], [(103, .box 1 1 [(.int .i64 w)])]⟩, by kernel_rfl, ?_⟩
        refine aops_cut [0, 3, 10, 11, 12, 23] [103] ⟨25, [(0, .one (.rs (.rows t))), (3, .one (.ptr 103 0 0)), (10, .one (.rs (.rows t))), (11, .one (.int .i64 ((t.length : Nat) : Int))), (12, .one (.int .i64 ((i : Nat) : Int))), (23, .one (.bool (List.any (List.getD t i []) (offBad w))))], [(103, .box 1 1 [(.int .i64 w)])]⟩ (by kernel_rfl) ?_
        refine aops_end_seq (by kernel_rfl) ?_
        refine awp_cond (b := (List.any (List.getD t i []) (offBad w))) (by kernel_rfl) (fun c8 => ?_) (fun c8 => ?_)
        · -- yes 8
          try simp only [bs] at c8
          have hyes : (t.getD i []).any (offBad w) = true := c8
          refine awp_run_seq [4] [] [] ⟨25, [(4, .one (.int .i64 1))], []⟩ hT (by kernel_rfl) trivial ?_
          refine awp_ret ?_
          refine kRet.ret _ [] [] (.one (.int .i64 1)) [] (by kernel_rfl) trivial ?_
          exact ⟨congrArg (fun x1 => (.one (.int .i64 x1) : AV)) (show 1 = (tabErr t w) from by rw [tabErr, if_neg (by omega), ← hq, rows_drop (i := i) (by omega), if_neg (by omega), if_pos hyes]), rfl⟩
        · -- no 8
          try simp only [bs] at c8
          have hno : (t.getD i []).any (offBad w) = false := c8
          refine awp_skip ?_
          refine awp_run [0, 3, 10, 11, 12] [103] [(-9223372036854775808 ≤ (((i + 1) : Nat) : Int) ∧ (((i + 1) : Nat) : Int) ≤ 9223372036854775807)] ⟨25, [(0, .one (.rs (.rows t))), (3, .one (.ptr 103 0 0)), (10, .one (.rs (.rows t))), (11, .one (.int .i64 ((t.length : Nat) : Int))), (12, .one (.int .i64 (((i + 1) : Nat) : Int)))], [(103, .box 1 1 [(.int .i64 w)])]⟩ hT (by kernel_rfl) ⟨(by first | omega | (simp only [lens]; omega) | (simp only [Bool.cond_decide]; omega) | (simp only [nadd_eq]; omega)), trivial⟩ ?_
          refine loop_end _ ?_ ⟨(i + 1), ⟨(by omega), (by rw [← hq, rows_drop (i := i) (by omega), if_neg (by omega), if_neg (by rw [hno]; decide)]), rfl⟩, (by kernel_rfl)⟩
          omega
    · -- no 4
      try simp only [bs] at c4
      refine awp_exit ?_
      refine awp_run_seq [4] [] [] ⟨25, [(4, .one (.int .i64 0))], []⟩ hT (by kernel_rfl) trivial ?_
      refine awp_ret ?_
      refine kRet.ret _ [] [] (.one (.int .i64 0)) [] (by kernel_rfl) trivial ?_
      exact ⟨congrArg (fun x1 => (.one (.int .i64 x1) : AV)) (show 0 = (tabErr t w) from by rw [tabErr, if_neg (by omega), ← hq, rows_end (by omega)]), rfl⟩

end Go.Ab
