/- TreeDet returns true. -/
import Derived.Test.YtemhgjhfejloiaaTab
import Derived.Test.YtemhgjhfejloiaaDet2
import Derived.Test.YtemhgjhfejloiaaDet3
import Derived.Test.YtemhgjhfejloiaaFunI
set_option maxRecDepth 100000
namespace Go.Ab
open Go Go.Proofs
theorem treeDet1 (x : Int) : ACall Try.prog 17 [.one (.int .i64 x)] [] (fun ov oh => ov = .one (.bool (badE x)) ∧ oh = []) := by
  refine acall_intro hT Try.func17 rfl (by kernel_rfl) rfl (by kernel_rfl) ?_
  refine awp_run_seq [0] [] [] ⟨9, [(0, .one (.int .i64 x))], []⟩ hT (by kernel_rfl) trivial ?_
  refine awp_run_seq [2] [] [((!(decide (x < (-9)))) = true → ((!(decide (x < (-9)))) = true → (!(decide (x < (-9)))) = true)), ((!(decide (x < (-9)))) = true → (!(decide (x < (-9)))) = true)] ⟨9, [(2, .one (.bool ((decide (x < (-9))) || (decide ((9 : Int) < x)))))], []⟩ hT (by kernel_rfl) ⟨(by intro hg; first | exact hg | skip; (try simp only [bs] at hg ⊢); first | exact hg | first | omega | (simp only [lens]; omega) | (simp only [Bool.cond_decide]; omega) | (simp only [nadd_eq]; omega) | grind), (fun h => h), trivial⟩ ?_
  refine awp_ret ?_
  refine kRet.ret _ [] [] (.one (.bool ((decide (x < (-9))) || (decide ((9 : Int) < x))))) [] (by kernel_rfl) trivial ?_
  exact ⟨congrArg (fun x1 => (.one (.bool x1) : AV)) (show ((decide (x < (-9))) || (decide ((9 : Int) < x))) = (badE x) from by rfl), rfl⟩

theorem treeDet_law (m : List (List Int)) : ACall Try.prog 3 [.one (.rs (.rows m))] [] (fun ov oh => ov = .one (.bool true) ∧ oh = []) := by
  refine acall_intro hT Try.func3 rfl (by kernel_rfl) rfl (by kernel_rfl) ?_
  refine awp_len1 0 0 (.rows m) (by kernel_rfl) (fun hlen => ?_)
  simp only [C1.len, maxLen] at hlen
  refine awp_run_seq [0] [] [] ⟨55, [(0, .one (.rs (.rows m)))], []⟩ hT (by kernel_rfl) trivial ?_
  refine awp_seq (awp_region ?_)
  refine aops_run 1 [0, 9] [] [] ⟨55, [(0, .one (.rs (.rows m))), (9, .one (.rs (.rows m)))], []⟩ hT (by kernel_rfl) (by kernel_rfl) trivial ?_
  refine aops_pure false ⟨true, [], 15, [.one (.rs (.rows m))], []⟩ [.one (.rs (.rows m))] (.tup [(false, [(.int .i64 (detVal m))]), (false, [(.int .i64 (detErr m))])]) ⟨55, [(0, .one (.rs (.rows m))), (9, .one (.rs (.rows m))), (10, .tup [(false, [(.int .i64 (detVal m))]), (false, [(.int .i64 (detErr m))])])], []⟩ (by kernel_rfl) (by kernel_rfl) (fun _ => trivial) rfl (fun _ => tree_Det m) ?_
  refine aops_run 5 [0, 3, 4] [] [] ⟨55, [(0, .one (.rs (.rows m))), (3, .one (.int .i64 (detVal m))), (4, .one (.int .i64 (detErr m)))], []⟩ hT (by kernel_rfl) (by kernel_rfl) trivial ?_
  refine aops_end_seq (by kernel_rfl) ?_
  refine awp_run_seq [0, 3, 4, 5] [] [] ⟨55, [(0, .one (.rs (.rows m))), (3, .one (.int .i64 (detVal m))), (4, .one (.int .i64 (detErr m))), (5, .one (.int .i64 0))], []⟩ hT (by kernel_rfl) trivial ?_
  refine awp_seq ?_
  refine awp_run_seq [0, 3, 4, 5, 15] [] [] ⟨55, [(0, .one (.rs (.rows m))), (3, .one (.int .i64 (detVal m))), (4, .one (.int .i64 (detErr m))), (5, .one (.int .i64 0)), (15, .one (.bool (decide ((7 : Int) < ((m.length : Nat) : Int)))))], []⟩ hT (by kernel_rfl) trivial ?_
  refine awp_join_tail (fun σ => ∃ (want : Int), (want = if 7 < m.length then 2 else 0) ∧ σ = ⟨55, [(0, .one (.rs (.rows m))), (3, .one (.int .i64 (detVal m))), (4, .one (.int .i64 (detErr m))), (5, .one (.int .i64 want))], []⟩) ?_ ?_
  ·
    refine awp_cond (b := (decide ((7 : Int) < ((m.length : Nat) : Int)))) (by kernel_rfl) (fun c3 => ?_) (fun c3 => ?_)
    · -- yes 3
      try simp only [bs] at c3
      refine awp_run [0, 3, 4, 5] [] [] ⟨55, [(0, .one (.rs (.rows m))), (3, .one (.int .i64 (detVal m))), (4, .one (.int .i64 (detErr m))), (5, .one (.int .i64 2))], []⟩ hT (by kernel_rfl) trivial ?_
      exact jend ⟨2, (by rw [if_pos (by omega)]), (by kernel_rfl)⟩
    · -- no 3
      try simp only [bs] at c3
      refine awp_cut [0, 3, 4, 5] [] ⟨55, [(0, .one (.rs (.rows m))), (3, .one (.int .i64 (detVal m))), (4, .one (.int .i64 (detErr m))), (5, .one (.int .i64 0))], []⟩ (by kernel_rfl) ?_
      refine awp_skip ?_
      exact jend ⟨0, (by rw [if_neg (by omega)]), (by kernel_rfl)⟩
  rintro _ ⟨want, hw, rfl⟩
  refine awp_seq ?_
  refine awp_run_seq [0, 3, 4, 5, 16, 17, 18] [] [] ⟨55, [(0, .one (.rs (.rows m))), (3, .one (.int .i64 (detVal m))), (4, .one (.int .i64 (detErr m))), (5, .one (.int .i64 want)), (16, .one (.rs (.rows m))), (17, .one (.int .i64 ((m.length : Nat) : Int))), (18, .one (.int .i64 0))], []⟩ hT (by kernel_rfl) trivial ?_
  refine awp_block ?_
  refine awp_loop (I := fun κ σ => ∃ (i : Nat) (w : Int), ((i ≤ m.length) ∧ (7 < m.length → w = 2) ∧ (m.length ≤ 7 → (w ≠ 0 ∧ w = rowsE m.length m) ∨ (w = 0 ∧ rowsE m.length (m.drop i) = rowsE m.length m)) ∧ m.length - i = κ) ∧ σ = ⟨55, [(0, .one (.rs (.rows m))), (3, .one (.int .i64 (detVal m))), (4, .one (.int .i64 (detErr m))), (5, .one (.int .i64 w)), (16, .one (.rs (.rows m))), (17, .one (.int .i64 ((m.length : Nat) : Int))), (18, .one (.int .i64 ((i : Nat) : Int)))], []⟩) _ ⟨0, want, ⟨(by omega), (by intro h; rw [hw, if_pos h]), (by intro h; exact .inr ⟨by rw [hw, if_neg (by omega)], rfl⟩), rfl⟩, (by kernel_rfl)⟩ ?_
  rintro κ _ ⟨i, w, ⟨hi, hw2, hw3, rfl⟩, rfl⟩
  refine awp_run_seq [0, 3, 4, 5, 16, 17, 18, 19] [] [] ⟨55, [(0, .one (.rs (.rows m))), (3, .one (.int .i64 (detVal m))), (4, .one (.int .i64 (detErr m))), (5, .one (.int .i64 w)), (16, .one (.rs (.rows m))), (17, .one (.int .i64 ((m.length : Nat) : Int))), (18, .one (.int .i64 ((i : Nat) : Int))), (19, .one (.bool (decide (((i : Nat) : Int) < ((m.length : Nat) : Int)))))], []⟩ hT (by kernel_rfl) trivial ?_
  refine awp_seq ?_
  refine awp_cond (b := (decide (((i : Nat) : Int) < ((m.length : Nat) : Int)))) (by kernel_rfl) (fun c6 => ?_) (fun c6 => ?_)
  · -- yes 6
    try simp only [bs] at c6
    refine awp_skip ?_
    refine awp_seq ?_
    refine awp_block ?_
    refine awp_run_seq [0, 3, 4, 5, 7, 16, 17, 18] [] [((0 : Int) ≤ ((i : Nat) : Int)), (((i : Nat) : Int) < ((m.length : Nat) : Int))] ⟨55, [(0, .one (.rs (.rows m))), (3, .one (.int .i64 (detVal m))), (4, .one (.int .i64 (detErr m))), (5, .one (.int .i64 w)), (7, .one (.ro (.ints .i64 (List.getD m i [])))), (16, .one (.rs (.rows m))), (17, .one (.int .i64 ((m.length : Nat) : Int))), (18, .one (.int .i64 ((i : Nat) : Int)))], []⟩ hT (by kernel_rfl) ⟨(by first | omega | (simp only [lens]; omega) | (simp only [Bool.cond_decide]; omega) | (simp only [nadd_eq]; omega)), (by first | omega | (simp only [lens]; omega) | (simp only [Bool.cond_decide]; omega) | (simp only [nadd_eq]; omega)), trivial⟩ ?_
    refine awp_seq ?_
    refine awp_run_seq [0, 3, 4, 5, 7, 16, 17, 18, 30] [] [((decide (w = 0)) = true → ((decide (w = 0)) = true → (decide (w = 0)) = true)), ((decide (w = 0)) = true → ((decide (w = 0)) = true → (decide (w = 0)) = true)), ((decide (w = 0)) = true → ((decide (w = 0)) = true → (decide (w = 0)) = true)), ((decide (w = 0)) = true → ((decide (w = 0)) = true → (decide (w = 0)) = true)), ((decide (w = 0)) = true → (decide (w = 0)) = true)] ⟨55, [(0, .one (.rs (.rows m))), (3, .one (.int .i64 (detVal m))), (4, .one (.int .i64 (detErr m))), (5, .one (.int .i64 w)), (7, .one (.ro (.ints .i64 (List.getD m i [])))), (16, .one (.rs (.rows m))), (17, .one (.int .i64 ((m.length : Nat) : Int))), (18, .one (.int .i64 ((i : Nat) : Int))), (30, .one (.bool ((decide (w = 0)) && (decide ((((List.length (List.getD m i [])) : Nat) : Int) ≠ ((m.length : Nat) : Int))))))], []⟩ hT (by kernel_rfl) ⟨(by intro hg; first | exact hg | skip; (try simp only [bs] at hg ⊢); first | exact hg | first | omega | (simp only [lens]; omega) | (simp only [Bool.cond_decide]; omega) | (simp only [nadd_eq]; omega) | grind), (by intro hg; first | exact hg | skip; (try simp only [bs] at hg ⊢); first | exact hg | first | omega | (simp only [lens]; omega) | (simp only [Bool.cond_decide]; omega) | (simp only [nadd_eq]; omega) | grind), (by intro hg; first | exact hg | skip; (try simp only [bs] at hg ⊢); first | exact hg | first | omega | (simp only [lens]; omega) | (simp only [Bool.cond_decide]; omega) | (simp only [nadd_eq]; omega) | grind), (by intro hg; first | exact hg | skip; (try simp only [bs] at hg ⊢); first | exact hg | first | omega | (simp only [lens]; omega) | (simp only [Bool.cond_decide]; omega) | (simp only [nadd_eq]; omega) | grind), (fun h => h), trivial⟩ ?_
    refine awp_cond (b := ((decide (w = 0)) && (decide ((((List.length (List.getD m i [])) : Nat) : Int) ≠ ((m.length : Nat) : Int))))) (by kernel_rfl) (fun c8 => ?_) (fun c8 => ?_)
    · -- yes 8
      try simp only [bs] at c8
      refine awp_run [0, 3, 4, 5, 7, 16, 17, 18] [] [] ⟨55, [(0, .one (.rs (.rows m))), (3, .one (.int .i64 (detVal m))), (4, .one (.int .i64 (detErr m))), (5, .one (.int .i64 3)), (7, .one (.ro (.ints .i64 (List.getD m i [])))), (16, .one (.rs (.rows m))), (17, .one (.int .i64 ((m.length : Nat) : Int))), (18, .one (.int .i64 ((i : Nat) : Int)))], []⟩ hT (by kernel_rfl) trivial ?_
      refine awp_seq (awp_region ?_)
      refine aops_run 4 [0, 3, 4, 5, 16, 17, 18, 33, 34] [] [] ⟨55, [(0, .one (.rs (.rows m))), (3, .one (.int .i64 (detVal m))), (4, .one (.int .i64 (detErr m))), (5, .one (.int .i64 3)), (16, .one (.rs (.rows m))), (17, .one (.int .i64 ((m.length : Nat) : Int))), (18, .one (.int .i64 ((i : Nat) : Int))), (33, .one (.bool false)), (34, .whn false (.one (.ro (.ints .i64 (List.getD m i [])))))], []⟩ hT (by kernel_rfl) (by kernel_rfl) trivial ?_
      refine aops_pure false ⟨false, [(false = true → false = true)], 16, [.one (.ro (.ints .i64 (List.getD m i []))), .one (.fn 17 [])], []⟩ [.one (.ro (.ints .i64 (List.getD m i []))), .one (.fn 17 [])] (.one (.bool (List.any (List.getD m i []) badE))) ⟨55, [(0, .one (.rs (.rows m))), (3, .one (.int .i64 (detVal m))), (4, .one (.int .i64 (detErr m))), (5, .one (.int .i64 3)), (16, .one (.rs (.rows m))), (17, .one (.int .i64 ((m.length : Nat) : Int))), (18, .one (.int .i64 ((i : Nat) : Int))), (33, .one (.bool false)), (34, .whn false (.one (.ro (.ints .i64 (List.getD m i []))))), (35, .whn false (.one (.bool (List.any (List.getD m i []) badE))))], []⟩ (by kernel_rfl) (by kernel_rfl) (fun _ => ⟨(fun h => h), trivial⟩) rfl (fun _ => hasf_ints_ 17 badE (List.getD m i [])  (fun x hx => treeDet1 x)) ?_
      refine aops_run 1 [0, 3, 4, 5, 16, 17, 18, 36] [] [(false = true → false = true)] ⟨55, [(0, .one (.rs (.rows m))), (3, .one (.int .i64 (detVal m))), (4, .one (.int .i64 (detErr m))), (5, .one (.int .i64 3)), (16, .one (.rs (.rows m))), (17, .one (.int .i64 ((m.length : Nat) : Int))), (18, .one (.int .i64 ((i : Nat) : Int))), (36, .one (.bool false))], []⟩ hT (by kernel_rfl) (by kernel_rfl) ⟨(fun h => h), trivial⟩ ?_
      refine aops_end_seq (by kernel_rfl) ?_
      refine awp_cond (b := false) (by kernel_rfl) (fun h => by cases h) (fun _ => ?_)
      refine awp_skip ?_
      refine awp_run [0, 3, 4, 5, 16, 17, 18] [] [(-9223372036854775808 ≤ (((i + 1) : Nat) : Int) ∧ (((i + 1) : Nat) : Int) ≤ 9223372036854775807)] ⟨55, [(0, .one (.rs (.rows m))), (3, .one (.int .i64 (detVal m))), (4, .one (.int .i64 (detErr m))), (5, .one (.int .i64 3)), (16, .one (.rs (.rows m))), (17, .one (.int .i64 ((m.length : Nat) : Int))), (18, .one (.int .i64 (((i + 1) : Nat) : Int)))], []⟩ hT (by kernel_rfl) ⟨(by first | omega | (simp only [lens]; omega) | (simp only [Bool.cond_decide]; omega) | (simp only [nadd_eq]; omega)), trivial⟩ ?_
      refine loop_end _ ?_ ⟨(i + 1), 3, ⟨(by omega), (by intro h; have := hw2 h; omega), (by intro h; have h9 := hw3 h; have hs9 := rowsE_drop (n := m.length) (t := m) (i := i) (by omega); grind), rfl⟩, (by kernel_rfl)⟩
      omega
    · -- no 8
      try simp only [bs] at c8
      refine awp_skip ?_
      refine awp_seq (awp_region ?_)
      refine aops_run 4 [0, 3, 4, 5, 16, 17, 18, 33, 34] [] [] ⟨55, [(0, .one (.rs (.rows m))), (3, .one (.int .i64 (detVal m))), (4, .one (.int .i64 (detErr m))), (5, .one (.int .i64 w)), (16, .one (.rs (.rows m))), (17, .one (.int .i64 ((m.length : Nat) : Int))), (18, .one (.int .i64 ((i : Nat) : Int))), (33, .one (.bool (decide (w = 0)))), (34, .whn (decide (w = 0)) (.one (.ro (.ints .i64 (List.getD m i [])))))], []⟩ hT (by kernel_rfl) (by kernel_rfl) trivial ?_
      refine aops_pure false ⟨(decide (w = 0)), [((decide (w = 0)) = true → (decide (w = 0)) = true)], 16, [.one (.ro (.ints .i64 (List.getD m i []))), .one (.fn 17 [])], []⟩ [.one (.ro (.ints .i64 (List.getD m i []))), .one (.fn 17 [])] (.one (.bool (List.any (List.getD m i []) badE))) ⟨55, [(0, .one (.rs (.rows m))), (3, .one (.int .i64 (detVal m))), (4, .one (.int .i64 (detErr m))), (5, .one (.int .i64 w)), (16, .one (.rs (.rows m))), (17, .one (.int .i64 ((m.length : Nat) : Int))), (18, .one (.int .i64 ((i : Nat) : Int))), (33, .one (.bool (decide (w = 0)))), (34, .whn (decide (w = 0)) (.one (.ro (.ints .i64 (List.getD m i []))))), (35, .whn (decide (w = 0)) (.one (.bool (List.any (List.getD m i []) badE))))], []⟩ (by kernel_rfl) (by kernel_rfl) (fun _ => ⟨(fun h => h), trivial⟩) rfl (fun _ => hasf_ints_ 17 badE (List.getD m i [])  (fun x hx => treeDet1 x)) ?_
      refine aops_run 1 [0, 3, 4, 5, 16, 17, 18, 36] [] [((decide (w = 0)) = true → (decide (w = 0)) = true)] ⟨55, [(0, .one (.rs (.rows m))), (3, .one (.int .i64 (detVal m))), (4, .one (.int .i64 (detErr m))), (5, .one (.int .i64 w)), (16, .one (.rs (.rows m))), (17, .one (.int .i64 ((m.length : Nat) : Int))), (18, .one (.int .i64 ((i : Nat) : Int))), (36, .one (.bool ((decide (w = 0)) && (List.any (List.getD m i []) badE))))], []⟩ hT (by kernel_rfl) (by kernel_rfl) ⟨(fun h => h), trivial⟩ ?_
      refine aops_end_seq (by kernel_rfl) ?_
      refine awp_cond (b := ((decide (w = 0)) && (List.any (List.getD m i []) badE))) (by kernel_rfl) (fun c10 => ?_) (fun c10 => ?_)
      · -- yes 10
        try simp only [bs] at c10
        refine awp_run [0, 3, 4, 5, 16, 17, 18] [] [] ⟨55, [(0, .one (.rs (.rows m))), (3, .one (.int .i64 (detVal m))), (4, .one (.int .i64 (detErr m))), (5, .one (.int .i64 1)), (16, .one (.rs (.rows m))), (17, .one (.int .i64 ((m.length : Nat) : Int))), (18, .one (.int .i64 ((i : Nat) : Int)))], []⟩ hT (by kernel_rfl) trivial ?_
        refine awp_run [0, 3, 4, 5, 16, 17, 18] [] [(-9223372036854775808 ≤ (((i + 1) : Nat) : Int) ∧ (((i + 1) : Nat) : Int) ≤ 9223372036854775807)] ⟨55, [(0, .one (.rs (.rows m))), (3, .one (.int .i64 (detVal m))), (4, .one (.int .i64 (detErr m))), (5, .one (.int .i64 1)), (16, .one (.rs (.rows m))), (17, .one (.int .i64 ((m.length : Nat) : Int))), (18, .one (.int .i64 (((i + 1) : Nat) : Int)))], []⟩ hT (by kernel_rfl) ⟨(by first | omega | (simp only [lens]; omega) | (simp only [Bool.cond_decide]; omega) | (simp only [nadd_eq]; omega)), trivial⟩ ?_
        refine loop_end _ ?_ ⟨(i + 1), 1, ⟨(by omega), (by intro h; have := hw2 h; omega), (by intro h; have h9 := hw3 h; have hs9 := rowsE_drop (n := m.length) (t := m) (i := i) (by omega); grind), rfl⟩, (by kernel_rfl)⟩
        omega
      · -- no 10
        try simp only [bs] at c10
        refine awp_skip ?_
        refine awp_run [0, 3, 4, 5, 16, 17, 18] [] [(-9223372036854775808 ≤ (((i + 1) : Nat) : Int) ∧ (((i + 1) : Nat) : Int) ≤ 9223372036854775807)] ⟨55, [(0, .one (.rs (.rows m))), (3, .one (.int .i64 (detVal m))), (4, .one (.int .i64 (detErr m))), (5, .one (.int .i64 w)), (16, .one (.rs (.rows m))), (17, .one (.int .i64 ((m.length : Nat) : Int))), (18, .one (.int .i64 (((i + 1) : Nat) : Int)))], []⟩ hT (by kernel_rfl) ⟨(by first | omega | (simp only [lens]; omega) | (simp only [Bool.cond_decide]; omega) | (simp only [nadd_eq]; omega)), trivial⟩ ?_
        refine loop_end _ ?_ ⟨(i + 1), w, ⟨(by omega), (by intro h; have := hw2 h; omega), (by intro h; have h9 := hw3 h; have hs9 := rowsE_drop (n := m.length) (t := m) (i := i) (by omega); grind), rfl⟩, (by kernel_rfl)⟩
        omega
  · -- no 6
    try simp only [bs] at c6
    have hwe : w = detErr m := by unfold detErr; split; exact hw2 (by omega); rename_i h7; rcases hw3 (by omega) with q | q; exact q.2; rw [← q.2, rowsE_end (by omega)]; exact q.1
    refine awp_exit ?_
    refine awp_seq ?_
    refine awp_run_seq [0, 3, 4, 5, 39] [] [] ⟨55, [(0, .one (.rs (.rows m))), (3, .one (.int .i64 (detVal m))), (4, .one (.int .i64 (detErr m))), (5, .one (.int .i64 w)), (39, .one (.bool (decide (w ≠ 0))))], []⟩ hT (by kernel_rfl) trivial ?_
    refine awp_cond (b := (decide (w ≠ 0))) (by kernel_rfl) (fun c13 => ?_) (fun c13 => ?_)
    · -- yes 13
      try simp only [bs] at c13
      refine awp_run_seq [2] [] [((decide ((detErr m) = w)) = true → ((decide ((detErr m) = w)) = true → (decide ((detErr m) = w)) = true)), ((decide ((detErr m) = w)) = true → (decide ((detErr m) = w)) = true)] ⟨55, [(2, .one (.bool ((decide ((detErr m) = w)) && (decide ((detVal m) = 0)))))], []⟩ hT (by kernel_rfl) ⟨(by intro hg; first | exact hg | skip; (try simp only [bs] at hg ⊢); first | exact hg | first | omega | (simp only [lens]; omega) | (simp only [Bool.cond_decide]; omega) | (simp only [nadd_eq]; omega) | grind), (fun h => h), trivial⟩ ?_
      refine awp_ret ?_
      refine kRet.ret _ [] [] (.one (.bool ((decide ((detErr m) = w)) && (decide ((detVal m) = 0))))) [] (by kernel_rfl) trivial ?_
      exact ⟨congrArg (fun x1 => (.one (.bool x1) : AV)) (show ((decide ((detErr m) = w)) && (decide ((detVal m) = 0))) = true from by rw [decide_eq_true hwe.symm, decide_eq_true (show detVal m = 0 by rw [detVal, if_neg (by omega)])]; rfl), rfl⟩
    · -- no 13
      try simp only [bs] at c13
      have hE : detErr m = 0 := by omega
      obtain ⟨h7, hsq, hen⟩ := detErr_ok hE
      have hdbd := fun k (hk : k ≤ m.length) => (dbd9 (k := k) (by omega)).2
      refine awp_skip ?_
      refine awp_seq (awp_region ?_)
      refine aops_run 5 [49, 50, 51] [] [] ⟨55, [(49, .one (.bool (decide ((detErr m) = 0)))), (50, .whn (decide ((detErr m) = 0)) (.one (.int .i64 (detVal m)))), (51, .whn (decide ((detErr m) = 0)) (.one (.rs (.rows m))))], []⟩ hT (by kernel_rfl) (by kernel_rfl) trivial ?_
      refine aops_pure false ⟨(decide ((detErr m) = 0)), [((decide ((detErr m) = 0)) = true → (decide ((detErr m) = 0)) = true)], 18, [.one (.rs (.rows m))], []⟩ [.one (.rs (.rows m))] (.one (.int .i64 (det m.length (at2 m)))) ⟨55, [(49, .one (.bool (decide ((detErr m) = 0)))), (50, .whn (decide ((detErr m) = 0)) (.one (.int .i64 (detVal m)))), (51, .whn (decide ((detErr m) = 0)) (.one (.rs (.rows m)))), (52, .whn (decide ((detErr m) = 0)) (.one (.int .i64 (det m.length (at2 m)))))], []⟩ (by kernel_rfl) (by kernel_rfl) (fun _ => ⟨(fun h => h), trivial⟩) rfl (fun _ => ref_detOf 9 (by decide) m.length m hsq hen (by omega) hdbd) ?_
      refine aops_run 3 [2] [] [((decide ((detErr m) = 0)) = true → ((decide ((detErr m) = 0)) = true → (decide ((detErr m) = 0)) = true)), ((decide ((detErr m) = 0)) = true → ((decide ((detErr m) = 0)) = true → (decide ((detErr m) = 0)) = true)), ((decide ((detErr m) = 0)) = true → (decide ((detErr m) = 0)) = true)] ⟨55, [(2, .one (.bool ((decide ((detErr m) = 0)) && (decide ((detVal m) = (det m.length (at2 m)))))))], []⟩ hT (by kernel_rfl) (by kernel_rfl) ⟨(by intro hg; first | exact hg | skip; (try simp only [bs] at hg ⊢); first | exact hg | first | omega | (simp only [lens]; omega) | (simp only [Bool.cond_decide]; omega) | (simp only [nadd_eq]; omega) | grind), (by intro hg; first | exact hg | skip; (try simp only [bs] at hg ⊢); first | exact hg | first | omega | (simp only [lens]; omega) | (simp only [Bool.cond_decide]; omega) | (simp only [nadd_eq]; omega) | grind), (fun h => h), trivial⟩ ?_
      refine aops_end_seq (by kernel_rfl) ?_
      refine awp_ret ?_
      refine kRet.ret _ [] [] (.one (.bool ((decide ((detErr m) = 0)) && (decide ((detVal m) = (det m.length (at2 m))))))) [] (by kernel_rfl) trivial ?_
      exact ⟨congrArg (fun x1 => (.one (.bool x1) : AV)) (show ((decide ((detErr m) = 0)) && (decide ((detVal m) = (det m.length (at2 m))))) = true from by rw [decide_eq_true hE, decide_eq_true (detVal_ok hE).symm]; rfl), rfl⟩

end Go.Ab
