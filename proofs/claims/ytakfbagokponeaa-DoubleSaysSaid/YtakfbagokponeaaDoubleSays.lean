/- DoubleSays returns true. -/
import Derived.Test.YtakfbagokponeaaTab
import Derived.Test.YtakfbagokponeaaDbl3
import Derived.Test.YtakfbagokponeaaDbl4
import Derived.Test.YtakfbagokponeaaDbl5
import Derived.Test.YtakfbagokponeaaSame1
set_option maxRecDepth 100000
namespace Go.Ab
open Go Go.Proofs
theorem dsays1 (x y : Int × List Int) : ACall Try.prog 19 [.agg [(.int .i64 x.1), (.ro (.ints .i64 x.2))], .agg [(.int .i64 y.1), (.ro (.ints .i64 y.2))]] [] (fun ov oh => ov = .one (.bool (decide (x = y))) ∧ oh = []) := by
  refine acall_intro hT Try.func19 rfl (by kernel_rfl) rfl (by kernel_rfl) ?_
  refine awp_run_seq [2, 3] [102, 103] [] ⟨17, [(2, .one (.ptr 102 0 0)), (3, .one (.ptr 103 0 0))], [(102, .box 1 2 [(.int .i64 x.1), (.ro (.ints .i64 x.2))]), (103, .box 1 2 [(.int .i64 y.1), (.ro (.ints .i64 y.2))])]⟩ hT (by kernel_rfl) trivial ?_
  refine awp_seq (awp_region ?_)
  refine aops_run 10 [10, 12, 14] [] [(0 < 1), (0 < 1), ((decide (x.1 = y.1)) = true → ((decide (x.1 = y.1)) = true → (decide (x.1 = y.1)) = true)), ((decide (x.1 = y.1)) = true → (0 < 1)), ((decide (x.1 = y.1)) = true → ((decide (x.1 = y.1)) = true → (decide (x.1 = y.1)) = true)), ((decide (x.1 = y.1)) = true → (0 < 1))] ⟨17, [(10, .one (.bool (decide (x.1 = y.1)))), (12, .whn (decide (x.1 = y.1)) (.one (.ro (.ints .i64 x.2)))), (14, .whn (decide (x.1 = y.1)) (.one (.ro (.ints .i64 y.2))))], []⟩ hT (by kernel_rfl) (by kernel_rfl) ⟨(by decide), (by decide), (by intro hg; first | exact hg | skip; (try simp only [bs] at hg ⊢); first | exact hg | first | omega | (simp only [lens]; omega) | (simp only [Bool.cond_decide]; omega) | (simp only [nadd_eq]; omega) | grind), (by intro hg; first | exact hg | skip; (try simp only [bs] at hg); first | exact hg | first | omega | (simp only [lens]; omega) | (simp only [Bool.cond_decide]; omega) | (simp only [nadd_eq]; omega) | grind), (by intro hg; first | exact hg | skip; (try simp only [bs] at hg ⊢); first | exact hg | first | omega | (simp only [lens]; omega) | (simp only [Bool.cond_decide]; omega) | (simp only [nadd_eq]; omega) | grind), (by intro hg; first | exact hg | skip; (try simp only [bs] at hg); first | exact hg | first | omega | (simp only [lens]; omega) | (simp only [Bool.cond_decide]; omega) | (simp only [nadd_eq]; omega) | grind), trivial⟩ ?_
  refine aops_pure false ⟨(decide (x.1 = y.1)), [((decide (x.1 = y.1)) = true → (decide (x.1 = y.1)) = true), ((decide (x.1 = y.1)) = true → (decide (x.1 = y.1)) = true)], 20, [.one (.ro (.ints .i64 x.2)), .one (.ro (.ints .i64 y.2))], []⟩ [.one (.ro (.ints .i64 x.2)), .one (.ro (.ints .i64 y.2))] (.one (.bool (decide (x.2 = y.2)))) ⟨17, [(10, .one (.bool (decide (x.1 = y.1)))), (12, .whn (decide (x.1 = y.1)) (.one (.ro (.ints .i64 x.2)))), (14, .whn (decide (x.1 = y.1)) (.one (.ro (.ints .i64 y.2)))), (15, .whn (decide (x.1 = y.1)) (.one (.bool (decide (x.2 = y.2)))))], []⟩ (by kernel_rfl) (by kernel_rfl) (fun _ => ⟨(fun h => h), (fun h => h), trivial⟩) rfl (fun _ => same_ints x.2 y.2) ?_
  refine aops_run 2 [4] [] [((decide (x.1 = y.1)) = true → (decide (x.1 = y.1)) = true)] ⟨17, [(4, .one (.bool ((decide (x.1 = y.1)) && (decide (x.2 = y.2)))))], []⟩ hT (by kernel_rfl) (by kernel_rfl) ⟨(fun h => h), trivial⟩ ?_
  refine aops_end_seq (by kernel_rfl) ?_
  refine awp_ret ?_
  refine kRet.ret _ [] [] (.one (.bool ((decide (x.1 = y.1)) && (decide (x.2 = y.2))))) [] (by kernel_rfl) trivial ?_
  exact ⟨congrArg (fun x1 => (.one (.bool x1) : AV)) (show ((decide (x.1 = y.1)) && (decide (x.2 = y.2))) = (decide (x = y)) from by exact pc_eq x y), rfl⟩

theorem eqf_pieces (F : FuncId) (l m : List (Int × List Int)) (hF : ∀ x y : Int × List Int, ACall Try.prog F [.agg [.int .i64 x.1, .ro (.ints .i64 x.2)], .agg [.int .i64 y.1, .ro (.ints .i64 y.2)]] [] (fun ov oh => ov = .one (.bool (decide (x = y))) ∧ oh = [])) : ACall Try.prog 17 [.one (.rs (.pieces l)), .one (.rs (.pieces m)), .one (.fn F [])] [] (fun ov oh => ov = .one (.bool (decide (l = m))) ∧ oh = []) := by
  refine acall_intro hT Try.func17 rfl (by kernel_rfl) rfl (by kernel_rfl) ?_
  refine awp_len1 0 0 (.pieces l) (by kernel_rfl) (fun hlen => ?_)
  simp only [C1.len, maxLen] at hlen
  refine awp_run_seq [0, 1, 2] [] [] ⟨32, [(0, .one (.rs (.pieces l))), (1, .one (.rs (.pieces m))), (2, .one (.fn F []))], []⟩ hT (by kernel_rfl) trivial ?_
  refine awp_seq ?_
  refine awp_run_seq [0, 1, 2, 14] [] [] ⟨32, [(0, .one (.rs (.pieces l))), (1, .one (.rs (.pieces m))), (2, .one (.fn F [])), (14, .one (.bool (decide (((l.length : Nat) : Int) ≠ ((m.length : Nat) : Int)))))], []⟩ hT (by kernel_rfl) trivial ?_
  refine awp_cond (b := (decide (((l.length : Nat) : Int) ≠ ((m.length : Nat) : Int)))) (by kernel_rfl) (fun c1 => ?_) (fun c1 => ?_)
  · -- yes 1
    try simp only [bs] at c1
    refine awp_run_seq [6] [] [] ⟨32, [(6, .one (.bool false))], []⟩ hT (by kernel_rfl) trivial ?_
    refine awp_ret ?_
    refine kRet.ret _ [] [] (.one (.bool false)) [] (by kernel_rfl) trivial ?_
    exact ⟨congrArg (fun x1 => (.one (.bool x1) : AV)) (show false = (decide (l = m)) from by exact eq_no (fun h => by subst h; omega)), rfl⟩
  · -- no 1
    try simp only [bs] at c1
    refine awp_skip ?_
    refine awp_seq ?_
    refine awp_run_seq [1, 2, 15, 16, 17] [] [] ⟨32, [(1, .one (.rs (.pieces m))), (2, .one (.fn F [])), (15, .one (.rs (.pieces l))), (16, .one (.int .i64 ((l.length : Nat) : Int))), (17, .one (.int .i64 0))], []⟩ hT (by kernel_rfl) trivial ?_
    refine awp_block ?_
    refine awp_loop (I := fun κ σ => ∃ (i : Nat), ((i ≤ l.length) ∧ (∀ j, j < i → l.getD j (0, []) = m.getD j (0, [])) ∧ l.length - i = κ) ∧ σ = ⟨32, [(1, .one (.rs (.pieces m))), (2, .one (.fn F [])), (15, .one (.rs (.pieces l))), (16, .one (.int .i64 ((l.length : Nat) : Int))), (17, .one (.int .i64 ((i : Nat) : Int)))], []⟩) _ ⟨0, ⟨(by omega), (by intro j hj; omega), rfl⟩, (by kernel_rfl)⟩ ?_
    rintro κ _ ⟨i, ⟨hi, hp, rfl⟩, rfl⟩
    refine awp_run_seq [1, 2, 15, 16, 17, 18] [] [] ⟨32, [(1, .one (.rs (.pieces m))), (2, .one (.fn F [])), (15, .one (.rs (.pieces l))), (16, .one (.int .i64 ((l.length : Nat) : Int))), (17, .one (.int .i64 ((i : Nat) : Int))), (18, .one (.bool (decide (((i : Nat) : Int) < ((l.length : Nat) : Int)))))], []⟩ hT (by kernel_rfl) trivial ?_
    refine awp_seq ?_
    refine awp_cond (b := (decide (((i : Nat) : Int) < ((l.length : Nat) : Int)))) (by kernel_rfl) (fun c4 => ?_) (fun c4 => ?_)
    · -- yes 4
      try simp only [bs] at c4
      refine awp_skip ?_
      refine awp_seq ?_
      refine awp_block ?_
      refine awp_run_seq [1, 2, 7, 8, 15, 16, 17] [108] [((0 : Int) ≤ ((i : Nat) : Int)), (((i : Nat) : Int) < ((l.length : Nat) : Int)), (0 < 1)] ⟨32, [(1, .one (.rs (.pieces m))), (2, .one (.fn F [])), (7, .one (.int .i64 ((i : Nat) : Int))), (8, .one (.ptr 108 0 0)), (15, .one (.rs (.pieces l))), (16, .one (.int .i64 ((l.length : Nat) : Int))), (17, .one (.int .i64 ((i : Nat) : Int)))], [(108, .box 1 2 [(.int .i64 ((List.getD l i (0, [])).1)), (.ro (.ints .i64 ((List.getD l i (0, [])).2)))])]⟩ hT (by kernel_rfl) ⟨(by first | omega | (simp only [lens]; omega) | (simp only [Bool.cond_decide]; omega) | (simp only [nadd_eq]; omega)), (by first | omega | (simp only [lens]; omega) | (simp only [Bool.cond_decide]; omega) | (simp only [nadd_eq]; omega)), (by decide), trivial⟩ ?_
      refine awp_run_seq [1, 2, 8, 9, 15, 16, 17] [108, 109] [((0 : Int) ≤ ((i : Nat) : Int)), (((i : Nat) : Int) < ((m.length : Nat) : Int)), (0 < 1)] ⟨32, [(1, .one (.rs (.pieces m))), (2, .one (.fn F [])), (8, .one (.ptr 108 0 0)), (9, .one (.ptr 109 0 0)), (15, .one (.rs (.pieces l))), (16, .one (.int .i64 ((l.length : Nat) : Int))), (17, .one (.int .i64 ((i : Nat) : Int)))], [(108, .box 1 2 [(.int .i64 ((List.getD l i (0, [])).1)), (.ro (.ints .i64 ((List.getD l i (0, [])).2)))]), (109, .box 1 2 [(.int .i64 ((List.getD m i (0, [])).1)), (.ro (.ints .i64 ((List.getD m i (0, [])).2)))])]⟩ hT (by kernel_rfl) ⟨(by first | omega | (simp only [lens]; omega) | (simp only [Bool.cond_decide]; omega) | (simp only [nadd_eq]; omega)), (by first | omega | (simp only [lens]; omega) | (simp only [Bool.cond_decide]; omega) | (simp only [nadd_eq]; omega)), (by decide), trivial⟩ ?_
      refine awp_seq (awp_region ?_)
      refine aops_run 3 [1, 2, 15, 16, 17, 26, 27, 28] [] [(0 < 1), (0 < 1)] ⟨32, [(1, .one (.rs (.pieces m))), (2, .one (.fn F [])), (15, .one (.rs (.pieces l))), (16, .one (.int .i64 ((l.length : Nat) : Int))), (17, .one (.int .i64 ((i : Nat) : Int))), (26, .one (.fn F [])), (27, .agg [(.int .i64 ((List.getD l i (0, [])).1)), (.ro (.ints .i64 ((List.getD l i (0, [])).2)))]), (28, .agg [(.int .i64 ((List.getD m i (0, [])).1)), (.ro (.ints .i64 ((List.getD m i (0, [])).2)))])], []⟩ hT (by kernel_rfl) (by kernel_rfl) ⟨(by decide), (by decide), trivial⟩ ?_
      refine aops_pure false ⟨true, [], F, [.agg [(.int .i64 ((List.getD l i (0, [])).1)), (.ro (.ints .i64 ((List.getD l i (0, [])).2)))], .agg [(.int .i64 ((List.getD m i (0, [])).1)), (.ro (.ints .i64 ((List.getD m i (0, [])).2)))]], []⟩ [.agg [(.int .i64 ((List.getD l i (0, [])).1)), (.ro (.ints .i64 ((List.getD l i (0, [])).2)))], .agg [(.int .i64 ((List.getD m i (0, [])).1)), (.ro (.ints .i64 ((List.getD m i (0, [])).2)))]] (.one (.bool (decide ((List.getD l i (0, [])) = (List.getD m i (0, [])))))) ⟨32, [(1, .one (.rs (.pieces m))), (2, .one (.fn F [])), (15, .one (.rs (.pieces l))), (16, .one (.int .i64 ((l.length : Nat) : Int))), (17, .one (.int .i64 ((i : Nat) : Int))), (26, .one (.fn F [])), (27, .agg [(.int .i64 ((List.getD l i (0, [])).1)), (.ro (.ints .i64 ((List.getD l i (0, [])).2)))]), (28, .agg [(.int .i64 ((List.getD m i (0, [])).1)), (.ro (.ints .i64 ((List.getD m i (0, [])).2)))]), (29, .one (.bool (decide ((List.getD l i (0, [])) = (List.getD m i (0, []))))))], []⟩ (by kernel_rfl) (by kernel_rfl) (fun _ => trivial) rfl (fun _ => hF _ _) ?_
      refine aops_run 1 [1, 2, 15, 16, 17, 30] [] [] ⟨32, [(1, .one (.rs (.pieces m))), (2, .one (.fn F [])), (15, .one (.rs (.pieces l))), (16, .one (.int .i64 ((l.length : Nat) : Int))), (17, .one (.int .i64 ((i : Nat) : Int))), (30, .one (.bool (!(decide ((List.getD l i (0, [])) = (List.getD m i (0, [])))))))], []⟩ hT (by kernel_rfl) (by kernel_rfl) trivial ?_
      refine aops_end_seq (by kernel_rfl) ?_
      refine awp_cond (b := (!(decide ((List.getD l i (0, [])) = (List.getD m i (0, [])))))) (by kernel_rfl) (fun c7 => ?_) (fun c7 => ?_)
      · -- yes 7
        try simp only [bs] at c7
        refine awp_run_seq [6] [] [] ⟨32, [(6, .one (.bool false))], []⟩ hT (by kernel_rfl) trivial ?_
        refine awp_ret ?_
        refine kRet.ret _ [] [] (.one (.bool false)) [] (by kernel_rfl) trivial ?_
        exact ⟨congrArg (fun x1 => (.one (.bool x1) : AV)) (show false = (decide (l = m)) from by exact eq_no (fun h => by subst h; simp at c7)), rfl⟩
      · -- no 7
        try simp only [bs] at c7
        refine awp_skip ?_
        refine awp_run [1, 2, 15, 16, 17] [] [(-9223372036854775808 ≤ (((i + 1) : Nat) : Int) ∧ (((i + 1) : Nat) : Int) ≤ 9223372036854775807)] ⟨32, [(1, .one (.rs (.pieces m))), (2, .one (.fn F [])), (15, .one (.rs (.pieces l))), (16, .one (.int .i64 ((l.length : Nat) : Int))), (17, .one (.int .i64 (((i + 1) : Nat) : Int)))], []⟩ hT (by kernel_rfl) ⟨(by first | omega | (simp only [lens]; omega) | (simp only [Bool.cond_decide]; omega) | (simp only [nadd_eq]; omega)), trivial⟩ ?_
        refine loop_end _ ?_ ⟨(i + 1), ⟨(by omega), (by intro j hj; rcases Nat.lt_succ_iff_lt_or_eq.1 hj with h | h; exact hp j h; subst h; simpa using c7), rfl⟩, (by kernel_rfl)⟩
        omega
    · -- no 4
      try simp only [bs] at c4
      refine awp_exit ?_
      refine awp_run_seq [6] [] [] ⟨32, [(6, .one (.bool true))], []⟩ hT (by kernel_rfl) trivial ?_
      refine awp_ret ?_
      refine kRet.ret _ [] [] (.one (.bool true)) [] (by kernel_rfl) trivial ?_
      exact ⟨congrArg (fun x1 => (.one (.bool x1) : AV)) (show true = (decide (l = m)) from by exact eq_yes (list_ext (0, []) (by omega) (fun j hj => hp j (by omega)))), rfl⟩

theorem doubleSays_law (t : List (List Int)) : ACall Try.prog 4 [.one (.rs (.rows t))] [] (fun ov oh => ov = .one (.bool true) ∧ oh = []) := by
  refine acall_intro hT Try.func4 rfl (by kernel_rfl) rfl (by kernel_rfl) ?_
  refine awp_run_seq [0] [] [] ⟨50, [(0, .one (.rs (.rows t)))], []⟩ hT (by kernel_rfl) trivial ?_
  refine awp_seq (awp_region ?_)
  refine aops_run 1 [0, 10] [] [] ⟨50, [(0, .one (.rs (.rows t))), (10, .one (.rs (.rows t)))], []⟩ hT (by kernel_rfl) (by kernel_rfl) trivial ?_
  refine aops_pure false ⟨true, [], 14, [.one (.rs (.rows t))], []⟩ [.one (.rs (.rows t))] (.tup [(false, [(.int .i64 (sumV t))]), (false, [(.int .i64 (sumE t))])]) ⟨50, [(0, .one (.rs (.rows t))), (10, .one (.rs (.rows t))), (11, .tup [(false, [(.int .i64 (sumV t))]), (false, [(.int .i64 (sumE t))])])], []⟩ (by kernel_rfl) (by kernel_rfl) (fun _ => trivial) rfl (fun _ => double_check t) ?_
  refine aops_run 5 [0, 3, 4] [] [] ⟨50, [(0, .one (.rs (.rows t))), (3, .one (.int .i64 (sumV t))), (4, .one (.int .i64 (sumE t)))], []⟩ hT (by kernel_rfl) (by kernel_rfl) trivial ?_
  refine aops_end_seq (by kernel_rfl) ?_
  refine awp_seq (awp_region ?_)
  refine aops_run 1 [0, 3, 4, 15] [] [] ⟨50, [(0, .one (.rs (.rows t))), (3, .one (.int .i64 (sumV t))), (4, .one (.int .i64 (sumE t))), (15, .one (.rs (.rows t)))], []⟩ hT (by kernel_rfl) (by kernel_rfl) trivial ?_
  refine aops_pure false ⟨true, [], 15, [.one (.rs (.rows t))], []⟩ [.one (.rs (.rows t))] (.tup [(false, [(.rs (.pieces (okL (sumE t) (pcsOf (List.length t) (Int.toNat (sumV t)) t (sumV t)))))]), (false, [(.int .i64 (sumE t))])]) ⟨50, [(0, .one (.rs (.rows t))), (3, .one (.int .i64 (sumV t))), (4, .one (.int .i64 (sumE t))), (15, .one (.rs (.rows t))), (16, .tup [(false, [(.rs (.pieces (okL (sumE t) (pcsOf (List.length t) (Int.toNat (sumV t)) t (sumV t)))))]), (false, [(.int .i64 (sumE t))])])], []⟩ (by kernel_rfl) (by kernel_rfl) (fun _ => trivial) rfl (fun _ => double_split t) ?_
  refine aops_run 5 [0, 3, 4, 5, 6] [] [] ⟨50, [(0, .one (.rs (.rows t))), (3, .one (.int .i64 (sumV t))), (4, .one (.int .i64 (sumE t))), (5, .one (.rs (.pieces (okL (sumE t) (pcsOf (List.length t) (Int.toNat (sumV t)) t (sumV t)))))), (6, .one (.int .i64 (sumE t)))], []⟩ hT (by kernel_rfl) (by kernel_rfl) trivial ?_
  refine aops_end_seq (by kernel_rfl) ?_
  refine awp_seq (awp_region ?_)
  refine aops_run 1 [0, 3, 4, 5, 6, 20] [] [] ⟨50, [(0, .one (.rs (.rows t))), (3, .one (.int .i64 (sumV t))), (4, .one (.int .i64 (sumE t))), (5, .one (.rs (.pieces (okL (sumE t) (pcsOf (List.length t) (Int.toNat (sumV t)) t (sumV t)))))), (6, .one (.int .i64 (sumE t))), (20, .one (.rs (.rows t)))], []⟩ hT (by kernel_rfl) (by kernel_rfl) trivial ?_
  refine aops_pure false ⟨true, [], 16, [.one (.rs (.rows t))], []⟩ [.one (.rs (.rows t))] (.tup [(false, [(.int .i64 (sumV t))]), (false, [(.int .i64 (sumE t))])]) ⟨50, [(0, .one (.rs (.rows t))), (3, .one (.int .i64 (sumV t))), (4, .one (.int .i64 (sumE t))), (5, .one (.rs (.pieces (okL (sumE t) (pcsOf (List.length t) (Int.toNat (sumV t)) t (sumV t)))))), (6, .one (.int .i64 (sumE t))), (20, .one (.rs (.rows t))), (21, .tup [(false, [(.int .i64 (sumV t))]), (false, [(.int .i64 (sumE t))])])], []⟩ (by kernel_rfl) (by kernel_rfl) (fun _ => trivial) rfl (fun _ => ref_sumErr t) ?_
  refine aops_run 5 [0, 3, 4, 5, 6, 7, 8] [] [] ⟨50, [(0, .one (.rs (.rows t))), (3, .one (.int .i64 (sumV t))), (4, .one (.int .i64 (sumE t))), (5, .one (.rs (.pieces (okL (sumE t) (pcsOf (List.length t) (Int.toNat (sumV t)) t (sumV t)))))), (6, .one (.int .i64 (sumE t))), (7, .one (.int .i64 (sumV t))), (8, .one (.int .i64 (sumE t)))], []⟩ hT (by kernel_rfl) (by kernel_rfl) trivial ?_
  refine aops_end_seq (by kernel_rfl) ?_
  refine awp_seq ?_
  refine awp_run_seq [0, 5, 6, 8, 31] [] [((!(decide ((sumE t) ≠ (sumE t)))) = true → ((!(decide ((sumE t) ≠ (sumE t)))) = true → (!(decide ((sumE t) ≠ (sumE t)))) = true)), ((!(decide ((sumE t) ≠ (sumE t)))) = true → ((!(decide ((sumE t) ≠ (sumE t)))) = true → (!(decide ((sumE t) ≠ (sumE t)))) = true)), ((!(decide ((sumE t) ≠ (sumE t)))) = true → (!(decide ((sumE t) ≠ (sumE t)))) = true)] ⟨50, [(0, .one (.rs (.rows t))), (5, .one (.rs (.pieces (okL (sumE t) (pcsOf (List.length t) (Int.toNat (sumV t)) t (sumV t)))))), (6, .one (.int .i64 (sumE t))), (8, .one (.int .i64 (sumE t))), (31, .one (.bool ((decide ((sumE t) ≠ (sumE t))) || (decide ((sumV t) ≠ (sumV t))))))], []⟩ hT (by kernel_rfl) ⟨(by intro hg; first | exact hg | skip; (try simp only [bs] at hg ⊢); first | exact hg | first | omega | (simp only [lens]; omega) | (simp only [Bool.cond_decide]; omega) | (simp only [nadd_eq]; omega) | grind), (by intro hg; first | exact hg | skip; (try simp only [bs] at hg ⊢); first | exact hg | first | omega | (simp only [lens]; omega) | (simp only [Bool.cond_decide]; omega) | (simp only [nadd_eq]; omega) | grind), (fun h => h), trivial⟩ ?_
  refine awp_cond (b := ((decide ((sumE t) ≠ (sumE t))) || (decide ((sumV t) ≠ (sumV t))))) (by kernel_rfl) (fun c4 => ?_) (fun c4 => ?_)
  · -- yes 4
    try simp only [bs] at c4
    exfalso; simp at c4
  · -- no 4
    try simp only [bs] at c4
    refine awp_skip ?_
    refine awp_seq ?_
    refine awp_run_seq [0, 5, 6, 8, 33] [] [] ⟨50, [(0, .one (.rs (.rows t))), (5, .one (.rs (.pieces (okL (sumE t) (pcsOf (List.length t) (Int.toNat (sumV t)) t (sumV t)))))), (6, .one (.int .i64 (sumE t))), (8, .one (.int .i64 (sumE t))), (33, .one (.bool (decide ((sumE t) ≠ 0))))], []⟩ hT (by kernel_rfl) trivial ?_
    refine awp_cond (b := (decide ((sumE t) ≠ 0))) (by kernel_rfl) (fun c6 => ?_) (fun c6 => ?_)
    · -- yes 6
      try simp only [bs] at c6
      have hS0 : (sumE t) ≠ 0 := c6
      refine awp_run_seq [2] [] [((decide ((sumE t) = (sumE t))) = true → ((decide ((sumE t) = (sumE t))) = true → (decide ((sumE t) = (sumE t))) = true)), ((decide ((sumE t) = (sumE t))) = true → ((decide ((sumE t) = (sumE t))) = true → (decide ((sumE t) = (sumE t))) = true)), ((decide ((sumE t) = (sumE t))) = true → (decide ((sumE t) = (sumE t))) = true)] ⟨50, [(2, .one (.bool ((decide ((sumE t) = (sumE t))) && (decide ((((List.length (okL (sumE t) (pcsOf (List.length t) (Int.toNat (sumV t)) t (sumV t)))) : Nat) : Int) = 0)))))], []⟩ hT (by kernel_rfl) ⟨(by intro hg; first | exact hg | skip; (try simp only [bs] at hg ⊢); first | exact hg | first | omega | (simp only [lens]; omega) | (simp only [Bool.cond_decide]; omega) | (simp only [nadd_eq]; omega) | grind), (by intro hg; first | exact hg | skip; (try simp only [bs] at hg ⊢); first | exact hg | first | omega | (simp only [lens]; omega) | (simp only [Bool.cond_decide]; omega) | (simp only [nadd_eq]; omega) | grind), (fun h => h), trivial⟩ ?_
      refine awp_ret ?_
      refine kRet.ret _ [] [] (.one (.bool ((decide ((sumE t) = (sumE t))) && (decide ((((List.length (okL (sumE t) (pcsOf (List.length t) (Int.toNat (sumV t)) t (sumV t)))) : Nat) : Int) = 0))))) [] (by kernel_rfl) trivial ?_
      exact ⟨congrArg (fun x1 => (.one (.bool x1) : AV)) (show ((decide ((sumE t) = (sumE t))) && (decide ((((List.length (okL (sumE t) (pcsOf (List.length t) (Int.toNat (sumV t)) t (sumV t)))) : Nat) : Int) = 0))) = true from by simp [okL, hS0]), rfl⟩
    · -- no 6
      try simp only [bs] at c6
      have hS : (sumE t) = 0 := by omega
      refine awp_skip ?_
      refine awp_seq (awp_region ?_)
      refine aops_run 5 [44, 45, 46] [] [] ⟨50, [(44, .one (.bool (decide ((sumE t) = 0)))), (45, .whn (decide ((sumE t) = 0)) (.one (.rs (.pieces (okL (sumE t) (pcsOf (List.length t) (Int.toNat (sumV t)) t (sumV t))))))), (46, .whn (decide ((sumE t) = 0)) (.one (.rs (.rows t))))], []⟩ hT (by kernel_rfl) (by kernel_rfl) trivial ?_
      refine aops_pure false ⟨(decide ((sumE t) = 0)), [((decide ((sumE t) = 0)) = true → (decide ((sumE t) = 0)) = true)], 18, [.one (.rs (.rows t))], []⟩ [.one (.rs (.rows t))] (.one (.rs (.pieces (pcsOf (List.length t) (Int.toNat (sumV t)) t (sumV t))))) ⟨50, [(44, .one (.bool (decide ((sumE t) = 0)))), (45, .whn (decide ((sumE t) = 0)) (.one (.rs (.pieces (okL (sumE t) (pcsOf (List.length t) (Int.toNat (sumV t)) t (sumV t))))))), (46, .whn (decide ((sumE t) = 0)) (.one (.rs (.rows t)))), (47, .whn (decide ((sumE t) = 0)) (.one (.rs (.pieces (pcsOf (List.length t) (Int.toNat (sumV t)) t (sumV t))))))], []⟩ (by kernel_rfl) (by kernel_rfl) (fun _ => ⟨(fun h => h), trivial⟩) rfl (fun hg => ref_pieces t (by first | exact hS | omega)) ?_
      refine aops_pure false ⟨(decide ((sumE t) = 0)), [((decide ((sumE t) = 0)) = true → (decide ((sumE t) = 0)) = true), ((decide ((sumE t) = 0)) = true → (decide ((sumE t) = 0)) = true)], 17, [.one (.rs (.pieces (okL (sumE t) (pcsOf (List.length t) (Int.toNat (sumV t)) t (sumV t))))), .one (.rs (.pieces (pcsOf (List.length t) (Int.toNat (sumV t)) t (sumV t)))), .one (.fn 19 [])], []⟩ [.one (.rs (.pieces (okL (sumE t) (pcsOf (List.length t) (Int.toNat (sumV t)) t (sumV t))))), .one (.rs (.pieces (pcsOf (List.length t) (Int.toNat (sumV t)) t (sumV t)))), .one (.fn 19 [])] (.one (.bool (decide ((okL (sumE t) (pcsOf (List.length t) (Int.toNat (sumV t)) t (sumV t))) = (pcsOf (List.length t) (Int.toNat (sumV t)) t (sumV t)))))) ⟨50, [(44, .one (.bool (decide ((sumE t) = 0)))), (45, .whn (decide ((sumE t) = 0)) (.one (.rs (.pieces (okL (sumE t) (pcsOf (List.length t) (Int.toNat (sumV t)) t (sumV t))))))), (46, .whn (decide ((sumE t) = 0)) (.one (.rs (.rows t)))), (47, .whn (decide ((sumE t) = 0)) (.one (.rs (.pieces (pcsOf (List.length t) (Int.toNat (sumV t)) t (sumV t)))))), (48, .whn (decide ((sumE t) = 0)) (.one (.bool (decide ((okL (sumE t) (pcsOf (List.length t) (Int.toNat (sumV t)) t (sumV t))) = (pcsOf (List.length t) (Int.toNat (sumV t)) t (sumV t)))))))], []⟩ (by kernel_rfl) (by kernel_rfl) (fun _ => ⟨(fun h => h), (fun h => h), trivial⟩) rfl (fun _ => eqf_pieces 19 (okL (sumE t) (pcsOf (List.length t) (Int.toNat (sumV t)) t (sumV t))) (pcsOf (List.length t) (Int.toNat (sumV t)) t (sumV t)) dsays1) ?_
      refine aops_run 2 [2] [] [((decide ((sumE t) = 0)) = true → (decide ((sumE t) = 0)) = true)] ⟨50, [(2, .one (.bool ((decide ((sumE t) = 0)) && (decide ((okL (sumE t) (pcsOf (List.length t) (Int.toNat (sumV t)) t (sumV t))) = (pcsOf (List.length t) (Int.toNat (sumV t)) t (sumV t)))))))], []⟩ hT (by kernel_rfl) (by kernel_rfl) ⟨(fun h => h), trivial⟩ ?_
      refine aops_end_seq (by kernel_rfl) ?_
      refine awp_ret ?_
      refine kRet.ret _ [] [] (.one (.bool ((decide ((sumE t) = 0)) && (decide ((okL (sumE t) (pcsOf (List.length t) (Int.toNat (sumV t)) t (sumV t))) = (pcsOf (List.length t) (Int.toNat (sumV t)) t (sumV t))))))) [] (by kernel_rfl) trivial ?_
      exact ⟨congrArg (fun x1 => (.one (.bool x1) : AV)) (show ((decide ((sumE t) = 0)) && (decide ((okL (sumE t) (pcsOf (List.length t) (Int.toNat (sumV t)) t (sumV t))) = (pcsOf (List.length t) (Int.toNat (sumV t)) t (sumV t))))) = true from by simp [okL, hS]), rfl⟩

end Go.Ab
