/- Of gale: the checks, and turned sums. -/
import Derived.Test.YtoghkabjfpolbaaTab
import Derived.Test.YtoghkabjfpolbaaFunI
import Derived.Test.YtoghkabjfpolbaaPlGale
import Derived.Test.YtoghkabjfpolbaaPlFlow3
set_option maxRecDepth 100000
namespace Go.Ab
open Go Go.Proofs
theorem sums_err11 (m x : Int) : ACall Try.prog 122 [.one (.int .i64 x), .one (.ptr 1 0 0)] [(1, .box 1 1 [(.int .i64 m)])] (fun ov oh => ov = .one (.bool (decide (x < 0) || decide (m < x))) ∧ oh = [(1, .box 1 1 [(.int .i64 m)])]) := by
  refine acall_intro hT Try.func122 rfl (by kernel_rfl) rfl (by kernel_rfl) ?_
  refine awp_run_seq [0, 1] [] [] ⟨11, [(0, .one (.int .i64 x)), (1, .one (.ptr 1 0 0))], [(1, .box 1 1 [(.int .i64 m)])]⟩ hT (by kernel_rfl) trivial ?_
  refine awp_run_seq [3] [] [((!(decide (x < 0))) = true → (0 < 1)), ((!(decide (x < 0))) = true → ((!(decide (x < 0))) = true → (!(decide (x < 0))) = true)), ((!(decide (x < 0))) = true → ((!(decide (x < 0))) = true → (!(decide (x < 0))) = true)), ((!(decide (x < 0))) = true → (!(decide (x < 0))) = true)] ⟨11, [(3, .one (.bool ((decide (x < 0)) || (decide (m < x)))))], [(1, .box 1 1 [(.int .i64 m)])]⟩ hT (by kernel_rfl) ⟨(by intro hg; first | exact hg | skip; (try simp only [bs] at hg); first | exact hg | first | omega | (simp only [lens]; omega) | (simp only [Bool.cond_decide]; omega) | grind), (by intro hg; first | exact hg | skip; (try simp only [bs] at hg ⊢); first | exact hg | first | omega | (simp only [lens]; omega) | (simp only [Bool.cond_decide]; omega) | grind), (by intro hg; first | exact hg | skip; (try simp only [bs] at hg ⊢); first | exact hg | first | omega | (simp only [lens]; omega) | (simp only [Bool.cond_decide]; omega) | grind), (fun h => h), trivial⟩ ?_
  refine awp_ret ?_
  refine kRet.ret _ [] [] (.one (.bool ((decide (x < 0)) || (decide (m < x))))) [(1, .box 1 1 [(.int .i64 m)])] (by kernel_rfl) trivial ?_
  exact ⟨(by kernel_rfl), (by kernel_rfl)⟩

theorem gale_make2 (x : Int) : ACall Try.prog 120 [.one (.int .i64 x)] [] (fun ov oh => ov = .one (.bool (decide (0 < x))) ∧ oh = []) := by
  refine acall_intro hT Try.func120 rfl (by kernel_rfl) rfl (by kernel_rfl) ?_
  refine awp_run_seq [0] [] [] ⟨5, [(0, .one (.int .i64 x))], []⟩ hT (by kernel_rfl) trivial ?_
  refine awp_run_seq [2] [] [] ⟨5, [(2, .one (.bool (decide ((0 : Int) < x))))], []⟩ hT (by kernel_rfl) trivial ?_
  refine awp_ret ?_
  refine kRet.ret _ [] [] (.one (.bool (decide ((0 : Int) < x)))) [] (by kernel_rfl) trivial ?_
  exact ⟨congrArg (fun x1 => (.one (.bool x1) : AV)) (show (decide ((0 : Int) < x)) = (decide (0 < x)) from by rfl), rfl⟩

theorem ref_fill1 (x : Int) : ACall Try.prog 123 [.one (.int .i64 x)] [] (fun ov oh => ov = .one (.bool (decide (x ≠ 0))) ∧ oh = []) := by
  refine acall_intro hT Try.func123 rfl (by kernel_rfl) rfl (by kernel_rfl) ?_
  refine awp_run_seq [0] [] [] ⟨5, [(0, .one (.int .i64 x))], []⟩ hT (by kernel_rfl) trivial ?_
  refine awp_run_seq [2] [] [] ⟨5, [(2, .one (.bool (decide (x ≠ 0))))], []⟩ hT (by kernel_rfl) trivial ?_
  refine awp_ret ?_
  refine kRet.ret _ [] [] (.one (.bool (decide (x ≠ 0)))) [] (by kernel_rfl) trivial ?_
  exact ⟨rfl, rfl⟩

theorem gale_says1 (x : Int) : ACall Try.prog 50 [.one (.int .i64 x)] [] (fun ov oh => ov = .one (.bool (decide (x < 0) || decide (12 < x))) ∧ oh = []) := by
  refine acall_intro hT Try.func50 rfl (by kernel_rfl) rfl (by kernel_rfl) ?_
  refine awp_run_seq [0] [] [] ⟨9, [(0, .one (.int .i64 x))], []⟩ hT (by kernel_rfl) trivial ?_
  refine awp_run_seq [2] [] [((!(decide (x < 0))) = true → ((!(decide (x < 0))) = true → (!(decide (x < 0))) = true)), ((!(decide (x < 0))) = true → (!(decide (x < 0))) = true)] ⟨9, [(2, .one (.bool ((decide (x < 0)) || (decide ((12 : Int) < x)))))], []⟩ hT (by kernel_rfl) ⟨(by intro hg; first | exact hg | skip; (try simp only [bs] at hg ⊢); first | exact hg | first | omega | (simp only [lens]; omega) | (simp only [Bool.cond_decide]; omega) | grind), (fun h => h), trivial⟩ ?_
  refine awp_ret ?_
  refine kRet.ret _ [] [] (.one (.bool ((decide (x < 0)) || (decide ((12 : Int) < x))))) [] (by kernel_rfl) trivial ?_
  exact ⟨congrArg (fun x1 => (.one (.bool x1) : AV)) (show ((decide (x < 0)) || (decide ((12 : Int) < x))) = (decide (x < 0) || decide (12 < x)) from by rfl), rfl⟩

theorem sums_over (l : List Int) (m : Int) : ACall Try.prog 121 [.one (.ro (.ints .i64 l)), .one (.int .i64 m)] [] (fun ov oh => ov = .one (.bool (overB l m)) ∧ oh = []) := by
  refine acall_intro hT Try.func121 rfl (by kernel_rfl) rfl (by kernel_rfl) ?_
  refine awp_run_seq [0, 3] [103] [] ⟨8, [(0, .one (.ro (.ints .i64 l))), (3, .one (.ptr 103 0 0))], [(103, .box 1 1 [(.int .i64 m)])]⟩ hT (by kernel_rfl) trivial ?_
  refine awp_seq (awp_region ?_)
  refine aops_run 2 [5, 6] [103] [] ⟨8, [(5, .one (.ro (.ints .i64 l))), (6, .one (.fn 122 [(.ptr 103 0 0)]))], [(103, .box 1 1 [(.int .i64 m)])]⟩ hT (by kernel_rfl) (by kernel_rfl) trivial ?_
  refine aops_call [(1, 103)] [] false ⟨true, [], 23, [.one (.ro (.ints .i64 l)), .one (.fn 122 [(.ptr 1 0 0)])], [(1, .box 1 1 [(.int .i64 m)])]⟩ [.one (.ro (.ints .i64 l)), .one (.fn 122 [(.ptr 1 0 0)])] (sm := ⟨8, [(5, .one (.ro (.ints .i64 l))), (6, .one (.fn 122 [(.ptr 103 0 0)])), (7, .whn false (.one .any))], [(103, .box 1 1 [(.int .i64 m)])]⟩) (by kernel_rfl) (by kernel_rfl) (by decide) (fun _ => trivial) rfl (fun _ => hasf_ints_i 122 (fun x => decide (x < 0) || decide (m < x)) l m (fun x hx => sums_err11 m x)) (fun _ v Hr hv => ?_) (fun h => by cases h)
  obtain ⟨rfl, rfl⟩ := hv
  refine ⟨⟨8, [(5, .one (.ro (.ints .i64 l))), (6, .one (.fn 122 [(.ptr 103 0 0)])), (7, .one (.bool (List.any l (fun x => decide (x < 0) || decide (m < x)))))], [(103, .box 1 1 [(.int .i64 m)])]⟩, by kernel_rfl, ?_⟩
  refine aops_run 1 [4] [] [] ⟨8, [(4, .one (.bool (List.any l (fun x => decide (x < 0) || decide (m < x)))))], []⟩ hT (by kernel_rfl) (by kernel_rfl) trivial ?_
  refine aops_end_seq (by kernel_rfl) ?_
  refine awp_ret ?_
  refine kRet.ret _ [] [] (.one (.bool (List.any l (fun x => decide (x < 0) || decide (m < x))))) [] (by kernel_rfl) trivial ?_
  exact ⟨congrArg (fun x1 => (.one (.bool x1) : AV)) (show (List.any l (fun x => decide (x < 0) || decide (m < x))) = (overB l m) from by rfl), rfl⟩

theorem ref_sumsErr (rows cols : List Int) : ACall Try.prog 52 [.one (.ro (.ints .i64 rows)), .one (.ro (.ints .i64 cols))] [] (fun ov oh => ov = .one (.int .i64 (sumsErr rows cols)) ∧ oh = []) := by
  refine acall_intro hT Try.func52 rfl (by kernel_rfl) rfl (by kernel_rfl) ?_
  refine awp_run_seq [0, 1] [] [] ⟨24, [(0, .one (.ro (.ints .i64 rows))), (1, .one (.ro (.ints .i64 cols)))], []⟩ hT (by kernel_rfl) trivial ?_
  refine awp_seq ?_
  refine awp_run_seq [0, 1, 11] [] [] ⟨24, [(0, .one (.ro (.ints .i64 rows))), (1, .one (.ro (.ints .i64 cols))), (11, .one (.bool (decide ((12 : Int) < (max ((rows.length : Nat) : Int) ((cols.length : Nat) : Int))))))], []⟩ hT (by kernel_rfl) trivial ?_
  refine awp_cond (b := (decide ((12 : Int) < (max ((rows.length : Nat) : Int) ((cols.length : Nat) : Int))))) (by kernel_rfl) (fun c1 => ?_) (fun c1 => ?_)
  · -- yes 1
    try simp only [bs] at c1
    refine awp_run_seq [4] [] [] ⟨24, [(4, .one (.int .i64 2))], []⟩ hT (by kernel_rfl) trivial ?_
    refine awp_ret ?_
    refine kRet.ret _ [] [] (.one (.int .i64 2)) [] (by kernel_rfl) trivial ?_
    exact ⟨congrArg (fun x1 => (.one (.int .i64 x1) : AV)) (show 2 = (sumsErr rows cols) from by rw [sumsErr, if_pos (by omega)]), rfl⟩
  · -- no 1
    try simp only [bs] at c1
    refine awp_skip ?_
    refine awp_run_seq [0, 1, 5] [] [] ⟨24, [(0, .one (.ro (.ints .i64 rows))), (1, .one (.ro (.ints .i64 cols))), (5, .one (.fn 121 []))], []⟩ hT (by kernel_rfl) trivial ?_
    refine awp_seq ?_
    refine awp_seq (awp_region ?_)
    refine aops_run 4 [0, 1, 5, 12, 13, 15] [] [] ⟨24, [(0, .one (.ro (.ints .i64 rows))), (1, .one (.ro (.ints .i64 cols))), (5, .one (.fn 121 [])), (12, .one (.fn 121 [])), (13, .one (.ro (.ints .i64 rows))), (15, .one (.int .i64 ((cols.length : Nat) : Int)))], []⟩ hT (by kernel_rfl) (by kernel_rfl) trivial ?_
    refine aops_pure false ⟨true, [], 121, [.one (.ro (.ints .i64 rows)), .one (.int .i64 ((cols.length : Nat) : Int))], []⟩ [.one (.ro (.ints .i64 rows)), .one (.int .i64 ((cols.length : Nat) : Int))] (.one (.bool (overB rows ((cols.length : Nat) : Int)))) ⟨24, [(0, .one (.ro (.ints .i64 rows))), (1, .one (.ro (.ints .i64 cols))), (5, .one (.fn 121 [])), (12, .one (.fn 121 [])), (13, .one (.ro (.ints .i64 rows))), (15, .one (.int .i64 ((cols.length : Nat) : Int))), (16, .one (.bool (overB rows ((cols.length : Nat) : Int))))], []⟩ (by kernel_rfl) (by kernel_rfl) (fun _ => trivial) rfl (fun _ => sums_over rows ((cols.length : Nat) : Int)) ?_
    refine aops_run 5 [17, 18, 19, 21] [] [((!(overB rows ((cols.length : Nat) : Int))) = true → ((!(overB rows ((cols.length : Nat) : Int))) = true → (!(overB rows ((cols.length : Nat) : Int))) = true))] ⟨24, [(17, .one (.bool (overB rows ((cols.length : Nat) : Int)))), (18, .whn (!(overB rows ((cols.length : Nat) : Int))) (.one (.fn 121 []))), (19, .whn (!(overB rows ((cols.length : Nat) : Int))) (.one (.ro (.ints .i64 cols)))), (21, .whn (!(overB rows ((cols.length : Nat) : Int))) (.one (.int .i64 ((rows.length : Nat) : Int))))], []⟩ hT (by kernel_rfl) (by kernel_rfl) ⟨(by intro hg; first | exact hg | skip; (try simp only [bs] at hg ⊢); first | exact hg | first | omega | (simp only [lens]; omega) | (simp only [Bool.cond_decide]; omega) | grind), trivial⟩ ?_
    refine aops_pure false ⟨(!(overB rows ((cols.length : Nat) : Int))), [((!(overB rows ((cols.length : Nat) : Int))) = true → (!(overB rows ((cols.length : Nat) : Int))) = true), ((!(overB rows ((cols.length : Nat) : Int))) = true → (!(overB rows ((cols.length : Nat) : Int))) = true), ((!(overB rows ((cols.length : Nat) : Int))) = true → (!(overB rows ((cols.length : Nat) : Int))) = true)], 121, [.one (.ro (.ints .i64 cols)), .one (.int .i64 ((rows.length : Nat) : Int))], []⟩ [.one (.ro (.ints .i64 cols)), .one (.int .i64 ((rows.length : Nat) : Int))] (.one (.bool (overB cols ((rows.length : Nat) : Int)))) ⟨24, [(17, .one (.bool (overB rows ((cols.length : Nat) : Int)))), (18, .whn (!(overB rows ((cols.length : Nat) : Int))) (.one (.fn 121 []))), (19, .whn (!(overB rows ((cols.length : Nat) : Int))) (.one (.ro (.ints .i64 cols)))), (21, .whn (!(overB rows ((cols.length : Nat) : Int))) (.one (.int .i64 ((rows.length : Nat) : Int)))), (22, .whn (!(overB rows ((cols.length : Nat) : Int))) (.one (.bool (overB cols ((rows.length : Nat) : Int)))))], []⟩ (by kernel_rfl) (by kernel_rfl) (fun _ => ⟨(fun h => h), (fun h => h), (fun h => h), trivial⟩) rfl (fun _ => sums_over cols ((rows.length : Nat) : Int)) ?_
    refine aops_run 1 [23] [] [((!(overB rows ((cols.length : Nat) : Int))) = true → (!(overB rows ((cols.length : Nat) : Int))) = true)] ⟨24, [(23, .one (.bool ((overB rows ((cols.length : Nat) : Int)) || (overB cols ((rows.length : Nat) : Int)))))], []⟩ hT (by kernel_rfl) (by kernel_rfl) ⟨(fun h => h), trivial⟩ ?_
    refine aops_end_seq (by kernel_rfl) ?_
    refine awp_cond (b := ((overB rows ((cols.length : Nat) : Int)) || (overB cols ((rows.length : Nat) : Int)))) (by kernel_rfl) (fun c4 => ?_) (fun c4 => ?_)
    · -- yes 4
      try simp only [bs] at c4
      refine awp_run_seq [4] [] [] ⟨24, [(4, .one (.int .i64 1))], []⟩ hT (by kernel_rfl) trivial ?_
      refine awp_ret ?_
      refine kRet.ret _ [] [] (.one (.int .i64 1)) [] (by kernel_rfl) trivial ?_
      exact ⟨congrArg (fun x1 => (.one (.int .i64 x1) : AV)) (show 1 = (sumsErr rows cols) from by rw [sumsErr, if_neg (by omega), if_pos c4]), rfl⟩
    · -- no 4
      try simp only [bs] at c4
      refine awp_skip ?_
      refine awp_run_seq [4] [] [] ⟨24, [(4, .one (.int .i64 0))], []⟩ hT (by kernel_rfl) trivial ?_
      refine awp_ret ?_
      refine kRet.ret _ [] [] (.one (.int .i64 0)) [] (by kernel_rfl) trivial ?_
      exact ⟨congrArg (fun x1 => (.one (.int .i64 x1) : AV)) (show 0 = (sumsErr rows cols) from by rw [sumsErr, if_neg (by omega), if_neg (by rintro (q | q); rw [c4.1] at q; cases q; rw [c4.2] at q; cases q)]), rfl⟩

theorem gale_check (rows cols : List Int) : ACall Try.prog 53 [.one (.ro (.ints .i64 rows)), .one (.ro (.ints .i64 cols))] [] (fun ov oh => ov = .one (.int .i64 (sumsErr rows cols)) ∧ oh = []) := by
  refine acall_intro hT Try.func53 rfl (by kernel_rfl) rfl (by kernel_rfl) ?_
  refine awp_run_seq [0, 1] [] [] ⟨47, [(0, .one (.ro (.ints .i64 rows))), (1, .one (.ro (.ints .i64 cols)))], []⟩ hT (by kernel_rfl) trivial ?_
  refine awp_seq ?_
  refine awp_run_seq [0, 1, 16] [] [((!(decide ((12 : Int) < ((rows.length : Nat) : Int)))) = true → ((!(decide ((12 : Int) < ((rows.length : Nat) : Int)))) = true → (!(decide ((12 : Int) < ((rows.length : Nat) : Int)))) = true)), ((!(decide ((12 : Int) < ((rows.length : Nat) : Int)))) = true → ((!(decide ((12 : Int) < ((rows.length : Nat) : Int)))) = true → (!(decide ((12 : Int) < ((rows.length : Nat) : Int)))) = true)), ((!(decide ((12 : Int) < ((rows.length : Nat) : Int)))) = true → (!(decide ((12 : Int) < ((rows.length : Nat) : Int)))) = true)] ⟨47, [(0, .one (.ro (.ints .i64 rows))), (1, .one (.ro (.ints .i64 cols))), (16, .one (.bool ((decide ((12 : Int) < ((rows.length : Nat) : Int))) || (decide ((12 : Int) < ((cols.length : Nat) : Int))))))], []⟩ hT (by kernel_rfl) ⟨(by intro hg; first | exact hg | skip; (try simp only [bs] at hg ⊢); first | exact hg | first | omega | (simp only [lens]; omega) | (simp only [Bool.cond_decide]; omega) | grind), (by intro hg; first | exact hg | skip; (try simp only [bs] at hg ⊢); first | exact hg | first | omega | (simp only [lens]; omega) | (simp only [Bool.cond_decide]; omega) | grind), (fun h => h), trivial⟩ ?_
  refine awp_cond (b := ((decide ((12 : Int) < ((rows.length : Nat) : Int))) || (decide ((12 : Int) < ((cols.length : Nat) : Int))))) (by kernel_rfl) (fun c1 => ?_) (fun c1 => ?_)
  · -- yes 1
    try simp only [bs] at c1
    refine awp_run_seq [4] [] [] ⟨47, [(4, .one (.int .i64 2))], []⟩ hT (by kernel_rfl) trivial ?_
    refine awp_ret ?_
    refine kRet.ret _ [] [] (.one (.int .i64 2)) [] (by kernel_rfl) trivial ?_
    exact ⟨congrArg (fun x1 => (.one (.int .i64 x1) : AV)) (show 2 = (sumsErr rows cols) from by rw [sumsErr, if_pos (by omega)]), rfl⟩
  · -- no 1
    try simp only [bs] at c1
    refine awp_skip ?_
    refine awp_seq ?_
    refine awp_run_seq [0, 1, 17, 18, 19] [] [] ⟨47, [(0, .one (.ro (.ints .i64 rows))), (1, .one (.ro (.ints .i64 cols))), (17, .one (.ro (.ints .i64 rows))), (18, .one (.int .i64 ((rows.length : Nat) : Int))), (19, .one (.int .i64 0))], []⟩ hT (by kernel_rfl) trivial ?_
    refine awp_block ?_
    refine awp_loop (I := fun κ σ => ∃ (i : Nat), ((i ≤ rows.length) ∧ (overB (rows.drop i) cols.length = overB rows cols.length) ∧ rows.length - i = κ) ∧ σ = ⟨47, [(0, .one (.ro (.ints .i64 rows))), (1, .one (.ro (.ints .i64 cols))), (17, .one (.ro (.ints .i64 rows))), (18, .one (.int .i64 ((rows.length : Nat) : Int))), (19, .one (.int .i64 ((i : Nat) : Int)))], []⟩) _ ⟨0, ⟨(by omega), (by rfl), rfl⟩, (by kernel_rfl)⟩ ?_
    rintro κ _ ⟨i, ⟨hi, h1, rfl⟩, rfl⟩
    refine awp_run_seq [0, 1, 17, 18, 19, 20] [] [] ⟨47, [(0, .one (.ro (.ints .i64 rows))), (1, .one (.ro (.ints .i64 cols))), (17, .one (.ro (.ints .i64 rows))), (18, .one (.int .i64 ((rows.length : Nat) : Int))), (19, .one (.int .i64 ((i : Nat) : Int))), (20, .one (.bool (decide (((i : Nat) : Int) < ((rows.length : Nat) : Int)))))], []⟩ hT (by kernel_rfl) trivial ?_
    refine awp_seq ?_
    refine awp_cond (b := (decide (((i : Nat) : Int) < ((rows.length : Nat) : Int)))) (by kernel_rfl) (fun c4 => ?_) (fun c4 => ?_)
    · -- yes 4
      try simp only [bs] at c4
      have hil : i < rows.length := by omega
      have hod := overB_drop (m := cols.length) hil
      rw [h1] at hod
      refine awp_skip ?_
      refine awp_seq ?_
      refine awp_block ?_
      refine awp_run_seq [0, 1, 6, 17, 18, 19] [] [((0 : Int) ≤ ((i : Nat) : Int)), (((i : Nat) : Int) < ((rows.length : Nat) : Int))] ⟨47, [(0, .one (.ro (.ints .i64 rows))), (1, .one (.ro (.ints .i64 cols))), (6, .one (.int .i64 (List.getD rows i 0))), (17, .one (.ro (.ints .i64 rows))), (18, .one (.int .i64 ((rows.length : Nat) : Int))), (19, .one (.int .i64 ((i : Nat) : Int)))], []⟩ hT (by kernel_rfl) ⟨(by first | omega | (simp only [lens]; omega) | (simp only [Bool.cond_decide]; omega)), (by first | omega | (simp only [lens]; omega) | (simp only [Bool.cond_decide]; omega)), trivial⟩ ?_
      refine awp_run_seq [0, 1, 17, 18, 19, 30] [] [((!(decide ((List.getD rows i 0) < 0))) = true → ((!(decide ((List.getD rows i 0) < 0))) = true → (!(decide ((List.getD rows i 0) < 0))) = true)), ((!(decide ((List.getD rows i 0) < 0))) = true → ((!(decide ((List.getD rows i 0) < 0))) = true → (!(decide ((List.getD rows i 0) < 0))) = true)), ((!(decide ((List.getD rows i 0) < 0))) = true → ((!(decide ((List.getD rows i 0) < 0))) = true → (!(decide ((List.getD rows i 0) < 0))) = true)), ((!(decide ((List.getD rows i 0) < 0))) = true → (!(decide ((List.getD rows i 0) < 0))) = true)] ⟨47, [(0, .one (.ro (.ints .i64 rows))), (1, .one (.ro (.ints .i64 cols))), (17, .one (.ro (.ints .i64 rows))), (18, .one (.int .i64 ((rows.length : Nat) : Int))), (19, .one (.int .i64 ((i : Nat) : Int))), (30, .one (.bool ((decide ((List.getD rows i 0) < 0)) || (decide (((cols.length : Nat) : Int) < (List.getD rows i 0))))))], []⟩ hT (by kernel_rfl) ⟨(by intro hg; first | exact hg | skip; (try simp only [bs] at hg ⊢); first | exact hg | first | omega | (simp only [lens]; omega) | (simp only [Bool.cond_decide]; omega) | grind), (by intro hg; first | exact hg | skip; (try simp only [bs] at hg ⊢); first | exact hg | first | omega | (simp only [lens]; omega) | (simp only [Bool.cond_decide]; omega) | grind), (by intro hg; first | exact hg | skip; (try simp only [bs] at hg ⊢); first | exact hg | first | omega | (simp only [lens]; omega) | (simp only [Bool.cond_decide]; omega) | grind), (fun h => h), trivial⟩ ?_
      refine awp_cond (b := ((decide ((List.getD rows i 0) < 0)) || (decide (((cols.length : Nat) : Int) < (List.getD rows i 0))))) (by kernel_rfl) (fun c6 => ?_) (fun c6 => ?_)
      · -- yes 6
        try simp only [bs] at c6
        have hov : overB rows cols.length = true := by rw [hod]; simp only [bs]; omega
        refine awp_run_seq [4] [] [] ⟨47, [(4, .one (.int .i64 1))], []⟩ hT (by kernel_rfl) trivial ?_
        refine awp_ret ?_
        refine kRet.ret _ [] [] (.one (.int .i64 1)) [] (by kernel_rfl) trivial ?_
        exact ⟨congrArg (fun x1 => (.one (.int .i64 x1) : AV)) (show 1 = (sumsErr rows cols) from by rw [sumsErr, if_neg (by omega), if_pos (.inl hov)]), rfl⟩
      · -- no 6
        try simp only [bs] at c6
        have hst : overB (rows.drop (i + 1)) cols.length = overB rows cols.length := by rw [hod, show decide (rows.getD i 0 < 0) = false from decide_eq_false (by omega), show decide ((cols.length : Int) < rows.getD i 0) = false from decide_eq_false (by omega)]; rfl
        refine awp_skip ?_
        refine awp_run [0, 1, 17, 18, 19] [] [(-9223372036854775808 ≤ (((i + 1) : Nat) : Int) ∧ (((i + 1) : Nat) : Int) ≤ 9223372036854775807)] ⟨47, [(0, .one (.ro (.ints .i64 rows))), (1, .one (.ro (.ints .i64 cols))), (17, .one (.ro (.ints .i64 rows))), (18, .one (.int .i64 ((rows.length : Nat) : Int))), (19, .one (.int .i64 (((i + 1) : Nat) : Int)))], []⟩ hT (by kernel_rfl) ⟨(by first | omega | (simp only [lens]; omega) | (simp only [Bool.cond_decide]; omega)), trivial⟩ ?_
        refine loop_end _ ?_ ⟨(i + 1), ⟨(by omega), (by exact hst), rfl⟩, (by kernel_rfl)⟩
        omega
    · -- no 4
      try simp only [bs] at c4
      have hr0 : overB rows cols.length = false := by rw [← h1]; exact overB_end (by omega)
      refine awp_exit ?_
      refine awp_seq ?_
      refine awp_run_seq [0, 32, 33, 34] [] [] ⟨47, [(0, .one (.ro (.ints .i64 rows))), (32, .one (.ro (.ints .i64 cols))), (33, .one (.int .i64 ((cols.length : Nat) : Int))), (34, .one (.int .i64 0))], []⟩ hT (by kernel_rfl) trivial ?_
      refine awp_block ?_
      refine awp_loop (I := fun κ σ => ∃ (i : Nat), ((i ≤ cols.length) ∧ (overB (cols.drop i) rows.length = overB cols rows.length) ∧ cols.length - i = κ) ∧ σ = ⟨47, [(0, .one (.ro (.ints .i64 rows))), (32, .one (.ro (.ints .i64 cols))), (33, .one (.int .i64 ((cols.length : Nat) : Int))), (34, .one (.int .i64 ((i : Nat) : Int)))], []⟩) _ ⟨0, ⟨(by omega), (by rfl), rfl⟩, (by kernel_rfl)⟩ ?_
      rintro κ _ ⟨i, ⟨hi, h2, rfl⟩, rfl⟩
      refine awp_run_seq [0, 32, 33, 34, 35] [] [] ⟨47, [(0, .one (.ro (.ints .i64 rows))), (32, .one (.ro (.ints .i64 cols))), (33, .one (.int .i64 ((cols.length : Nat) : Int))), (34, .one (.int .i64 ((i : Nat) : Int))), (35, .one (.bool (decide (((i : Nat) : Int) < ((cols.length : Nat) : Int)))))], []⟩ hT (by kernel_rfl) trivial ?_
      refine awp_seq ?_
      refine awp_cond (b := (decide (((i : Nat) : Int) < ((cols.length : Nat) : Int)))) (by kernel_rfl) (fun c10 => ?_) (fun c10 => ?_)
      · -- yes 10
        try simp only [bs] at c10
        have hil : i < cols.length := by omega
        have hod := overB_drop (m := rows.length) hil
        rw [h2] at hod
        refine awp_skip ?_
        refine awp_seq ?_
        refine awp_block ?_
        refine awp_run_seq [0, 8, 32, 33, 34] [] [((0 : Int) ≤ ((i : Nat) : Int)), (((i : Nat) : Int) < ((cols.length : Nat) : Int))] ⟨47, [(0, .one (.ro (.ints .i64 rows))), (8, .one (.int .i64 (List.getD cols i 0))), (32, .one (.ro (.ints .i64 cols))), (33, .one (.int .i64 ((cols.length : Nat) : Int))), (34, .one (.int .i64 ((i : Nat) : Int)))], []⟩ hT (by kernel_rfl) ⟨(by first | omega | (simp only [lens]; omega) | (simp only [Bool.cond_decide]; omega)), (by first | omega | (simp only [lens]; omega) | (simp only [Bool.cond_decide]; omega)), trivial⟩ ?_
        refine awp_run_seq [0, 32, 33, 34, 45] [] [((!(decide ((List.getD cols i 0) < 0))) = true → ((!(decide ((List.getD cols i 0) < 0))) = true → (!(decide ((List.getD cols i 0) < 0))) = true)), ((!(decide ((List.getD cols i 0) < 0))) = true → ((!(decide ((List.getD cols i 0) < 0))) = true → (!(decide ((List.getD cols i 0) < 0))) = true)), ((!(decide ((List.getD cols i 0) < 0))) = true → ((!(decide ((List.getD cols i 0) < 0))) = true → (!(decide ((List.getD cols i 0) < 0))) = true)), ((!(decide ((List.getD cols i 0) < 0))) = true → (!(decide ((List.getD cols i 0) < 0))) = true)] ⟨47, [(0, .one (.ro (.ints .i64 rows))), (32, .one (.ro (.ints .i64 cols))), (33, .one (.int .i64 ((cols.length : Nat) : Int))), (34, .one (.int .i64 ((i : Nat) : Int))), (45, .one (.bool ((decide ((List.getD cols i 0) < 0)) || (decide (((rows.length : Nat) : Int) < (List.getD cols i 0))))))], []⟩ hT (by kernel_rfl) ⟨(by intro hg; first | exact hg | skip; (try simp only [bs] at hg ⊢); first | exact hg | first | omega | (simp only [lens]; omega) | (simp only [Bool.cond_decide]; omega) | grind), (by intro hg; first | exact hg | skip; (try simp only [bs] at hg ⊢); first | exact hg | first | omega | (simp only [lens]; omega) | (simp only [Bool.cond_decide]; omega) | grind), (by intro hg; first | exact hg | skip; (try simp only [bs] at hg ⊢); first | exact hg | first | omega | (simp only [lens]; omega) | (simp only [Bool.cond_decide]; omega) | grind), (fun h => h), trivial⟩ ?_
        refine awp_cond (b := ((decide ((List.getD cols i 0) < 0)) || (decide (((rows.length : Nat) : Int) < (List.getD cols i 0))))) (by kernel_rfl) (fun c12 => ?_) (fun c12 => ?_)
        · -- yes 12
          try simp only [bs] at c12
          have hov : overB cols rows.length = true := by rw [hod]; simp only [bs]; omega
          refine awp_run_seq [4] [] [] ⟨47, [(4, .one (.int .i64 1))], []⟩ hT (by kernel_rfl) trivial ?_
          refine awp_ret ?_
          refine kRet.ret _ [] [] (.one (.int .i64 1)) [] (by kernel_rfl) trivial ?_
          exact ⟨congrArg (fun x1 => (.one (.int .i64 x1) : AV)) (show 1 = (sumsErr rows cols) from by rw [sumsErr, if_neg (by omega), if_pos (.inr hov)]), rfl⟩
        · -- no 12
          try simp only [bs] at c12
          have hst : overB (cols.drop (i + 1)) rows.length = overB cols rows.length := by rw [hod, show decide (cols.getD i 0 < 0) = false from decide_eq_false (by omega), show decide ((rows.length : Int) < cols.getD i 0) = false from decide_eq_false (by omega)]; rfl
          refine awp_skip ?_
          refine awp_run [0, 32, 33, 34] [] [(-9223372036854775808 ≤ (((i + 1) : Nat) : Int) ∧ (((i + 1) : Nat) : Int) ≤ 9223372036854775807)] ⟨47, [(0, .one (.ro (.ints .i64 rows))), (32, .one (.ro (.ints .i64 cols))), (33, .one (.int .i64 ((cols.length : Nat) : Int))), (34, .one (.int .i64 (((i + 1) : Nat) : Int)))], []⟩ hT (by kernel_rfl) ⟨(by first | omega | (simp only [lens]; omega) | (simp only [Bool.cond_decide]; omega)), trivial⟩ ?_
          refine loop_end _ ?_ ⟨(i + 1), ⟨(by omega), (by exact hst), rfl⟩, (by kernel_rfl)⟩
          omega
      · -- no 10
        try simp only [bs] at c10
        have hc0 : overB cols rows.length = false := by rw [← h2]; exact overB_end (by omega)
        refine awp_exit ?_
        refine awp_run_seq [4] [] [] ⟨47, [(4, .one (.int .i64 0))], []⟩ hT (by kernel_rfl) trivial ?_
        refine awp_ret ?_
        refine kRet.ret _ [] [] (.one (.int .i64 0)) [] (by kernel_rfl) trivial ?_
        exact ⟨congrArg (fun x1 => (.one (.int .i64 x1) : AV)) (show 0 = (sumsErr rows cols) from by rw [sumsErr, if_neg (by omega), if_neg (by rintro (q | q); rw [hr0] at q; cases q; rw [hc0] at q; cases q)]), rfl⟩

theorem gale_turned (l : List Int) : ACall Try.prog 48 [.one (.ro (.ints .i64 l))] [] (fun ov oh => ov = .tup [(false, [(.ro (.ints .i64 (okL (turnErr l) (turned l))))]), (false, [(.int .i64 (turnErr l))])] ∧ oh = []) := by
  refine acall_intro hT Try.func48 rfl (by kernel_rfl) rfl (by kernel_rfl) ?_
  refine awp_run_seq [0] [] [] ⟨55, [(0, .one (.ro (.ints .i64 l)))], []⟩ hT (by kernel_rfl) trivial ?_
  refine awp_seq ?_
  refine awp_run_seq [0, 13] [] [] ⟨55, [(0, .one (.ro (.ints .i64 l))), (13, .one (.bool (decide ((12 : Int) < ((l.length : Nat) : Int)))))], []⟩ hT (by kernel_rfl) trivial ?_
  refine awp_cond (b := (decide ((12 : Int) < ((l.length : Nat) : Int)))) (by kernel_rfl) (fun c1 => ?_) (fun c1 => ?_)
  · -- yes 1
    try simp only [bs] at c1
    have hE : turnErr l = 2 := by rw [turnErr, if_pos (by omega)]
    refine awp_run_seq [2, 3] [] [] ⟨55, [(2, .one .nils), (3, .one (.int .i64 2))], []⟩ hT (by kernel_rfl) trivial ?_
    refine awp_weak (awk_slot 2 (.one .nils) (.one (.ro (.ints .i64 []))) _ (by kernel_rfl) (.one (wkv_nil0 rfl))) ?_
    refine awp_ret ?_
    refine kRet.ret _ [] [] (.tup [(false, [(.ro (.ints .i64 []))]), (false, [(.int .i64 2)])]) [] (by kernel_rfl) trivial ?_
    exact ⟨by first | rw [show (okL (turnErr l) (turned l)) = [] from Eq.symm (by first | exact hE.symm | exact (okL_no _ (by omega)).symm), show (turnErr l) = 2 from Eq.symm (by first | exact hE.symm | exact (okL_no _ (by omega)).symm)] | rw [show (okL (turnErr l) (turned l)) = [] from Eq.symm (by first | exact hE.symm | exact (okL_no _ (by omega)).symm)] | rw [show (turnErr l) = 2 from Eq.symm (by first | exact hE.symm | exact (okL_no _ (by omega)).symm)], rfl⟩
  · -- no 1
    try simp only [bs] at c1
    refine awp_skip ?_
    refine awp_run_seq [0, 4] [] [] ⟨55, [(0, .one (.ro (.ints .i64 l))), (4, .one (.int .i64 0))], []⟩ hT (by kernel_rfl) trivial ?_
    refine awp_seq ?_
    refine awp_run_seq [0, 4, 14, 15, 16] [] [] ⟨55, [(0, .one (.ro (.ints .i64 l))), (4, .one (.int .i64 0)), (14, .one (.ro (.ints .i64 l))), (15, .one (.int .i64 ((l.length : Nat) : Int))), (16, .one (.int .i64 0))], []⟩ hT (by kernel_rfl) trivial ?_
    refine awp_block ?_
    refine awp_loop (I := fun κ σ => ∃ (i : Nat) (m : Int), ((i ≤ l.length) ∧ (overB (l.drop i) 12 = overB l 12) ∧ (m = topOf (l.take i)) ∧ (0 ≤ m ∧ m ≤ 12) ∧ l.length - i = κ) ∧ σ = ⟨55, [(0, .one (.ro (.ints .i64 l))), (4, .one (.int .i64 m)), (14, .one (.ro (.ints .i64 l))), (15, .one (.int .i64 ((l.length : Nat) : Int))), (16, .one (.int .i64 ((i : Nat) : Int)))], []⟩) _ ⟨0, 0, ⟨(by omega), (by rfl), (by rfl), (by omega), rfl⟩, (by kernel_rfl)⟩ ?_
    rintro κ _ ⟨i, m, ⟨hi, h1, hm, hmb, rfl⟩, rfl⟩
    refine awp_run_seq [0, 4, 14, 15, 16, 17] [] [] ⟨55, [(0, .one (.ro (.ints .i64 l))), (4, .one (.int .i64 m)), (14, .one (.ro (.ints .i64 l))), (15, .one (.int .i64 ((l.length : Nat) : Int))), (16, .one (.int .i64 ((i : Nat) : Int))), (17, .one (.bool (decide (((i : Nat) : Int) < ((l.length : Nat) : Int)))))], []⟩ hT (by kernel_rfl) trivial ?_
    refine awp_seq ?_
    refine awp_cond (b := (decide (((i : Nat) : Int) < ((l.length : Nat) : Int)))) (by kernel_rfl) (fun c5 => ?_) (fun c5 => ?_)
    · -- yes 5
      try simp only [bs] at c5
      have hil : i < l.length := by omega
      have hod := overB_drop (m := 12) hil
      rw [h1] at hod
      have htt := top_take hil
      refine awp_skip ?_
      refine awp_seq ?_
      refine awp_block ?_
      refine awp_run_seq [0, 4, 6, 14, 15, 16] [] [((0 : Int) ≤ ((i : Nat) : Int)), (((i : Nat) : Int) < ((l.length : Nat) : Int))] ⟨55, [(0, .one (.ro (.ints .i64 l))), (4, .one (.int .i64 m)), (6, .one (.int .i64 (List.getD l i 0))), (14, .one (.ro (.ints .i64 l))), (15, .one (.int .i64 ((l.length : Nat) : Int))), (16, .one (.int .i64 ((i : Nat) : Int)))], []⟩ hT (by kernel_rfl) ⟨(by first | omega | (simp only [lens]; omega) | (simp only [Bool.cond_decide]; omega)), (by first | omega | (simp only [lens]; omega) | (simp only [Bool.cond_decide]; omega)), trivial⟩ ?_
      refine awp_seq ?_
      refine awp_run_seq [0, 4, 6, 14, 15, 16, 25] [] [((!(decide ((List.getD l i 0) < 0))) = true → ((!(decide ((List.getD l i 0) < 0))) = true → (!(decide ((List.getD l i 0) < 0))) = true)), ((!(decide ((List.getD l i 0) < 0))) = true → (!(decide ((List.getD l i 0) < 0))) = true)] ⟨55, [(0, .one (.ro (.ints .i64 l))), (4, .one (.int .i64 m)), (6, .one (.int .i64 (List.getD l i 0))), (14, .one (.ro (.ints .i64 l))), (15, .one (.int .i64 ((l.length : Nat) : Int))), (16, .one (.int .i64 ((i : Nat) : Int))), (25, .one (.bool ((decide ((List.getD l i 0) < 0)) || (decide ((12 : Int) < (List.getD l i 0))))))], []⟩ hT (by kernel_rfl) ⟨(by intro hg; first | exact hg | skip; (try simp only [bs] at hg ⊢); first | exact hg | first | omega | (simp only [lens]; omega) | (simp only [Bool.cond_decide]; omega) | grind), (fun h => h), trivial⟩ ?_
      refine awp_cond (b := ((decide ((List.getD l i 0) < 0)) || (decide ((12 : Int) < (List.getD l i 0))))) (by kernel_rfl) (fun c7 => ?_) (fun c7 => ?_)
      · -- yes 7
        try simp only [bs] at c7
        have hov : overB l 12 = true := by rw [hod]; simp only [bs]; omega
        have hE : turnErr l = 1 := by rw [turnErr, if_neg (by omega), if_pos hov]
        refine awp_run_seq [2, 3] [] [] ⟨55, [(2, .one .nils), (3, .one (.int .i64 1))], []⟩ hT (by kernel_rfl) trivial ?_
        refine awp_weak (awk_slot 2 (.one .nils) (.one (.ro (.ints .i64 []))) _ (by kernel_rfl) (.one (wkv_nil0 rfl))) ?_
        refine awp_ret ?_
        refine kRet.ret _ [] [] (.tup [(false, [(.ro (.ints .i64 []))]), (false, [(.int .i64 1)])]) [] (by kernel_rfl) trivial ?_
        exact ⟨by first | rw [show (okL (turnErr l) (turned l)) = [] from Eq.symm (by first | exact hE.symm | exact (okL_no _ (by omega)).symm), show (turnErr l) = 1 from Eq.symm (by first | exact hE.symm | exact (okL_no _ (by omega)).symm)] | rw [show (okL (turnErr l) (turned l)) = [] from Eq.symm (by first | exact hE.symm | exact (okL_no _ (by omega)).symm)] | rw [show (turnErr l) = 1 from Eq.symm (by first | exact hE.symm | exact (okL_no _ (by omega)).symm)], rfl⟩
      · -- no 7
        try simp only [bs] at c7
        have hst : overB (l.drop (i + 1)) 12 = overB l 12 := by rw [hod, show decide (l.getD i 0 < 0) = false from decide_eq_false (by omega), show decide ((12 : Int) < l.getD i 0) = false from decide_eq_false (by omega)]; rfl
        refine awp_skip ?_
        refine awp_run [0, 4, 14, 15, 16] [] [] ⟨55, [(0, .one (.ro (.ints .i64 l))), (4, .one (.int .i64 (max m (List.getD l i 0)))), (14, .one (.ro (.ints .i64 l))), (15, .one (.int .i64 ((l.length : Nat) : Int))), (16, .one (.int .i64 ((i : Nat) : Int)))], []⟩ hT (by kernel_rfl) trivial ?_
        refine awp_run [0, 4, 14, 15, 16] [] [(-9223372036854775808 ≤ (((i + 1) : Nat) : Int) ∧ (((i + 1) : Nat) : Int) ≤ 9223372036854775807)] ⟨55, [(0, .one (.ro (.ints .i64 l))), (4, .one (.int .i64 (max m (List.getD l i 0)))), (14, .one (.ro (.ints .i64 l))), (15, .one (.int .i64 ((l.length : Nat) : Int))), (16, .one (.int .i64 (((i + 1) : Nat) : Int)))], []⟩ hT (by kernel_rfl) ⟨(by first | omega | (simp only [lens]; omega) | (simp only [Bool.cond_decide]; omega)), trivial⟩ ?_
        refine loop_end _ ?_ ⟨(i + 1), (max m (List.getD l i 0)), ⟨(by omega), (by exact hst), (by rw [htt, hm]), (by omega), rfl⟩, (by kernel_rfl)⟩
        omega
    · -- no 5
      try simp only [bs] at c5
      have hr0 : overB l 12 = false := by rw [← h1]; exact overB_end (by omega)
      have hE : turnErr l = 0 := by rw [turnErr, if_neg (by omega), if_neg (by rw [hr0]; decide)]
      have hme : m = topOf l := by rw [hm, List.take_of_length_le (by omega)]
      have htl := turned_len l
      refine awp_exit ?_
      refine awp_run_seq [0, 7] [131] [((0 : Int) ≤ m), (m ≤ m), ((8 : Int) * m ≤ 281474976710656), (m ≤ 9223372036854775807)] ⟨55, [(0, .one (.ro (.ints .i64 l))), (7, .one (.rw 131 0 (Int.toNat m)))], [(131, .flat (.ints .i64 (List.replicate (Int.toNat m) (0 : Int))))]⟩ hT (by kernel_rfl) ⟨(by first | omega | (simp only [lens]; omega) | (simp only [Bool.cond_decide]; omega)), (by first | omega | (simp only [lens]; omega) | (simp only [Bool.cond_decide]; omega)), (by first | omega | (simp only [lens]; omega) | (simp only [Bool.cond_decide]; omega)), (by first | omega | (simp only [lens]; omega) | (simp only [Bool.cond_decide]; omega)), trivial⟩ ?_
      refine awp_seq ?_
      refine awp_run_seq [0, 7, 33, 34] [131] [] ⟨55, [(0, .one (.ro (.ints .i64 l))), (7, .one (.rw 131 0 (Int.toNat m))), (33, .one (.int .i64 (((Int.toNat m) : Nat) : Int))), (34, .one (.int .i64 0))], [(131, .flat (.ints .i64 (List.replicate (Int.toNat m) (0 : Int))))]⟩ hT (by kernel_rfl) trivial ?_
      refine awp_block ?_
      refine awp_loop (I := fun κ σ => ∃ (k : Nat) (o : List Int), ((k ≤ (topOf l).toNat) ∧ (o.length = (topOf l).toNat ∧ (∀ j : Nat, j < k → o.getD j 0 = cntOver l j) ∧ ∀ j : Nat, k ≤ j → o.getD j 0 = 0) ∧ (topOf l).toNat - k = κ) ∧ σ = ⟨55, [(0, .one (.ro (.ints .i64 l))), (7, .one (.rw 131 0 (Int.toNat m))), (33, .one (.int .i64 (((Int.toNat m) : Nat) : Int))), (34, .one (.int .i64 ((k : Nat) : Int)))], [(131, .flat (.ints .i64 o))]⟩) _ ⟨0, (List.replicate (Int.toNat m) (0 : Int)), ⟨(by omega), (by exact ⟨by rw [List.length_replicate, hme], fun j hj => by omega, fun j _ => getD_rep _ _⟩), rfl⟩, (by kernel_rfl)⟩ ?_
      rintro κ _ ⟨k, o, ⟨hk, ho, rfl⟩, rfl⟩
      have hol := ho.1
      refine awp_run_seq [0, 7, 33, 34, 35] [131] [] ⟨55, [(0, .one (.ro (.ints .i64 l))), (7, .one (.rw 131 0 (Int.toNat m))), (33, .one (.int .i64 (((Int.toNat m) : Nat) : Int))), (34, .one (.int .i64 ((k : Nat) : Int))), (35, .one (.bool (decide (((k : Nat) : Int) < (((Int.toNat m) : Nat) : Int)))))], [(131, .flat (.ints .i64 o))]⟩ hT (by kernel_rfl) trivial ?_
      refine awp_seq ?_
      refine awp_cond (b := (decide (((k : Nat) : Int) < (((Int.toNat m) : Nat) : Int)))) (by kernel_rfl) (fun c13 => ?_) (fun c13 => ?_)
      · -- yes 13
        try simp only [bs] at c13
        have hkl : k < (topOf l).toNat := by omega
        refine awp_skip ?_
        refine awp_seq ?_
        refine awp_block ?_
        refine awp_run_seq [0, 7, 8, 33, 34] [131] [] ⟨55, [(0, .one (.ro (.ints .i64 l))), (7, .one (.rw 131 0 (Int.toNat m))), (8, .one (.int .i64 ((k : Nat) : Int))), (33, .one (.int .i64 (((Int.toNat m) : Nat) : Int))), (34, .one (.int .i64 ((k : Nat) : Int)))], [(131, .flat (.ints .i64 o))]⟩ hT (by kernel_rfl) trivial ?_
        refine awp_run_seq [0, 7, 8, 33, 34, 37, 38, 39] [131] [] ⟨55, [(0, .one (.ro (.ints .i64 l))), (7, .one (.rw 131 0 (Int.toNat m))), (8, .one (.int .i64 ((k : Nat) : Int))), (33, .one (.int .i64 (((Int.toNat m) : Nat) : Int))), (34, .one (.int .i64 ((k : Nat) : Int))), (37, .one (.ro (.ints .i64 l))), (38, .one (.int .i64 ((l.length : Nat) : Int))), (39, .one (.int .i64 0))], [(131, .flat (.ints .i64 o))]⟩ hT (by kernel_rfl) trivial ?_
        refine awp_block ?_
        refine awp_loop (I := fun κ σ => ∃ (i : Nat) (u : List Int), ((i ≤ l.length) ∧ (u = o.set k (cntOver (l.take i) k)) ∧ l.length - i = κ) ∧ σ = ⟨55, [(0, .one (.ro (.ints .i64 l))), (7, .one (.rw 131 0 (Int.toNat m))), (8, .one (.int .i64 ((k : Nat) : Int))), (33, .one (.int .i64 (((Int.toNat m) : Nat) : Int))), (34, .one (.int .i64 ((k : Nat) : Int))), (37, .one (.ro (.ints .i64 l))), (38, .one (.int .i64 ((l.length : Nat) : Int))), (39, .one (.int .i64 ((i : Nat) : Int)))], [(131, .flat (.ints .i64 u))]⟩) _ ⟨0, o, ⟨(by omega), (by exact set_zero ho (by omega)), rfl⟩, (by kernel_rfl)⟩ ?_
        rintro κ _ ⟨i, u, ⟨hi, hu, rfl⟩, rfl⟩
        have hcb := cnt_le (l.take i) k
        have hul : u.length = (topOf l).toNat := by rw [hu, List.length_set]; exact hol
        have huk : u.getD k 0 = cntOver (l.take i) k := by rw [hu, getD_set_self _ _ _ _ (by omega)]
        have htk : (l.take i).length = i := by rw [List.length_take]; omega
        refine awp_run_seq [0, 7, 8, 33, 34, 37, 38, 39, 40] [131] [] ⟨55, [(0, .one (.ro (.ints .i64 l))), (7, .one (.rw 131 0 (Int.toNat m))), (8, .one (.int .i64 ((k : Nat) : Int))), (33, .one (.int .i64 (((Int.toNat m) : Nat) : Int))), (34, .one (.int .i64 ((k : Nat) : Int))), (37, .one (.ro (.ints .i64 l))), (38, .one (.int .i64 ((l.length : Nat) : Int))), (39, .one (.int .i64 ((i : Nat) : Int))), (40, .one (.bool (decide (((i : Nat) : Int) < ((l.length : Nat) : Int)))))], [(131, .flat (.ints .i64 u))]⟩ hT (by kernel_rfl) trivial ?_
        refine awp_seq ?_
        refine awp_cond (b := (decide (((i : Nat) : Int) < ((l.length : Nat) : Int)))) (by kernel_rfl) (fun c16 => ?_) (fun c16 => ?_)
        · -- yes 16
          try simp only [bs] at c16
          have hil : i < l.length := by omega
          have hct := cnt_take (k := (k : Int)) hil
          refine awp_skip ?_
          refine awp_seq ?_
          refine awp_block ?_
          refine awp_run_seq [0, 7, 8, 10, 33, 34, 37, 38, 39] [131] [((0 : Int) ≤ ((i : Nat) : Int)), (((i : Nat) : Int) < ((l.length : Nat) : Int))] ⟨55, [(0, .one (.ro (.ints .i64 l))), (7, .one (.rw 131 0 (Int.toNat m))), (8, .one (.int .i64 ((k : Nat) : Int))), (10, .one (.int .i64 (List.getD l i 0))), (33, .one (.int .i64 (((Int.toNat m) : Nat) : Int))), (34, .one (.int .i64 ((k : Nat) : Int))), (37, .one (.ro (.ints .i64 l))), (38, .one (.int .i64 ((l.length : Nat) : Int))), (39, .one (.int .i64 ((i : Nat) : Int)))], [(131, .flat (.ints .i64 u))]⟩ hT (by kernel_rfl) ⟨(by first | omega | (simp only [lens]; omega) | (simp only [Bool.cond_decide]; omega)), (by first | omega | (simp only [lens]; omega) | (simp only [Bool.cond_decide]; omega)), trivial⟩ ?_
          refine awp_run_seq [0, 7, 8, 33, 34, 37, 38, 39, 45] [131] [] ⟨55, [(0, .one (.ro (.ints .i64 l))), (7, .one (.rw 131 0 (Int.toNat m))), (8, .one (.int .i64 ((k : Nat) : Int))), (33, .one (.int .i64 (((Int.toNat m) : Nat) : Int))), (34, .one (.int .i64 ((k : Nat) : Int))), (37, .one (.ro (.ints .i64 l))), (38, .one (.int .i64 ((l.length : Nat) : Int))), (39, .one (.int .i64 ((i : Nat) : Int))), (45, .one (.bool (decide (((k : Nat) : Int) < (List.getD l i 0)))))], [(131, .flat (.ints .i64 u))]⟩ hT (by kernel_rfl) trivial ?_
          refine awp_cond (b := (decide (((k : Nat) : Int) < (List.getD l i 0)))) (by kernel_rfl) (fun c18 => ?_) (fun c18 => ?_)
          · -- yes 18
            try simp only [bs] at c18
            have hu2 : List.set u k ((List.getD u k 0) + 1) = o.set k (cntOver (l.take (i + 1)) k) := by rw [huk, hct, if_pos c18, hu, List.set_set]
            refine awp_run [0, 7, 8, 33, 34, 37, 38, 39] [131] [((0 : Int) ≤ ((k : Nat) : Int)), (((k : Nat) : Int) < (((Int.toNat m) : Nat) : Int)), (k < u.length), (-9223372036854775808 ≤ ((List.getD u k 0) + 1) ∧ ((List.getD u k 0) + 1) ≤ 9223372036854775807), ((0 : Int) ≤ ((k : Nat) : Int)), (((k : Nat) : Int) < (((Int.toNat m) : Nat) : Int)), (k < u.length)] ⟨55, [(0, .one (.ro (.ints .i64 l))), (7, .one (.rw 131 0 (Int.toNat m))), (8, .one (.int .i64 ((k : Nat) : Int))), (33, .one (.int .i64 (((Int.toNat m) : Nat) : Int))), (34, .one (.int .i64 ((k : Nat) : Int))), (37, .one (.ro (.ints .i64 l))), (38, .one (.int .i64 ((l.length : Nat) : Int))), (39, .one (.int .i64 ((i : Nat) : Int)))], [(131, .flat (.ints .i64 (List.set u k ((List.getD u k 0) + 1))))]⟩ hT (by kernel_rfl) ⟨(by first | omega | (simp only [lens]; omega) | (simp only [Bool.cond_decide]; omega)), (by first | omega | (simp only [lens]; omega) | (simp only [Bool.cond_decide]; omega)), (by first | omega | (simp only [lens]; omega) | (simp only [Bool.cond_decide]; omega)), (by first | omega | (simp only [lens]; omega) | (simp only [Bool.cond_decide]; omega)), (by first | omega | (simp only [lens]; omega) | (simp only [Bool.cond_decide]; omega)), (by first | omega | (simp only [lens]; omega) | (simp only [Bool.cond_decide]; omega)), (by first | omega | (simp only [lens]; omega) | (simp only [Bool.cond_decide]; omega)), trivial⟩ ?_
            refine awp_run [0, 7, 8, 33, 34, 37, 38, 39] [131] [(-9223372036854775808 ≤ (((i + 1) : Nat) : Int) ∧ (((i + 1) : Nat) : Int) ≤ 9223372036854775807)] ⟨55, [(0, .one (.ro (.ints .i64 l))), (7, .one (.rw 131 0 (Int.toNat m))), (8, .one (.int .i64 ((k : Nat) : Int))), (33, .one (.int .i64 (((Int.toNat m) : Nat) : Int))), (34, .one (.int .i64 ((k : Nat) : Int))), (37, .one (.ro (.ints .i64 l))), (38, .one (.int .i64 ((l.length : Nat) : Int))), (39, .one (.int .i64 (((i + 1) : Nat) : Int)))], [(131, .flat (.ints .i64 (List.set u k ((List.getD u k 0) + 1))))]⟩ hT (by kernel_rfl) ⟨(by first | omega | (simp only [lens]; omega) | (simp only [Bool.cond_decide]; omega)), trivial⟩ ?_
            refine loop_end _ ?_ ⟨(i + 1), (List.set u k ((List.getD u k 0) + 1)), ⟨(by omega), (by exact hu2), rfl⟩, (by kernel_rfl)⟩
            omega
          · -- no 18
            try simp only [bs] at c18
            have hu2 : u = o.set k (cntOver (l.take (i + 1)) k) := by rw [hct, if_neg c18, Int.add_zero]; exact hu
            refine awp_skip ?_
            refine awp_run [0, 7, 8, 33, 34, 37, 38, 39] [131] [(-9223372036854775808 ≤ (((i + 1) : Nat) : Int) ∧ (((i + 1) : Nat) : Int) ≤ 9223372036854775807)] ⟨55, [(0, .one (.ro (.ints .i64 l))), (7, .one (.rw 131 0 (Int.toNat m))), (8, .one (.int .i64 ((k : Nat) : Int))), (33, .one (.int .i64 (((Int.toNat m) : Nat) : Int))), (34, .one (.int .i64 ((k : Nat) : Int))), (37, .one (.ro (.ints .i64 l))), (38, .one (.int .i64 ((l.length : Nat) : Int))), (39, .one (.int .i64 (((i + 1) : Nat) : Int)))], [(131, .flat (.ints .i64 u))]⟩ hT (by kernel_rfl) ⟨(by first | omega | (simp only [lens]; omega) | (simp only [Bool.cond_decide]; omega)), trivial⟩ ?_
            refine loop_end _ ?_ ⟨(i + 1), u, ⟨(by omega), (by exact hu2), rfl⟩, (by kernel_rfl)⟩
            omega
        · -- no 16
          try simp only [bs] at c16
          have hue : u = o.set k (cntOver l k) := by rw [hu, List.take_of_length_le (by omega)]
          refine awp_exit ?_
          refine awp_run [0, 7, 33, 34] [131] [(-9223372036854775808 ≤ (((k + 1) : Nat) : Int) ∧ (((k + 1) : Nat) : Int) ≤ 9223372036854775807)] ⟨55, [(0, .one (.ro (.ints .i64 l))), (7, .one (.rw 131 0 (Int.toNat m))), (33, .one (.int .i64 (((Int.toNat m) : Nat) : Int))), (34, .one (.int .i64 (((k + 1) : Nat) : Int)))], [(131, .flat (.ints .i64 u))]⟩ hT (by kernel_rfl) ⟨(by first | omega | (simp only [lens]; omega) | (simp only [Bool.cond_decide]; omega)), trivial⟩ ?_
          refine loop_end _ ?_ ⟨(k + 1), u, ⟨(by omega), (by rw [hue]; exact fill_cnt ho (by omega)), rfl⟩, (by kernel_rfl)⟩
          omega
      · -- no 13
        try simp only [bs] at c13
        have hoe : o = turned l := list_ext 0 (by omega) (fun j hj => by rw [ho.2.1 j (by omega), turned_at (by omega)])
        refine awp_exit ?_
        refine awp_weak (awk_seal 131 (s' := ⟨55, [(0, .one (.ro (.ints .i64 l))), (7, .one (.ro (.ints .i64 (List.take (Int.toNat m) o)))), (33, .one (.int .i64 (((Int.toNat m) : Nat) : Int))), (34, .one (.int .i64 ((k : Nat) : Int))), (35, .one (.bool (decide (((k : Nat) : Int) < (((Int.toNat m) : Nat) : Int)))))], []⟩) (by kernel_rfl)) ?_
        rw [show (List.take (Int.toNat m) o) = o from List.take_of_length_le (by first | omega | simp)]
        refine awp_run_seq [2, 3] [] [] ⟨55, [(2, .one (.ro (.ints .i64 o))), (3, .one (.int .i64 0))], []⟩ hT (by kernel_rfl) trivial ?_
        refine awp_ret ?_
        refine kRet.ret _ [] [] (.tup [(false, [(.ro (.ints .i64 o))]), (false, [(.int .i64 0)])]) [] (by kernel_rfl) trivial ?_
        exact ⟨by first | rw [show (okL (turnErr l) (turned l)) = o from Eq.symm (by first | exact hE.symm | (rw [okL_ok _ hE]; exact hoe)), show (turnErr l) = 0 from Eq.symm (by first | exact hE.symm | (rw [okL_ok _ hE]; exact hoe))] | rw [show (okL (turnErr l) (turned l)) = o from Eq.symm (by first | exact hE.symm | (rw [okL_ok _ hE]; exact hoe))] | rw [show (turnErr l) = 0 from Eq.symm (by first | exact hE.symm | (rw [okL_ok _ hE]; exact hoe))], rfl⟩

theorem ref_turned (l : List Int) (h12 : l.length ≤ 12) (hov : overB l 12 = false) : ACall Try.prog 51 [.one (.ro (.ints .i64 l))] [] (fun ov oh => ov = .one (.ro (.ints .i64 (turned l))) ∧ oh = []) := by
  refine acall_intro hT Try.func51 rfl (by kernel_rfl) rfl (by kernel_rfl) ?_
  have htl := turned_len l
  have htb := top_in hov
  refine awp_run_seq [0] [] [] ⟨29, [(0, .one (.ro (.ints .i64 l)))], []⟩ hT (by kernel_rfl) trivial ?_
  refine awp_run_seq [0, 3] [] [] ⟨29, [(0, .one (.ro (.ints .i64 l))), (3, .one .nils)], []⟩ hT (by kernel_rfl) trivial ?_
  refine awp_run_seq [0, 3, 4] [] [] ⟨29, [(0, .one (.ro (.ints .i64 l))), (3, .one .nils), (4, .one (.int .i64 0))], []⟩ hT (by kernel_rfl) trivial ?_
  refine awp_block ?_
  refine awp_weak (awk_empty 5003 (.flat (.ints .i64 [])) rfl (by decide) _) ?_
  refine awp_weak (awk_slot 3 (.one .nils) (.one (.rw 5003 0 0)) _ (by kernel_rfl) (.one (wkv_nils (o := .flat (.ints .i64 [])) (by kernel_rfl)))) ?_
  refine awp_loop (I := fun κ σ => ∃ (k : Nat) (b : List Int), (((k : Int) ≤ topOf l) ∧ (b = (turned l).take k) ∧ (topOf l).toNat - k = κ) ∧ σ = ⟨29, [(0, .one (.ro (.ints .i64 l))), (3, .one (.rw 5003 0 b.length)), (4, .one (.int .i64 ((k : Nat) : Int)))], [(5003, .flat (.ints .i64 b))]⟩) _ ⟨0, [], ⟨(by omega), (by rfl), rfl⟩, (by kernel_rfl)⟩ ?_
  rintro κ _ ⟨k, b, ⟨hk, hb, rfl⟩, rfl⟩
  have hbl : b.length = k := by rw [hb, List.length_take]; omega
  refine awp_seq ?_
  refine awp_block ?_
  refine awp_run_seq [0, 3, 4, 5] [5003] [] ⟨29, [(0, .one (.ro (.ints .i64 l))), (3, .one (.rw 5003 0 b.length)), (4, .one (.int .i64 ((k : Nat) : Int))), (5, .one (.int .i64 0))], [(5003, .flat (.ints .i64 b))]⟩ hT (by kernel_rfl) trivial ?_
  refine awp_seq ?_
  refine awp_run_seq [0, 3, 4, 5, 10, 11, 12] [5003] [] ⟨29, [(0, .one (.ro (.ints .i64 l))), (3, .one (.rw 5003 0 b.length)), (4, .one (.int .i64 ((k : Nat) : Int))), (5, .one (.int .i64 0)), (10, .one (.ro (.ints .i64 l))), (11, .one (.int .i64 ((l.length : Nat) : Int))), (12, .one (.int .i64 0))], [(5003, .flat (.ints .i64 b))]⟩ hT (by kernel_rfl) trivial ?_
  refine awp_block ?_
  refine awp_loop (I := fun κ σ => ∃ (i : Nat) (m : Int), ((i ≤ l.length) ∧ (m = cntOver (l.take i) k) ∧ l.length - i = κ) ∧ σ = ⟨29, [(0, .one (.ro (.ints .i64 l))), (3, .one (.rw 5003 0 b.length)), (4, .one (.int .i64 ((k : Nat) : Int))), (5, .one (.int .i64 m)), (10, .one (.ro (.ints .i64 l))), (11, .one (.int .i64 ((l.length : Nat) : Int))), (12, .one (.int .i64 ((i : Nat) : Int)))], [(5003, .flat (.ints .i64 b))]⟩) _ ⟨0, 0, ⟨(by omega), (by rfl), rfl⟩, (by kernel_rfl)⟩ ?_
  rintro κ _ ⟨i, m, ⟨hi, hm, rfl⟩, rfl⟩
  have hcb := cnt_le (l.take i) k
  have htk : (l.take i).length = i := by rw [List.length_take]; omega
  refine awp_run_seq [0, 3, 4, 5, 10, 11, 12, 13] [5003] [] ⟨29, [(0, .one (.ro (.ints .i64 l))), (3, .one (.rw 5003 0 b.length)), (4, .one (.int .i64 ((k : Nat) : Int))), (5, .one (.int .i64 m)), (10, .one (.ro (.ints .i64 l))), (11, .one (.int .i64 ((l.length : Nat) : Int))), (12, .one (.int .i64 ((i : Nat) : Int))), (13, .one (.bool (decide (((i : Nat) : Int) < ((l.length : Nat) : Int)))))], [(5003, .flat (.ints .i64 b))]⟩ hT (by kernel_rfl) trivial ?_
  refine awp_seq ?_
  refine awp_cond (b := (decide (((i : Nat) : Int) < ((l.length : Nat) : Int)))) (by kernel_rfl) (fun c6 => ?_) (fun c6 => ?_)
  · -- yes 6
    try simp only [bs] at c6
    have hil : i < l.length := by omega
    have hct := cnt_take (k := (k : Int)) hil
    refine awp_skip ?_
    refine awp_seq ?_
    refine awp_block ?_
    refine awp_run_seq [0, 3, 4, 5, 7, 10, 11, 12] [5003] [((0 : Int) ≤ ((i : Nat) : Int)), (((i : Nat) : Int) < ((l.length : Nat) : Int))] ⟨29, [(0, .one (.ro (.ints .i64 l))), (3, .one (.rw 5003 0 b.length)), (4, .one (.int .i64 ((k : Nat) : Int))), (5, .one (.int .i64 m)), (7, .one (.int .i64 (List.getD l i 0))), (10, .one (.ro (.ints .i64 l))), (11, .one (.int .i64 ((l.length : Nat) : Int))), (12, .one (.int .i64 ((i : Nat) : Int)))], [(5003, .flat (.ints .i64 b))]⟩ hT (by kernel_rfl) ⟨(by first | omega | (simp only [lens]; omega) | (simp only [lens]; done) | (simp; done)), (by first | omega | (simp only [lens]; omega) | (simp only [lens]; done) | (simp; done)), trivial⟩ ?_
    refine awp_run_seq [0, 3, 4, 5, 10, 11, 12, 18] [5003] [] ⟨29, [(0, .one (.ro (.ints .i64 l))), (3, .one (.rw 5003 0 b.length)), (4, .one (.int .i64 ((k : Nat) : Int))), (5, .one (.int .i64 m)), (10, .one (.ro (.ints .i64 l))), (11, .one (.int .i64 ((l.length : Nat) : Int))), (12, .one (.int .i64 ((i : Nat) : Int))), (18, .one (.bool (decide (((k : Nat) : Int) < (List.getD l i 0)))))], [(5003, .flat (.ints .i64 b))]⟩ hT (by kernel_rfl) trivial ?_
    refine awp_cond (b := (decide (((k : Nat) : Int) < (List.getD l i 0)))) (by kernel_rfl) (fun c8 => ?_) (fun c8 => ?_)
    · -- yes 8
      try simp only [bs] at c8
      rw [if_pos c8] at hct
      refine awp_run [0, 3, 4, 5, 10, 11, 12] [5003] [(-9223372036854775808 ≤ (m + 1) ∧ (m + 1) ≤ 9223372036854775807)] ⟨29, [(0, .one (.ro (.ints .i64 l))), (3, .one (.rw 5003 0 b.length)), (4, .one (.int .i64 ((k : Nat) : Int))), (5, .one (.int .i64 (m + 1))), (10, .one (.ro (.ints .i64 l))), (11, .one (.int .i64 ((l.length : Nat) : Int))), (12, .one (.int .i64 ((i : Nat) : Int)))], [(5003, .flat (.ints .i64 b))]⟩ hT (by kernel_rfl) ⟨(by first | omega | (simp only [lens]; omega) | (simp only [lens]; done) | (simp; done)), trivial⟩ ?_
      refine awp_run [0, 3, 4, 5, 10, 11, 12] [5003] [(-9223372036854775808 ≤ (((i + 1) : Nat) : Int) ∧ (((i + 1) : Nat) : Int) ≤ 9223372036854775807)] ⟨29, [(0, .one (.ro (.ints .i64 l))), (3, .one (.rw 5003 0 b.length)), (4, .one (.int .i64 ((k : Nat) : Int))), (5, .one (.int .i64 (m + 1))), (10, .one (.ro (.ints .i64 l))), (11, .one (.int .i64 ((l.length : Nat) : Int))), (12, .one (.int .i64 (((i + 1) : Nat) : Int)))], [(5003, .flat (.ints .i64 b))]⟩ hT (by kernel_rfl) ⟨(by first | omega | (simp only [lens]; omega) | (simp only [lens]; done) | (simp; done)), trivial⟩ ?_
      refine loop_end _ ?_ ⟨(i + 1), (m + 1), ⟨(by omega), (by omega), rfl⟩, (by kernel_rfl)⟩
      omega
    · -- no 8
      try simp only [bs] at c8
      rw [if_neg c8] at hct
      refine awp_skip ?_
      refine awp_run [0, 3, 4, 5, 10, 11, 12] [5003] [(-9223372036854775808 ≤ (((i + 1) : Nat) : Int) ∧ (((i + 1) : Nat) : Int) ≤ 9223372036854775807)] ⟨29, [(0, .one (.ro (.ints .i64 l))), (3, .one (.rw 5003 0 b.length)), (4, .one (.int .i64 ((k : Nat) : Int))), (5, .one (.int .i64 m)), (10, .one (.ro (.ints .i64 l))), (11, .one (.int .i64 ((l.length : Nat) : Int))), (12, .one (.int .i64 (((i + 1) : Nat) : Int)))], [(5003, .flat (.ints .i64 b))]⟩ hT (by kernel_rfl) ⟨(by first | omega | (simp only [lens]; omega) | (simp only [lens]; done) | (simp; done)), trivial⟩ ?_
      refine loop_end _ ?_ ⟨(i + 1), m, ⟨(by omega), (by omega), rfl⟩, (by kernel_rfl)⟩
      omega
  · -- no 6
    try simp only [bs] at c6
    have hme : m = cntOver l k := by rw [hm, List.take_of_length_le (by omega)]
    have hcp := cnt_pos (l := l) (k := (k : Int)) (by omega)
    refine awp_exit ?_
    refine awp_seq ?_
    refine awp_run_seq [0, 3, 4, 5, 23] [5003] [] ⟨29, [(0, .one (.ro (.ints .i64 l))), (3, .one (.rw 5003 0 b.length)), (4, .one (.int .i64 ((k : Nat) : Int))), (5, .one (.int .i64 m)), (23, .one (.bool (decide (m = 0))))], [(5003, .flat (.ints .i64 b))]⟩ hT (by kernel_rfl) trivial ?_
    refine awp_cond (b := (decide (m = 0))) (by kernel_rfl) (fun c11 => ?_) (fun c11 => ?_)
    · -- yes 11
      try simp only [bs] at c11
      have hkt := hcp.1 (by omega)
      have hbe : b = turned l := by rw [hb, List.take_of_length_le (by omega)]
      refine awp_weak (awk_seal 5003 (s' := ⟨29, [(0, .one (.ro (.ints .i64 l))), (3, .one (.ro (.ints .i64 (List.take b.length b)))), (4, .one (.int .i64 ((k : Nat) : Int))), (5, .one (.int .i64 m)), (23, .one (.bool (decide (m = 0))))], []⟩) (by kernel_rfl)) ?_
      rw [show (List.take b.length b) = b from List.take_of_length_le (by first | omega | simp)]
      refine awp_run_seq [2] [] [] ⟨29, [(2, .one (.ro (.ints .i64 b)))], []⟩ hT (by kernel_rfl) trivial ?_
      refine awp_ret ?_
      refine kRet.ret _ [] [] (.one (.ro (.ints .i64 b))) [] (by kernel_rfl) trivial ?_
      exact ⟨congrArg (fun x1 => (.one (.ro (.ints .i64 x1)) : AV)) (show b = (turned l) from by exact hbe), rfl⟩
    · -- no 11
      try simp only [bs] at c11
      have hkt : (k : Int) < topOf l := by rcases Int.lt_or_le (k : Int) (topOf l) with q | q; exact q; exact absurd (hcp.2 q) (by omega)
      have htn := turned_at (l := l) (k := k) (by omega)
      have htk2 := take_snoc (l := turned l) (j := k) (by omega)
      refine awp_skip ?_
      refine awp_run [0, 3, 4] [5003] [(b.length = b.length), ((b.length + 1) * 8 ≤ 140737488355328), ((b.length + 1) ≤ 9223372036854775807)] ⟨29, [(0, .one (.ro (.ints .i64 l))), (3, .one (.rw 5003 0 (b.length + 1))), (4, .one (.int .i64 ((k : Nat) : Int)))], [(5003, .flat (.ints .i64 (b ++ [m])))]⟩ hT (by kernel_rfl) ⟨(by first | omega | (simp only [lens]; omega) | (simp only [lens]; done) | (simp; done)), (by first | omega | (simp only [lens]; omega) | (simp only [lens]; done) | (simp; done)), (by first | omega | (simp only [lens]; omega) | (simp only [lens]; done) | (simp; done)), trivial⟩ ?_
      refine awp_run [0, 3, 4] [5003] [(-9223372036854775808 ≤ (((k + 1) : Nat) : Int) ∧ (((k + 1) : Nat) : Int) ≤ 9223372036854775807)] ⟨29, [(0, .one (.ro (.ints .i64 l))), (3, .one (.rw 5003 0 (b.length + 1))), (4, .one (.int .i64 (((k + 1) : Nat) : Int)))], [(5003, .flat (.ints .i64 (b ++ [m])))]⟩ hT (by kernel_rfl) ⟨(by first | omega | (simp only [lens]; omega) | (simp only [lens]; done) | (simp; done)), trivial⟩ ?_
      refine loop_end _ ?_ ⟨(k + 1), (b ++ [m]), ⟨(by omega), (by rw [htk2, htn, ← hb, hme]), rfl⟩, (by first | (simp only [lens]; done) | (simp only [Nat.zero_add]; done) | simp only [lens, Nat.zero_add])⟩
      omega

end Go.Ab
