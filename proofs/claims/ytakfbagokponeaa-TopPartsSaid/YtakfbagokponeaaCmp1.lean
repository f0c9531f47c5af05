/- Of cmp: Compare, Or. -/
import Derived.Test.YtakfbagokponeaaTab
import Derived.Test.YtakfbagokponeaaPlGale
set_option maxRecDepth 100000
namespace Go.Ab
open Go Go.Proofs
theorem cmp_isNaN (x : Int) : ACall Try.prog 139 [.one (.int .i64 x)] [] (fun ov oh => ov = .one (.bool false) ∧ oh = []) := by
  refine acall_intro hT Try.func139 rfl (by kernel_rfl) rfl (by kernel_rfl) ?_
  refine awp_run_seq [0] [] [] ⟨6, [(0, .one (.int .i64 x))], []⟩ hT (by kernel_rfl) trivial ?_
  refine awp_run_seq [2] [] [] ⟨6, [(2, .one (.bool (decide (x ≠ x))))], []⟩ hT (by kernel_rfl) trivial ?_
  refine awp_ret ?_
  refine kRet.ret _ [] [] (.one (.bool (decide (x ≠ x)))) [] (by kernel_rfl) trivial ?_
  exact ⟨congrArg (fun x1 => (.one (.bool x1) : AV)) (show (decide (x ≠ x)) = false from by simp), rfl⟩
theorem cmp_compare (x y : Int) : ACall Try.prog 115 [.one (.int .i64 x), .one (.int .i64 y)] [] (fun ov oh => ov = .one (.int .i64 (cmpI x y)) ∧ oh = []) := by
  refine acall_intro hT Try.func115 rfl (by kernel_rfl) rfl (by kernel_rfl) ?_
  refine awp_run_seq [0, 1] [] [] ⟨20, [(0, .one (.int .i64 x)), (1, .one (.int .i64 y))], []⟩ hT (by kernel_rfl) trivial ?_
  refine awp_seq (awp_region ?_)
  refine aops_run 1 [0, 1, 7] [] [] ⟨20, [(0, .one (.int .i64 x)), (1, .one (.int .i64 y)), (7, .one (.int .i64 x))], []⟩ hT (by kernel_rfl) (by kernel_rfl) trivial ?_
  refine aops_pure false ⟨true, [], 139, [.one (.int .i64 x)], []⟩ [.one (.int .i64 x)] (.one (.bool false)) ⟨20, [(0, .one (.int .i64 x)), (1, .one (.int .i64 y)), (7, .one (.int .i64 x)), (8, .one (.bool false))], []⟩ (by kernel_rfl) (by kernel_rfl) (fun _ => trivial) rfl (fun _ => cmp_isNaN x) ?_
  refine aops_run 1 [0, 1, 5] [] [] ⟨20, [(0, .one (.int .i64 x)), (1, .one (.int .i64 y)), (5, .one (.bool false))], []⟩ hT (by kernel_rfl) (by kernel_rfl) trivial ?_
  refine aops_end_seq (by kernel_rfl) ?_
  refine awp_seq (awp_region ?_)
  refine aops_run 1 [0, 1, 5, 9] [] [] ⟨20, [(0, .one (.int .i64 x)), (1, .one (.int .i64 y)), (5, .one (.bool false)), (9, .one (.int .i64 y))], []⟩ hT (by kernel_rfl) (by kernel_rfl) trivial ?_
  refine aops_pure false ⟨true, [], 139, [.one (.int .i64 y)], []⟩ [.one (.int .i64 y)] (.one (.bool false)) ⟨20, [(0, .one (.int .i64 x)), (1, .one (.int .i64 y)), (5, .one (.bool false)), (9, .one (.int .i64 y)), (10, .one (.bool false))], []⟩ (by kernel_rfl) (by kernel_rfl) (fun _ => trivial) rfl (fun _ => cmp_isNaN y) ?_
  refine aops_run 1 [0, 1, 5, 6] [] [] ⟨20, [(0, .one (.int .i64 x)), (1, .one (.int .i64 y)), (5, .one (.bool false)), (6, .one (.bool false))], []⟩ hT (by kernel_rfl) (by kernel_rfl) trivial ?_
  refine aops_end_seq (by kernel_rfl) ?_
  refine awp_seq ?_
  refine awp_run_seq [0, 1, 6, 11] [] [] ⟨20, [(0, .one (.int .i64 x)), (1, .one (.int .i64 y)), (6, .one (.bool false)), (11, .one (.bool false))], []⟩ hT (by kernel_rfl) trivial ?_
  refine awp_cond (b := false) (by kernel_rfl) (fun h => by cases h) (fun _ => ?_)
  refine awp_skip ?_
  refine awp_seq ?_
  refine awp_run_seq [0, 1, 13] [] [] ⟨20, [(0, .one (.int .i64 x)), (1, .one (.int .i64 y)), (13, .one (.bool false))], []⟩ hT (by kernel_rfl) trivial ?_
  refine awp_cond (b := false) (by kernel_rfl) (fun h => by cases h) (fun _ => ?_)
  refine awp_skip ?_
  refine awp_seq ?_
  refine awp_run_seq [0, 1, 16] [] [] ⟨20, [(0, .one (.int .i64 x)), (1, .one (.int .i64 y)), (16, .one (.bool (decide (x < y))))], []⟩ hT (by kernel_rfl) trivial ?_
  refine awp_cond (b := (decide (x < y))) (by kernel_rfl) (fun c9 => ?_) (fun c9 => ?_)
  ·
    try simp only [bs] at c9
    refine awp_run_seq [4] [] [] ⟨20, [(4, .one (.int .i64 (-1)))], []⟩ hT (by kernel_rfl) trivial ?_
    refine awp_ret ?_
    refine kRet.ret _ [] [] (.one (.int .i64 (-1))) [] (by kernel_rfl) trivial ?_
    exact ⟨congrArg (fun x1 => (.one (.int .i64 x1) : AV)) (show (-1) = (cmpI x y) from by rw [cmpI, if_pos (by omega)]), rfl⟩
  ·
    try simp only [bs] at c9
    refine awp_skip ?_
    refine awp_seq ?_
    refine awp_run_seq [19] [] [] ⟨20, [(19, .one (.bool (decide (y < x))))], []⟩ hT (by kernel_rfl) trivial ?_
    refine awp_cond (b := (decide (y < x))) (by kernel_rfl) (fun c11 => ?_) (fun c11 => ?_)
    ·
      try simp only [bs] at c11
      refine awp_run_seq [4] [] [] ⟨20, [(4, .one (.int .i64 1))], []⟩ hT (by kernel_rfl) trivial ?_
      refine awp_ret ?_
      refine kRet.ret _ [] [] (.one (.int .i64 1)) [] (by kernel_rfl) trivial ?_
      exact ⟨congrArg (fun x1 => (.one (.int .i64 x1) : AV)) (show 1 = (cmpI x y) from by rw [cmpI, if_neg (by omega), if_pos (by omega)]), rfl⟩
    ·
      try simp only [bs] at c11
      refine awp_skip ?_
      refine awp_run_seq [4] [] [] ⟨20, [(4, .one (.int .i64 0))], []⟩ hT (by kernel_rfl) trivial ?_
      refine awp_ret ?_
      refine kRet.ret _ [] [] (.one (.int .i64 0)) [] (by kernel_rfl) trivial ?_
      exact ⟨congrArg (fun x1 => (.one (.int .i64 x1) : AV)) (show 0 = (cmpI x y) from by rw [cmpI, if_neg (by omega), if_neg (by omega)]), rfl⟩
theorem cmp_or (x y : Int) : ACall Try.prog 114 [.one (.ro (.ints .i64 [x, y]))] [] (fun ov oh => ov = .one (.int .i64 (if x ≠ 0 then x else y)) ∧ oh = []) := by
  refine acall_intro hT Try.func114 rfl (by kernel_rfl) rfl (by kernel_rfl) ?_
  refine awp_run_seq [0] [] [] ⟨18, [(0, .one (.ro (.ints .i64 [x, y])))], []⟩ hT (by kernel_rfl) trivial ?_
  refine awp_run_seq [0, 3] [] [] ⟨18, [(0, .one (.ro (.ints .i64 [x, y]))), (3, .one (.int .i64 0))], []⟩ hT (by kernel_rfl) trivial ?_
  refine awp_seq ?_
  refine awp_run_seq [3, 6, 7, 8] [] [] ⟨18, [(3, .one (.int .i64 0)), (6, .one (.ro (.ints .i64 [x, y]))), (7, .one (.int .i64 2)), (8, .one (.int .i64 0))], []⟩ hT (by kernel_rfl) trivial ?_
  refine awp_block ?_
  refine awp_loop (I := fun κ σ => ∃ (i : Nat), ((i = 0 ∨ i = 1 ∨ i = 2) ∧ ((1 ≤ i → x = 0) ∧ (2 ≤ i → y = 0)) ∧ 2 - i = κ) ∧ σ = ⟨18, [(3, .one (.int .i64 0)), (6, .one (.ro (.ints .i64 [x, y]))), (7, .one (.int .i64 2)), (8, .one (.int .i64 (i : Int)))], []⟩) _ ⟨0, ⟨(by omega), (by omega), rfl⟩, (by kernel_rfl)⟩ ?_
  rintro κ _ ⟨i, ⟨hi, hx, rfl⟩, rfl⟩
  rcases hi with rfl | rfl | rfl
  ·
    refine awp_run_seq [3, 6, 7, 8, 9] [] [] ⟨18, [(3, .one (.int .i64 0)), (6, .one (.ro (.ints .i64 [x, y]))), (7, .one (.int .i64 2)), (8, .one (.int .i64 0)), (9, .one (.bool true))], []⟩ hT (by kernel_rfl) trivial ?_
    refine awp_seq ?_
    refine awp_cond (b := true) (by kernel_rfl) (fun _ => ?_) (fun h => by cases h)
    refine awp_skip ?_
    refine awp_seq ?_
    refine awp_block ?_
    refine awp_run_seq [3, 5, 6, 7, 8] [] [((0 : Int) ≤ (0 : Int)), ((0 : Int) < 2)] ⟨18, [(3, .one (.int .i64 0)), (5, .one (.int .i64 x)), (6, .one (.ro (.ints .i64 [x, y]))), (7, .one (.int .i64 2)), (8, .one (.int .i64 0))], []⟩ hT (by kernel_rfl) ⟨(by omega), (by omega), trivial⟩ ?_
    refine awp_run_seq [3, 5, 6, 7, 8, 14] [] [] ⟨18, [(3, .one (.int .i64 0)), (5, .one (.int .i64 x)), (6, .one (.ro (.ints .i64 [x, y]))), (7, .one (.int .i64 2)), (8, .one (.int .i64 0)), (14, .one (.bool (decide (x ≠ 0))))], []⟩ hT (by kernel_rfl) trivial ?_
    refine awp_cond (b := (decide (x ≠ 0))) (by kernel_rfl) (fun c5 => ?_) (fun c5 => ?_)
    ·
      try simp only [bs] at c5
      refine awp_run_seq [2] [] [] ⟨18, [(2, .one (.int .i64 x))], []⟩ hT (by kernel_rfl) trivial ?_
      refine awp_ret ?_
      refine kRet.ret _ [] [] (.one (.int .i64 x)) [] (by kernel_rfl) trivial ?_
      exact ⟨congrArg (fun x1 => (.one (.int .i64 x1) : AV)) (show x = (if x ≠ 0 then x else y) from by first | (rw [if_pos c5]; done) | (rw [if_neg (by omega)])), rfl⟩
    ·
      try simp only [bs] at c5
      refine awp_skip ?_
      refine awp_run [3, 6, 7, 8] [] [(-9223372036854775808 ≤ (1 : Int) ∧ (1 : Int) ≤ 9223372036854775807)] ⟨18, [(3, .one (.int .i64 0)), (6, .one (.ro (.ints .i64 [x, y]))), (7, .one (.int .i64 2)), (8, .one (.int .i64 1))], []⟩ hT (by kernel_rfl) ⟨(by omega), trivial⟩ ?_
      refine loop_end _ ?_ ⟨1, ⟨(by omega), (by omega), rfl⟩, (by kernel_rfl)⟩
      omega
  ·
    refine awp_run_seq [3, 6, 7, 8, 9] [] [] ⟨18, [(3, .one (.int .i64 0)), (6, .one (.ro (.ints .i64 [x, y]))), (7, .one (.int .i64 2)), (8, .one (.int .i64 1)), (9, .one (.bool true))], []⟩ hT (by kernel_rfl) trivial ?_
    refine awp_seq ?_
    refine awp_cond (b := true) (by kernel_rfl) (fun _ => ?_) (fun h => by cases h)
    refine awp_skip ?_
    refine awp_seq ?_
    refine awp_block ?_
    refine awp_run_seq [3, 5, 6, 7, 8] [] [((0 : Int) ≤ (1 : Int)), ((1 : Int) < 2)] ⟨18, [(3, .one (.int .i64 0)), (5, .one (.int .i64 y)), (6, .one (.ro (.ints .i64 [x, y]))), (7, .one (.int .i64 2)), (8, .one (.int .i64 1))], []⟩ hT (by kernel_rfl) ⟨(by omega), (by omega), trivial⟩ ?_
    refine awp_run_seq [3, 5, 6, 7, 8, 14] [] [] ⟨18, [(3, .one (.int .i64 0)), (5, .one (.int .i64 y)), (6, .one (.ro (.ints .i64 [x, y]))), (7, .one (.int .i64 2)), (8, .one (.int .i64 1)), (14, .one (.bool (decide (y ≠ 0))))], []⟩ hT (by kernel_rfl) trivial ?_
    refine awp_cond (b := (decide (y ≠ 0))) (by kernel_rfl) (fun c5 => ?_) (fun c5 => ?_)
    ·
      try simp only [bs] at c5
      refine awp_run_seq [2] [] [] ⟨18, [(2, .one (.int .i64 y))], []⟩ hT (by kernel_rfl) trivial ?_
      refine awp_ret ?_
      refine kRet.ret _ [] [] (.one (.int .i64 y)) [] (by kernel_rfl) trivial ?_
      exact ⟨congrArg (fun x1 => (.one (.int .i64 x1) : AV)) (show y = (if x ≠ 0 then x else y) from by first | (rw [if_pos c5]; done) | (rw [if_neg (by omega)])), rfl⟩
    ·
      try simp only [bs] at c5
      refine awp_skip ?_
      refine awp_run [3, 6, 7, 8] [] [(-9223372036854775808 ≤ (2 : Int) ∧ (2 : Int) ≤ 9223372036854775807)] ⟨18, [(3, .one (.int .i64 0)), (6, .one (.ro (.ints .i64 [x, y]))), (7, .one (.int .i64 2)), (8, .one (.int .i64 2))], []⟩ hT (by kernel_rfl) ⟨(by omega), trivial⟩ ?_
      refine loop_end _ ?_ ⟨2, ⟨(by omega), (by omega), rfl⟩, (by kernel_rfl)⟩
      omega
  ·
    refine awp_run_seq [3, 6, 7, 8, 9] [] [] ⟨18, [(3, .one (.int .i64 0)), (6, .one (.ro (.ints .i64 [x, y]))), (7, .one (.int .i64 2)), (8, .one (.int .i64 2)), (9, .one (.bool false))], []⟩ hT (by kernel_rfl) trivial ?_
    refine awp_seq ?_
    refine awp_cond (b := false) (by kernel_rfl) (fun h => by cases h) (fun _ => ?_)
    refine awp_exit ?_
    refine awp_run_seq [2] [] [] ⟨18, [(2, .one (.int .i64 0))], []⟩ hT (by kernel_rfl) trivial ?_
    refine awp_ret ?_
    refine kRet.ret _ [] [] (.one (.int .i64 0)) [] (by kernel_rfl) trivial ?_
    exact ⟨congrArg (fun x1 => (.one (.int .i64 x1) : AV)) (show 0 = (if x ≠ 0 then x else y) from by rw [if_neg (by omega)]; omega), rfl⟩
end Go.Ab
