/- Of slices: equality. -/
import Derived.Test.YtakfbagokponeaaTab
set_option maxRecDepth 100000
namespace Go.Ab
open Go Go.Proofs
theorem equal_ints (xs ys : List Int) : ACall Try.prog 71 [.one (.ro (.ints .i64 xs)), .one (.ro (.ints .i64 ys))] [] (fun ov oh => ov = .one (.bool (decide (xs = ys))) ∧ oh = []) := by
  refine acall_intro hT Try.func71 rfl (by kernel_rfl) rfl (by kernel_rfl) ?_
  refine awp_len 0 0 (.ints .i64 xs) (by kernel_rfl) (fun hlen => ?_)
  simp only [C0.len, maxLen] at hlen
  refine awp_run_seq [0, 1] [] [] ⟨26, [(0, .one (.ro (.ints .i64 xs))), (1, .one (.ro (.ints .i64 ys)))], []⟩ hT (by kernel_rfl) trivial ?_
  refine awp_seq ?_
  refine awp_run_seq [0, 1, 10] [] [] ⟨26, [(0, .one (.ro (.ints .i64 xs))), (1, .one (.ro (.ints .i64 ys))), (10, .one (.bool (decide (((xs.length : Nat) : Int) ≠ ((ys.length : Nat) : Int)))))], []⟩ hT (by kernel_rfl) trivial ?_
  refine awp_cond (b := (decide (((xs.length : Nat) : Int) ≠ ((ys.length : Nat) : Int)))) (by kernel_rfl) (fun c1 => ?_) (fun c1 => ?_)
  · -- yes 1
    try simp only [bs] at c1
    refine awp_run_seq [4] [] [] ⟨26, [(4, .one (.bool false))], []⟩ hT (by kernel_rfl) trivial ?_
    refine awp_ret ?_
    refine kRet.ret _ [] [] (.one (.bool false)) [] (by kernel_rfl) trivial ?_
    exact ⟨congrArg (fun x1 => (.one (.bool x1) : AV)) (show false = (decide (xs = ys)) from by exact eq_no (fun h => by subst h; omega)), rfl⟩
  · -- no 1
    try simp only [bs] at c1
    refine awp_skip ?_
    refine awp_seq ?_
    refine awp_run_seq [0, 1, 12, 13] [] [] ⟨26, [(0, .one (.ro (.ints .i64 xs))), (1, .one (.ro (.ints .i64 ys))), (12, .one (.int .i64 ((xs.length : Nat) : Int))), (13, .one (.int .i64 0))], []⟩ hT (by kernel_rfl) trivial ?_
    refine awp_block ?_
    refine awp_loop (I := fun κ σ => ∃ (i : Nat), ((i ≤ xs.length) ∧ (∀ j, j < i → List.getD xs j 0 = List.getD ys j 0) ∧ xs.length - i = κ) ∧ σ = ⟨26, [(0, .one (.ro (.ints .i64 xs))), (1, .one (.ro (.ints .i64 ys))), (12, .one (.int .i64 ((xs.length : Nat) : Int))), (13, .one (.int .i64 ((i : Nat) : Int)))], []⟩) _ ⟨0, ⟨(by omega), (by intro j hj; omega), rfl⟩, (by kernel_rfl)⟩ ?_
    rintro κ _ ⟨i, ⟨hi, hp, rfl⟩, rfl⟩
    refine awp_run_seq [0, 1, 12, 13, 14] [] [] ⟨26, [(0, .one (.ro (.ints .i64 xs))), (1, .one (.ro (.ints .i64 ys))), (12, .one (.int .i64 ((xs.length : Nat) : Int))), (13, .one (.int .i64 ((i : Nat) : Int))), (14, .one (.bool (decide (((i : Nat) : Int) < ((xs.length : Nat) : Int)))))], []⟩ hT (by kernel_rfl) trivial ?_
    refine awp_seq ?_
    refine awp_cond (b := (decide (((i : Nat) : Int) < ((xs.length : Nat) : Int)))) (by kernel_rfl) (fun c4 => ?_) (fun c4 => ?_)
    · -- yes 4
      try simp only [bs] at c4
      refine awp_skip ?_
      refine awp_seq ?_
      refine awp_block ?_
      refine awp_run_seq [0, 1, 5, 12, 13] [] [] ⟨26, [(0, .one (.ro (.ints .i64 xs))), (1, .one (.ro (.ints .i64 ys))), (5, .one (.int .i64 ((i : Nat) : Int))), (12, .one (.int .i64 ((xs.length : Nat) : Int))), (13, .one (.int .i64 ((i : Nat) : Int)))], []⟩ hT (by kernel_rfl) trivial ?_
      refine awp_seq (awp_still [0, 1, 12, 13, 24] [] [((0 : Int) ≤ ((i : Nat) : Int)), (((i : Nat) : Int) < ((xs.length : Nat) : Int)), ((0 : Int) ≤ ((i : Nat) : Int)), (((i : Nat) : Int) < ((ys.length : Nat) : Int))] ⟨26, [(0, .one (.ro (.ints .i64 xs))), (1, .one (.ro (.ints .i64 ys))), (12, .one (.int .i64 ((xs.length : Nat) : Int))), (13, .one (.int .i64 ((i : Nat) : Int))), (24, .one (.bool (decide ((List.getD xs i 0) ≠ (List.getD ys i 0)))))], []⟩ (by kernel_rfl) (by kernel_rfl) hT (by kernel_rfl) ⟨(by first | omega | (simp only [lens]; omega) | (simp only [Bool.cond_decide]; omega) | (simp only [nadd_eq]; omega)), (by first | omega | (simp only [lens]; omega) | (simp only [Bool.cond_decide]; omega) | (simp only [nadd_eq]; omega)), (by first | omega | (simp only [lens]; omega) | (simp only [Bool.cond_decide]; omega) | (simp only [nadd_eq]; omega)), (by first | omega | (simp only [lens]; omega) | (simp only [Bool.cond_decide]; omega) | (simp only [nadd_eq]; omega)), trivial⟩ ?_)
      refine awp_cond (b := (decide ((List.getD xs i 0) ≠ (List.getD ys i 0)))) (by kernel_rfl) (fun c6 => ?_) (fun c6 => ?_)
      · -- yes 6
        try simp only [bs] at c6
        refine awp_run_seq [4] [] [] ⟨26, [(4, .one (.bool false))], []⟩ hT (by kernel_rfl) trivial ?_
        refine awp_ret ?_
        refine kRet.ret _ [] [] (.one (.bool false)) [] (by kernel_rfl) trivial ?_
        exact ⟨congrArg (fun x1 => (.one (.bool x1) : AV)) (show false = (decide (xs = ys)) from by exact eq_no (fun h => by subst h; simp at c6)), rfl⟩
      · -- no 6
        try simp only [bs] at c6
        refine awp_skip ?_
        refine awp_run [0, 1, 12, 13] [] [(-9223372036854775808 ≤ (((i + 1) : Nat) : Int) ∧ (((i + 1) : Nat) : Int) ≤ 9223372036854775807)] ⟨26, [(0, .one (.ro (.ints .i64 xs))), (1, .one (.ro (.ints .i64 ys))), (12, .one (.int .i64 ((xs.length : Nat) : Int))), (13, .one (.int .i64 (((i + 1) : Nat) : Int)))], []⟩ hT (by kernel_rfl) ⟨(by first | omega | (simp only [lens]; omega) | (simp only [Bool.cond_decide]; omega) | (simp only [nadd_eq]; omega)), trivial⟩ ?_
        refine loop_end _ ?_ ⟨(i + 1), ⟨(by omega), (by intro j hj; rcases Nat.lt_succ_iff_lt_or_eq.1 hj with h | h; exact hp j h; subst h; simpa using c6), rfl⟩, (by kernel_rfl)⟩
        omega
    · -- no 4
      try simp only [bs] at c4
      refine awp_exit ?_
      refine awp_run_seq [4] [] [] ⟨26, [(4, .one (.bool true))], []⟩ hT (by kernel_rfl) trivial ?_
      refine awp_ret ?_
      refine kRet.ret _ [] [] (.one (.bool true)) [] (by kernel_rfl) trivial ?_
      exact ⟨congrArg (fun x1 => (.one (.bool x1) : AV)) (show true = (decide (xs = ys)) from by exact eq_yes (list_ext 0 (by omega) (fun j hj => hp j (by omega)))), rfl⟩

end Go.Ab
