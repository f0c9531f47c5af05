/- Of slices: the least of a list. -/
import Derived.Test.YtakfbagokponeaaTab
import Derived.Test.YtakfbagokponeaaF1
set_option maxRecDepth 100000
namespace Go.Ab
open Go Go.Proofs
theorem min_ints (l : List Int) (hl : l ≠ []) : ACall Try.prog 56 [.one (.ro (.ints .i64 l))] [] (fun ov oh => ov = .one (.int .i64 (minOf l)) ∧ oh = []) := by
  refine acall_intro hT Try.func56 rfl (by kernel_rfl) rfl (by kernel_rfl) ?_
  refine awp_len 0 0 (.ints .i64 l) (by kernel_rfl) (fun hlen => ?_)
  simp only [C0.len, maxLen] at hlen
  have hpos : 0 < l.length := List.length_pos_iff.2 hl
  refine awp_run_seq [0] [] [] ⟨25, [(0, .one (.ro (.ints .i64 l)))], []⟩ hT (by kernel_rfl) trivial ?_
  refine awp_seq ?_
  refine awp_run_seq [0, 7] [] [] ⟨25, [(0, .one (.ro (.ints .i64 l))), (7, .one (.bool (decide (((l.length : Nat) : Int) < 1))))], []⟩ hT (by kernel_rfl) trivial ?_
  refine awp_cond (b := (decide (((l.length : Nat) : Int) < 1))) (by kernel_rfl) (fun c1 => ?_) (fun c1 => ?_)
  · -- yes 1
    try simp only [bs] at c1
    exfalso; omega
  · -- no 1
    try simp only [bs] at c1
    refine awp_skip ?_
    refine awp_run_seq [0, 3] [] [((0 : Int) ≤ (0 : Int)), ((0 : Int) < ((l.length : Nat) : Int))] ⟨25, [(0, .one (.ro (.ints .i64 l))), (3, .one (.int .i64 (List.getD l 0 0)))], []⟩ hT (by kernel_rfl) ⟨(by first | omega | (simp only [lens]; omega) | (simp only [Bool.cond_decide]; omega) | (simp only [nadd_eq]; omega)), (by first | omega | (simp only [lens]; omega) | (simp only [Bool.cond_decide]; omega) | (simp only [nadd_eq]; omega)), trivial⟩ ?_
    refine awp_seq ?_
    refine awp_run_seq [0, 3, 4] [] [] ⟨25, [(0, .one (.ro (.ints .i64 l))), (3, .one (.int .i64 (List.getD l 0 0))), (4, .one (.int .i64 1))], []⟩ hT (by kernel_rfl) trivial ?_
    refine awp_block ?_
    refine awp_loop (I := fun κ σ => ∃ (i : Nat) (m : Int), ((1 ≤ i) ∧ (i ≤ l.length) ∧ ((l.drop i).foldl min m = minOf l) ∧ l.length - i = κ) ∧ σ = ⟨25, [(0, .one (.ro (.ints .i64 l))), (3, .one (.int .i64 m)), (4, .one (.int .i64 ((i : Nat) : Int)))], []⟩) _ ⟨1, (List.getD l 0 0), ⟨(by omega), (by omega), (by cases l with | nil => exact absurd rfl hl | cons x r => rfl), rfl⟩, (by kernel_rfl)⟩ ?_
    rintro κ _ ⟨i, m, ⟨h1, hi, hm, rfl⟩, rfl⟩
    refine awp_seq ?_
    refine awp_run_seq [0, 3, 4, 15] [] [] ⟨25, [(0, .one (.ro (.ints .i64 l))), (3, .one (.int .i64 m)), (4, .one (.int .i64 ((i : Nat) : Int))), (15, .one (.bool (decide (((i : Nat) : Int) < ((l.length : Nat) : Int)))))], []⟩ hT (by kernel_rfl) trivial ?_
    refine awp_cond (b := (decide (((i : Nat) : Int) < ((l.length : Nat) : Int)))) (by kernel_rfl) (fun c5 => ?_) (fun c5 => ?_)
    · -- yes 5
      try simp only [bs] at c5
      refine awp_skip ?_
      refine awp_seq ?_
      refine awp_block ?_
      refine awp_run [0, 3, 4] [] [((0 : Int) ≤ ((i : Nat) : Int)), (((i : Nat) : Int) < ((l.length : Nat) : Int))] ⟨25, [(0, .one (.ro (.ints .i64 l))), (3, .one (.int .i64 (min m (List.getD l i 0)))), (4, .one (.int .i64 ((i : Nat) : Int)))], []⟩ hT (by kernel_rfl) ⟨(by first | omega | (simp only [lens]; omega) | (simp only [Bool.cond_decide]; omega) | (simp only [nadd_eq]; omega)), (by first | omega | (simp only [lens]; omega) | (simp only [Bool.cond_decide]; omega) | (simp only [nadd_eq]; omega)), trivial⟩ ?_
      refine awp_run [0, 3, 4] [] [(-9223372036854775808 ≤ (((i + 1) : Nat) : Int) ∧ (((i + 1) : Nat) : Int) ≤ 9223372036854775807)] ⟨25, [(0, .one (.ro (.ints .i64 l))), (3, .one (.int .i64 (min m (List.getD l i 0)))), (4, .one (.int .i64 (((i + 1) : Nat) : Int)))], []⟩ hT (by kernel_rfl) ⟨(by first | omega | (simp only [lens]; omega) | (simp only [Bool.cond_decide]; omega) | (simp only [nadd_eq]; omega)), trivial⟩ ?_
      refine loop_end _ ?_ ⟨(i + 1), (min m (List.getD l i 0)), ⟨(by omega), (by omega), (by rw [drop_getD l 0 i (by omega)] at hm; simpa using hm), rfl⟩, (by kernel_rfl)⟩
      omega
    · -- no 5
      try simp only [bs] at c5
      refine awp_exit ?_
      refine awp_run_seq [2] [] [] ⟨25, [(2, .one (.int .i64 m))], []⟩ hT (by kernel_rfl) trivial ?_
      refine awp_ret ?_
      refine kRet.ret _ [] [] (.one (.int .i64 m)) [] (by kernel_rfl) trivial ?_
      exact ⟨congrArg (fun x1 => (.one (.int .i64 x1) : AV)) (show m = (minOf l) from by rw [List.drop_of_length_le (by omega)] at hm; exact hm), rfl⟩

end Go.Ab
