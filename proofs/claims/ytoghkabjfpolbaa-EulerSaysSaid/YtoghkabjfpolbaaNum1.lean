/- Of lists that hold each number once. -/
import Derived.Test.YtoghkabjfpolbaaTab
import Derived.Test.YtoghkabjfpolbaaF2
import Derived.Test.YtoghkabjfpolbaaSort1
import Derived.Test.YtoghkabjfpolbaaPlSort
set_option maxRecDepth 100000
namespace Go.Ab
open Go Go.Proofs
theorem ref_numbers (l : List Int) (m : Nat) (hl : l.length * 8 ≤ 140737488355328) : ACall Try.prog 45 [.one (.ro (.ints .i64 l)), .one (.int .i64 ((m : Nat) : Int))] [] (fun ov oh => ov = .one (.bool (fullB m l)) ∧ oh = []) := by
  refine acall_intro hT Try.func45 rfl (by kernel_rfl) rfl (by kernel_rfl) ?_
  have hsl := sorted_len l
  refine awp_run_seq [0, 1] [] [] ⟨27, [(0, .one (.ro (.ints .i64 l))), (1, .one (.int .i64 ((m : Nat) : Int)))], []⟩ hT (by kernel_rfl) trivial ?_
  refine awp_seq (awp_region ?_)
  refine aops_run 1 [1, 8] [] [] ⟨27, [(1, .one (.int .i64 ((m : Nat) : Int))), (8, .one (.ro (.ints .i64 l)))], []⟩ hT (by kernel_rfl) (by kernel_rfl) trivial ?_
  refine aops_call [] [(9001, 109)] false ⟨true, [], 80, [.one (.ro (.ints .i64 l))], []⟩ [.one (.ro (.ints .i64 l))] (sm := ⟨27, [(1, .one (.int .i64 ((m : Nat) : Int))), (8, .one (.ro (.ints .i64 l))), (9, .whn false (.one .any))], []⟩) (by kernel_rfl) (by kernel_rfl) (by decide) (fun _ => trivial) rfl (fun _ => clone_ints l (by first | omega | (simp; omega))) (fun _ v Hr hv => ?_) (fun h => by cases h)
  obtain ⟨rfl, rfl⟩ := hv
  refine ⟨⟨27, [(1, .one (.int .i64 ((m : Nat) : Int))), (8, .one (.ro (.ints .i64 l))), (9, .one (.rw 109 0 l.length))], [(109, .flat (.ints .i64 l))]⟩, by kernel_rfl, ?_⟩
  refine aops_run 1 [1, 5] [109] [] ⟨27, [(1, .one (.int .i64 ((m : Nat) : Int))), (5, .one (.rw 109 0 l.length))], [(109, .flat (.ints .i64 l))]⟩ hT (by kernel_rfl) (by kernel_rfl) trivial ?_
  refine aops_end_seq (by kernel_rfl) ?_
  refine awp_seq (awp_region ?_)
  refine aops_run 1 [1, 5, 10] [109] [] ⟨27, [(1, .one (.int .i64 ((m : Nat) : Int))), (5, .one (.rw 109 0 l.length)), (10, .one (.rw 109 0 l.length))], [(109, .flat (.ints .i64 l))]⟩ hT (by kernel_rfl) (by kernel_rfl) trivial ?_
  refine aops_call [(1, 109)] [] false ⟨true, [], 115, [.one (.rw 1 0 l.length)], [(1, .flat (.ints .i64 l))]⟩ [.one (.rw 1 0 l.length)] (sm := ⟨27, [(1, .one (.int .i64 ((m : Nat) : Int))), (5, .one (.rw 109 0 l.length)), (10, .one (.rw 109 0 l.length)), (11, .whn false (.one .any))], [(109, .flat (.ints .i64 l))]⟩) (by kernel_rfl) (by kernel_rfl) (by decide) (fun _ => trivial) rfl (fun _ => sort_is 1 l (by first | omega | (simp; omega))) (fun _ v Hr hv => ?_) (fun h => by cases h)
  obtain ⟨rfl, rfl⟩ := hv
  refine ⟨⟨27, [(1, .one (.int .i64 ((m : Nat) : Int))), (5, .one (.rw 109 0 l.length)), (10, .one (.rw 109 0 l.length)), (11, .tup [])], [(109, .flat (.ints .i64 (sorted l)))]⟩, by kernel_rfl, ?_⟩
  refine aops_cut [1, 5] [109] ⟨27, [(1, .one (.int .i64 ((m : Nat) : Int))), (5, .one (.rw 109 0 l.length))], [(109, .flat (.ints .i64 (sorted l)))]⟩ (by kernel_rfl) ?_
  refine aops_end_seq (by kernel_rfl) ?_
  refine awp_seq ?_
  refine awp_run_seq [1, 5, 12, 13, 14] [109] [] ⟨27, [(1, .one (.int .i64 ((m : Nat) : Int))), (5, .one (.rw 109 0 l.length)), (12, .one (.rw 109 0 l.length)), (13, .one (.int .i64 ((l.length : Nat) : Int))), (14, .one (.int .i64 0))], [(109, .flat (.ints .i64 (sorted l)))]⟩ hT (by kernel_rfl) trivial ?_
  refine awp_block ?_
  refine awp_loop (I := fun κ σ => ∃ (i : Nat), ((i ≤ l.length) ∧ (∀ j, j < i → (sorted l).getD j 0 = ((j : Nat) : Int)) ∧ l.length - i = κ) ∧ σ = ⟨27, [(1, .one (.int .i64 ((m : Nat) : Int))), (5, .one (.rw 109 0 l.length)), (12, .one (.rw 109 0 l.length)), (13, .one (.int .i64 ((l.length : Nat) : Int))), (14, .one (.int .i64 ((i : Nat) : Int)))], [(109, .flat (.ints .i64 (sorted l)))]⟩) _ ⟨0, ⟨(by omega), (by intro j hj; omega), rfl⟩, (by kernel_rfl)⟩ ?_
  rintro κ _ ⟨i, ⟨hi, hp, rfl⟩, rfl⟩
  refine awp_run_seq [1, 5, 12, 13, 14, 15] [109] [] ⟨27, [(1, .one (.int .i64 ((m : Nat) : Int))), (5, .one (.rw 109 0 l.length)), (12, .one (.rw 109 0 l.length)), (13, .one (.int .i64 ((l.length : Nat) : Int))), (14, .one (.int .i64 ((i : Nat) : Int))), (15, .one (.bool (decide (((i : Nat) : Int) < ((l.length : Nat) : Int)))))], [(109, .flat (.ints .i64 (sorted l)))]⟩ hT (by kernel_rfl) trivial ?_
  refine awp_seq ?_
  refine awp_cond (b := (decide (((i : Nat) : Int) < ((l.length : Nat) : Int)))) (by kernel_rfl) (fun c4 => ?_) (fun c4 => ?_)
  · -- yes 4
    try simp only [bs] at c4
    refine awp_skip ?_
    refine awp_seq ?_
    refine awp_block ?_
    refine awp_run_seq [1, 5, 6, 7, 12, 13, 14] [109] [((0 : Int) ≤ ((i : Nat) : Int)), (((i : Nat) : Int) < ((l.length : Nat) : Int)), (i < (List.length (sorted l)))] ⟨27, [(1, .one (.int .i64 ((m : Nat) : Int))), (5, .one (.rw 109 0 l.length)), (6, .one (.int .i64 ((i : Nat) : Int))), (7, .one (.int .i64 (List.getD (sorted l) i 0))), (12, .one (.rw 109 0 l.length)), (13, .one (.int .i64 ((l.length : Nat) : Int))), (14, .one (.int .i64 ((i : Nat) : Int)))], [(109, .flat (.ints .i64 (sorted l)))]⟩ hT (by kernel_rfl) ⟨(by first | omega | (simp only [lens]; omega) | (simp only [Bool.cond_decide]; omega)), (by first | omega | (simp only [lens]; omega) | (simp only [Bool.cond_decide]; omega)), (by first | omega | (simp only [lens]; omega) | (simp only [Bool.cond_decide]; omega)), trivial⟩ ?_
    refine awp_run_seq [1, 5, 12, 13, 14, 21] [109] [] ⟨27, [(1, .one (.int .i64 ((m : Nat) : Int))), (5, .one (.rw 109 0 l.length)), (12, .one (.rw 109 0 l.length)), (13, .one (.int .i64 ((l.length : Nat) : Int))), (14, .one (.int .i64 ((i : Nat) : Int))), (21, .one (.bool (decide ((List.getD (sorted l) i 0) ≠ ((i : Nat) : Int)))))], [(109, .flat (.ints .i64 (sorted l)))]⟩ hT (by kernel_rfl) trivial ?_
    refine awp_cond (b := (decide ((List.getD (sorted l) i 0) ≠ ((i : Nat) : Int)))) (by kernel_rfl) (fun c6 => ?_) (fun c6 => ?_)
    · -- yes 6
      try simp only [bs] at c6
      refine awp_run_seq [4] [] [] ⟨27, [(4, .one (.bool false))], []⟩ hT (by kernel_rfl) trivial ?_
      refine awp_ret ?_
      refine kRet.ret _ [] [] (.one (.bool false)) [] (by kernel_rfl) trivial ?_
      exact ⟨congrArg (fun x1 => (.one (.bool x1) : AV)) (show false = (fullB m l) from by exact (fullB_no (not_full_of_sorted (k := i) (by omega) c6)).symm), rfl⟩
    · -- no 6
      try simp only [bs] at c6
      refine awp_skip ?_
      refine awp_run [1, 5, 12, 13, 14] [109] [(-9223372036854775808 ≤ (((i + 1) : Nat) : Int) ∧ (((i + 1) : Nat) : Int) ≤ 9223372036854775807)] ⟨27, [(1, .one (.int .i64 ((m : Nat) : Int))), (5, .one (.rw 109 0 l.length)), (12, .one (.rw 109 0 l.length)), (13, .one (.int .i64 ((l.length : Nat) : Int))), (14, .one (.int .i64 (((i + 1) : Nat) : Int)))], [(109, .flat (.ints .i64 (sorted l)))]⟩ hT (by kernel_rfl) ⟨(by first | omega | (simp only [lens]; omega) | (simp only [Bool.cond_decide]; omega)), trivial⟩ ?_
      refine loop_end _ ?_ ⟨(i + 1), ⟨(by omega), (by intro j hj; rcases Nat.lt_succ_iff_lt_or_eq.1 hj with h | h; exact hp j h; subst h; omega), rfl⟩, (by kernel_rfl)⟩
      omega
  · -- no 4
    try simp only [bs] at c4
    have hfl : isFull l.length l := full_of_sorted (fun j hj => hp j (by omega))
    refine awp_exit ?_
    refine awp_run_seq [4] [] [] ⟨27, [(4, .one (.bool (decide (((l.length : Nat) : Int) = ((m : Nat) : Int)))))], []⟩ hT (by kernel_rfl) trivial ?_
    refine awp_ret ?_
    refine kRet.ret _ [] [] (.one (.bool (decide (((l.length : Nat) : Int) = ((m : Nat) : Int))))) [] (by kernel_rfl) trivial ?_
    exact ⟨congrArg (fun x1 => (.one (.bool x1) : AV)) (show (decide (((l.length : Nat) : Int) = ((m : Nat) : Int))) = (fullB m l) from by exact fullB_is hfl), rfl⟩

end Go.Ab
