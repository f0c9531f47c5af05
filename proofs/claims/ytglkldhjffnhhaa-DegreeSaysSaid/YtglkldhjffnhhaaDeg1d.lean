/- Of degrees: the check, and Can. -/
import Derived.Test.YtglkldhjffnhhaaTab
import Derived.Test.YtglkldhjffnhhaaF2
import Derived.Test.YtglkldhjffnhhaaSort1
import Derived.Test.YtglkldhjffnhhaaRev1
import Derived.Test.YtglkldhjffnhhaaPlDegree3
set_option maxRecDepth 100000
namespace Go.Ab
open Go Go.Proofs
theorem degree_check (l : List Int) : ACall Try.prog 71 [.one (.ro (.ints .i64 l))] [] (fun ov oh => ov = .one (.int .i64 (degErr l)) ∧ oh = []) := by
  refine acall_intro hT Try.func71 rfl (by kernel_rfl) rfl (by kernel_rfl) ?_
  refine awp_run_seq [0] [] [] ⟨23, [(0, .one (.ro (.ints .i64 l)))], []⟩ hT (by kernel_rfl) trivial ?_
  refine awp_seq ?_
  refine awp_run_seq [0, 7] [] [] ⟨23, [(0, .one (.ro (.ints .i64 l))), (7, .one (.bool (decide ((12 : Int) < ((l.length : Nat) : Int)))))], []⟩ hT (by kernel_rfl) trivial ?_
  refine awp_cond (b := (decide ((12 : Int) < ((l.length : Nat) : Int)))) (by kernel_rfl) (fun c1 => ?_) (fun c1 => ?_)
  · -- yes 1
    try simp only [bs] at c1
    refine awp_run_seq [2] [] [] ⟨23, [(2, .one (.int .i64 2))], []⟩ hT (by kernel_rfl) trivial ?_
    refine awp_ret ?_
    refine kRet.ret _ [] [] (.one (.int .i64 2)) [] (by kernel_rfl) trivial ?_
    exact ⟨congrArg (fun x1 => (.one (.int .i64 x1) : AV)) (show 2 = (degErr l) from by rw [degErr, if_pos (by omega)]), rfl⟩
  · -- no 1
    try simp only [bs] at c1
    refine awp_skip ?_
    refine awp_seq ?_
    refine awp_run_seq [0, 8, 9, 10] [] [] ⟨23, [(0, .one (.ro (.ints .i64 l))), (8, .one (.ro (.ints .i64 l))), (9, .one (.int .i64 ((l.length : Nat) : Int))), (10, .one (.int .i64 0))], []⟩ hT (by kernel_rfl) trivial ?_
    refine awp_block ?_
    refine awp_loop (I := fun κ σ => ∃ (i : Nat), ((i ≤ l.length) ∧ (∀ j, j < i → (fun x => decide (x < 0) || decide ((l.length : Int) ≤ x)) (l.getD j 0) = false) ∧ l.length - i = κ) ∧ σ = ⟨23, [(0, .one (.ro (.ints .i64 l))), (8, .one (.ro (.ints .i64 l))), (9, .one (.int .i64 ((l.length : Nat) : Int))), (10, .one (.int .i64 ((i : Nat) : Int)))], []⟩) _ ⟨0, ⟨(by omega), (by intro j hj; omega), rfl⟩, (by kernel_rfl)⟩ ?_
    rintro κ _ ⟨i, ⟨hi, hp, rfl⟩, rfl⟩
    refine awp_run_seq [0, 8, 9, 10, 11] [] [] ⟨23, [(0, .one (.ro (.ints .i64 l))), (8, .one (.ro (.ints .i64 l))), (9, .one (.int .i64 ((l.length : Nat) : Int))), (10, .one (.int .i64 ((i : Nat) : Int))), (11, .one (.bool (decide (((i : Nat) : Int) < ((l.length : Nat) : Int)))))], []⟩ hT (by kernel_rfl) trivial ?_
    refine awp_seq ?_
    refine awp_cond (b := (decide (((i : Nat) : Int) < ((l.length : Nat) : Int)))) (by kernel_rfl) (fun c4 => ?_) (fun c4 => ?_)
    · -- yes 4
      try simp only [bs] at c4
      refine awp_skip ?_
      refine awp_seq ?_
      refine awp_block ?_
      refine awp_run_seq [0, 4, 8, 9, 10] [] [((0 : Int) ≤ ((i : Nat) : Int)), (((i : Nat) : Int) < ((l.length : Nat) : Int))] ⟨23, [(0, .one (.ro (.ints .i64 l))), (4, .one (.int .i64 (List.getD l i 0))), (8, .one (.ro (.ints .i64 l))), (9, .one (.int .i64 ((l.length : Nat) : Int))), (10, .one (.int .i64 ((i : Nat) : Int)))], []⟩ hT (by kernel_rfl) ⟨(by first | omega | (simp only [lens]; omega) | (simp only [Bool.cond_decide]; omega) | (simp only [nadd_eq]; omega)), (by first | omega | (simp only [lens]; omega) | (simp only [Bool.cond_decide]; omega) | (simp only [nadd_eq]; omega)), trivial⟩ ?_
      refine awp_run_seq [0, 8, 9, 10, 21] [] [((!(decide ((List.getD l i 0) < 0))) = true → ((!(decide ((List.getD l i 0) < 0))) = true → (!(decide ((List.getD l i 0) < 0))) = true)), ((!(decide ((List.getD l i 0) < 0))) = true → ((!(decide ((List.getD l i 0) < 0))) = true → (!(decide ((List.getD l i 0) < 0))) = true)), ((!(decide ((List.getD l i 0) < 0))) = true → ((!(decide ((List.getD l i 0) < 0))) = true → (!(decide ((List.getD l i 0) < 0))) = true)), ((!(decide ((List.getD l i 0) < 0))) = true → (!(decide ((List.getD l i 0) < 0))) = true)] ⟨23, [(0, .one (.ro (.ints .i64 l))), (8, .one (.ro (.ints .i64 l))), (9, .one (.int .i64 ((l.length : Nat) : Int))), (10, .one (.int .i64 ((i : Nat) : Int))), (21, .one (.bool ((decide ((List.getD l i 0) < 0)) || (decide (((l.length : Nat) : Int) ≤ (List.getD l i 0))))))], []⟩ hT (by kernel_rfl) ⟨(by intro hg; first | exact hg | skip; (try simp only [bs] at hg ⊢); first | exact hg | first | omega | (simp only [lens]; omega) | (simp only [Bool.cond_decide]; omega) | (simp only [nadd_eq]; omega) | grind), (by intro hg; first | exact hg | skip; (try simp only [bs] at hg ⊢); first | exact hg | first | omega | (simp only [lens]; omega) | (simp only [Bool.cond_decide]; omega) | (simp only [nadd_eq]; omega) | grind), (by intro hg; first | exact hg | skip; (try simp only [bs] at hg ⊢); first | exact hg | first | omega | (simp only [lens]; omega) | (simp only [Bool.cond_decide]; omega) | (simp only [nadd_eq]; omega) | grind), (fun h => h), trivial⟩ ?_
      refine awp_cond (b := ((decide ((List.getD l i 0) < 0)) || (decide (((l.length : Nat) : Int) ≤ (List.getD l i 0))))) (by kernel_rfl) (fun c6 => ?_) (fun c6 => ?_)
      · -- yes 6
        try simp only [bs] at c6
        have hyes : (l.any fun x => decide (x < 0) || decide ((l.length : Int) ≤ x)) = true := any_at (d := 0) (i := i) (by omega) (by rw [Bool.or_eq_true, decide_eq_true_eq, decide_eq_true_eq]; omega)
        refine awp_run_seq [2] [] [] ⟨23, [(2, .one (.int .i64 1))], []⟩ hT (by kernel_rfl) trivial ?_
        refine awp_ret ?_
        refine kRet.ret _ [] [] (.one (.int .i64 1)) [] (by kernel_rfl) trivial ?_
        exact ⟨congrArg (fun x1 => (.one (.int .i64 x1) : AV)) (show 1 = (degErr l) from by rw [degErr, if_neg (by omega), if_pos hyes]), rfl⟩
      · -- no 6
        try simp only [bs] at c6
        have hob : (fun x => decide (x < 0) || decide ((l.length : Int) ≤ x)) (l.getD i 0) = false := by simp only [Bool.or_eq_false_iff, decide_eq_false_iff_not]; omega
        refine awp_skip ?_
        refine awp_run [0, 8, 9, 10] [] [(-9223372036854775808 ≤ (((i + 1) : Nat) : Int) ∧ (((i + 1) : Nat) : Int) ≤ 9223372036854775807)] ⟨23, [(0, .one (.ro (.ints .i64 l))), (8, .one (.ro (.ints .i64 l))), (9, .one (.int .i64 ((l.length : Nat) : Int))), (10, .one (.int .i64 (((i + 1) : Nat) : Int)))], []⟩ hT (by kernel_rfl) ⟨(by first | omega | (simp only [lens]; omega) | (simp only [Bool.cond_decide]; omega) | (simp only [nadd_eq]; omega)), trivial⟩ ?_
        refine loop_end _ ?_ ⟨(i + 1), ⟨(by omega), (by intro j hj; rcases Nat.lt_succ_iff_lt_or_eq.1 hj with q | q; exact hp j q; subst q; exact hob), rfl⟩, (by kernel_rfl)⟩
        omega
    · -- no 4
      try simp only [bs] at c4
      have hno : (l.any fun x => decide (x < 0) || decide ((l.length : Int) ≤ x)) = false := any_none (d := 0) (fun j hj => hp j (by omega))
      refine awp_exit ?_
      refine awp_run_seq [2] [] [] ⟨23, [(2, .one (.int .i64 0))], []⟩ hT (by kernel_rfl) trivial ?_
      refine awp_ret ?_
      refine kRet.ret _ [] [] (.one (.int .i64 0)) [] (by kernel_rfl) trivial ?_
      exact ⟨congrArg (fun x1 => (.one (.int .i64 x1) : AV)) (show 0 = (degErr l) from by rw [degErr, if_neg (by omega), if_neg (by rw [hno]; decide)]), rfl⟩

theorem degree_can (l : List Int) : ACall Try.prog 68 [.one (.ro (.ints .i64 l))] [] (fun ov oh => ov = .tup [(false, [(.bool (canB l))]), (false, [(.int .i64 (degErr l))])] ∧ oh = []) := by
  refine acall_intro hT Try.func68 rfl (by kernel_rfl) rfl (by kernel_rfl) ?_
  refine awp_run_seq [0] [] [] ⟨60, [(0, .one (.ro (.ints .i64 l)))], []⟩ hT (by kernel_rfl) trivial ?_
  refine awp_seq ?_
  refine awp_seq (awp_region ?_)
  refine aops_run 1 [0, 12] [] [] ⟨60, [(0, .one (.ro (.ints .i64 l))), (12, .one (.ro (.ints .i64 l)))], []⟩ hT (by kernel_rfl) (by kernel_rfl) trivial ?_
  refine aops_pure false ⟨true, [], 71, [.one (.ro (.ints .i64 l))], []⟩ [.one (.ro (.ints .i64 l))] (.one (.int .i64 (degErr l))) ⟨60, [(0, .one (.ro (.ints .i64 l))), (12, .one (.ro (.ints .i64 l))), (13, .one (.int .i64 (degErr l)))], []⟩ (by kernel_rfl) (by kernel_rfl) (fun _ => trivial) rfl (fun _ => degree_check l) ?_
  refine aops_run 1 [0, 4] [] [] ⟨60, [(0, .one (.ro (.ints .i64 l))), (4, .one (.int .i64 (degErr l)))], []⟩ hT (by kernel_rfl) (by kernel_rfl) trivial ?_
  refine aops_end_seq (by kernel_rfl) ?_
  refine awp_run_seq [0, 4, 15] [] [] ⟨60, [(0, .one (.ro (.ints .i64 l))), (4, .one (.int .i64 (degErr l))), (15, .one (.bool (decide ((degErr l) ≠ 0))))], []⟩ hT (by kernel_rfl) trivial ?_
  refine awp_cond (b := (decide ((degErr l) ≠ 0))) (by kernel_rfl) (fun c2 => ?_) (fun c2 => ?_)
  · -- yes 2
    try simp only [bs] at c2
    refine awp_run_seq [2, 3] [] [] ⟨60, [(2, .one (.bool false)), (3, .one (.int .i64 (degErr l)))], []⟩ hT (by kernel_rfl) trivial ?_
    refine awp_ret ?_
    refine kRet.ret _ [] [] (.tup [(false, [(.bool false)]), (false, [(.int .i64 (degErr l))])]) [] (by kernel_rfl) trivial ?_
    exact ⟨congrArg (fun x1 => (.tup [(false, [(.bool x1)]), (false, [(.int .i64 (degErr l))])] : AV)) (show false = (canB l) from by exact (canB_bad (by omega)).symm), rfl⟩
  · -- no 2
    try simp only [bs] at c2
    have hE : (degErr l) = 0 := by omega
    obtain ⟨hl12, _⟩ := degErr_ok hE
    have hdl := desc_len l
    have hsl := sorted_len l
    refine awp_skip ?_
    refine awp_seq (awp_region ?_)
    refine aops_run 1 [17] [] [] ⟨60, [(17, .one (.ro (.ints .i64 l)))], []⟩ hT (by kernel_rfl) (by kernel_rfl) trivial ?_
    refine aops_call [] [(9001, 118)] false ⟨true, [], 82, [.one (.ro (.ints .i64 l))], []⟩ [.one (.ro (.ints .i64 l))] (sm := ⟨60, [(17, .one (.ro (.ints .i64 l))), (18, .whn false (.one .any))], []⟩) (by kernel_rfl) (by kernel_rfl) (by decide) (fun _ => trivial) rfl (fun _ => clone_ints l (by first | omega | (simp; omega))) (fun _ v Hr hv => ?_) (fun h => by cases h)
    obtain ⟨rfl, rfl⟩ := hv
    refine ⟨⟨60, [(17, .one (.ro (.ints .i64 l))), (18, .one (.rw 118 0 l.length))], [(118, .flat (.ints .i64 l))]⟩, by kernel_rfl, ?_⟩
    refine aops_run 1 [5] [118] [] ⟨60, [(5, .one (.rw 118 0 l.length))], [(118, .flat (.ints .i64 l))]⟩ hT (by kernel_rfl) (by kernel_rfl) trivial ?_
    refine aops_end_seq (by kernel_rfl) ?_
    refine awp_seq (awp_region ?_)
    refine aops_run 1 [5, 19] [118] [] ⟨60, [(5, .one (.rw 118 0 l.length)), (19, .one (.rw 118 0 l.length))], [(118, .flat (.ints .i64 l))]⟩ hT (by kernel_rfl) (by kernel_rfl) trivial ?_
    refine aops_call [(1, 118)] [] false ⟨true, [], 128, [.one (.rw 1 0 l.length)], [(1, .flat (.ints .i64 l))]⟩ [.one (.rw 1 0 l.length)] (sm := ⟨60, [(5, .one (.rw 118 0 l.length)), (19, .one (.rw 118 0 l.length)), (20, .whn false (.one .any))], [(118, .flat (.ints .i64 l))]⟩) (by kernel_rfl) (by kernel_rfl) (by decide) (fun _ => trivial) rfl (fun _ => sort_is 1 l (by first | omega | (simp; omega))) (fun _ v Hr hv => ?_) (fun h => by cases h)
    obtain ⟨rfl, rfl⟩ := hv
    refine ⟨⟨60, [(5, .one (.rw 118 0 l.length)), (19, .one (.rw 118 0 l.length)), (20, .tup [])], [(118, .flat (.ints .i64 (sorted l)))]⟩, by kernel_rfl, ?_⟩
    refine aops_cut [5] [118] ⟨60, [(5, .one (.rw 118 0 l.length))], [(118, .flat (.ints .i64 (sorted l)))]⟩ (by kernel_rfl) ?_
    refine aops_end_seq (by kernel_rfl) ?_
    refine awp_seq (awp_region ?_)
    refine aops_run 1 [5, 21] [118] [] ⟨60, [(5, .one (.rw 118 0 l.length)), (21, .one (.rw 118 0 l.length))], [(118, .flat (.ints .i64 (sorted l)))]⟩ hT (by kernel_rfl) (by kernel_rfl) trivial ?_
    rw [show l.length = (sorted l).length from (sorted_len l).symm]
    refine aops_call [(1, 118)] [] false ⟨true, [], 130, [.one (.rw 1 0 ((sorted l).length))], [(1, .flat (.ints .i64 (sorted l)))]⟩ [.one (.rw 1 0 ((sorted l).length))] (sm := ⟨60, [(5, .one (.rw 118 0 ((sorted l).length))), (21, .one (.rw 118 0 ((sorted l).length))), (22, .whn false (.one .any))], [(118, .flat (.ints .i64 (sorted l)))]⟩) (by kernel_rfl) (by kernel_rfl) (by decide) (fun _ => trivial) rfl (fun _ => reverse_ints (sorted l) (by first | omega | (simp; omega))) (fun _ v Hr hv => ?_) (fun h => by cases h)
    obtain ⟨rfl, rfl⟩ := hv
    refine ⟨⟨60, [(5, .one (.rw 118 0 ((sorted l).length))), (21, .one (.rw 118 0 ((sorted l).length))), (22, .tup [])], [(118, .flat (.ints .i64 (List.reverse (sorted l))))]⟩, by kernel_rfl, ?_⟩
    refine aops_cut [5] [118] ⟨60, [(5, .one (.rw 118 0 ((sorted l).length)))], [(118, .flat (.ints .i64 (List.reverse (sorted l))))]⟩ (by kernel_rfl) ?_
    refine aops_end_seq (by kernel_rfl) ?_
    rw [show (List.reverse (sorted l)) = (descOf l) from rfl]
    rw [show (sorted l).length = l.length from (sorted_len l)]
    refine awp_run_seq [5, 6] [118] [] ⟨60, [(5, .one (.rw 118 0 l.length)), (6, .one (.int .i64 0))], [(118, .flat (.ints .i64 (descOf l)))]⟩ hT (by kernel_rfl) trivial ?_
    refine awp_seq ?_
    refine awp_run_seq [5, 6, 23, 24, 25] [118] [] ⟨60, [(5, .one (.rw 118 0 l.length)), (6, .one (.int .i64 0)), (23, .one (.rw 118 0 l.length)), (24, .one (.int .i64 ((l.length : Nat) : Int))), (25, .one (.int .i64 0))], [(118, .flat (.ints .i64 (descOf l)))]⟩ hT (by kernel_rfl) trivial ?_
    refine awp_block ?_
    refine awp_loop (I := fun κ σ => ∃ (i : Nat) (sm : Int), ((i ≤ l.length) ∧ (sm = addL ((descOf l).take i)) ∧ (∀ k, k < i → egLine l k) ∧ l.length - i = κ) ∧ σ = ⟨60, [(5, .one (.rw 118 0 l.length)), (6, .one (.int .i64 sm)), (23, .one (.rw 118 0 l.length)), (24, .one (.int .i64 ((l.length : Nat) : Int))), (25, .one (.int .i64 ((i : Nat) : Int)))], [(118, .flat (.ints .i64 (descOf l)))]⟩) _ ⟨0, 0, ⟨(by omega), (by rfl), (by intro j hj; omega), rfl⟩, (by kernel_rfl)⟩ ?_
    rintro κ _ ⟨i, sm, ⟨hi, hs, hp, rfl⟩, rfl⟩
    have hs0 := addL_in hE i
    refine awp_run_seq [5, 6, 23, 24, 25, 26] [118] [] ⟨60, [(5, .one (.rw 118 0 l.length)), (6, .one (.int .i64 sm)), (23, .one (.rw 118 0 l.length)), (24, .one (.int .i64 ((l.length : Nat) : Int))), (25, .one (.int .i64 ((i : Nat) : Int))), (26, .one (.bool (decide (((i : Nat) : Int) < ((l.length : Nat) : Int)))))], [(118, .flat (.ints .i64 (descOf l)))]⟩ hT (by kernel_rfl) trivial ?_
    refine awp_seq ?_
    refine awp_cond (b := (decide (((i : Nat) : Int) < ((l.length : Nat) : Int)))) (by kernel_rfl) (fun c9 => ?_) (fun c9 => ?_)
    · -- yes 9
      try simp only [bs] at c9
      have hil : i < l.length := by omega
      have hda := desc_at hE hil
      have hst := addL_step hil
      have hs1 := addL_in hE (i + 1)
      have hii : i * (i + 1) ≤ 12 * 13 := Nat.mul_le_mul (by omega) (by omega)
      refine awp_skip ?_
      refine awp_seq ?_
      refine awp_block ?_
      refine awp_run_seq [5, 6, 7, 8, 23, 24, 25] [118] [((0 : Int) ≤ ((i : Nat) : Int)), (((i : Nat) : Int) < ((l.length : Nat) : Int)), (i < (List.length (descOf l)))] ⟨60, [(5, .one (.rw 118 0 l.length)), (6, .one (.int .i64 sm)), (7, .one (.int .i64 ((i : Nat) : Int))), (8, .one (.int .i64 (List.getD (descOf l) i 0))), (23, .one (.rw 118 0 l.length)), (24, .one (.int .i64 ((l.length : Nat) : Int))), (25, .one (.int .i64 ((i : Nat) : Int)))], [(118, .flat (.ints .i64 (descOf l)))]⟩ hT (by kernel_rfl) ⟨(by first | omega | (simp only [lens]; omega) | (simp only [Bool.cond_decide]; omega) | (simp only [nadd_eq]; omega)), (by first | omega | (simp only [lens]; omega) | (simp only [Bool.cond_decide]; omega) | (simp only [nadd_eq]; omega)), (by first | omega | (simp only [lens]; omega) | (simp only [Bool.cond_decide]; omega) | (simp only [nadd_eq]; omega)), trivial⟩ ?_
      refine awp_run_seq [5, 6, 7, 23, 24, 25] [118] [(-9223372036854775808 ≤ (sm + (List.getD (descOf l) i 0)) ∧ (sm + (List.getD (descOf l) i 0)) ≤ 9223372036854775807)] ⟨60, [(5, .one (.rw 118 0 l.length)), (6, .one (.int .i64 (sm + (List.getD (descOf l) i 0)))), (7, .one (.int .i64 ((i : Nat) : Int))), (23, .one (.rw 118 0 l.length)), (24, .one (.int .i64 ((l.length : Nat) : Int))), (25, .one (.int .i64 ((i : Nat) : Int)))], [(118, .flat (.ints .i64 (descOf l)))]⟩ hT (by kernel_rfl) ⟨(by first | omega | (simp only [lens]; omega) | (simp only [Bool.cond_decide]; omega) | (simp only [nadd_eq]; omega)), trivial⟩ ?_
      refine awp_run_seq [5, 6, 7, 9, 23, 24, 25] [118] [(-9223372036854775808 ≤ (((i + 1) : Nat) : Int) ∧ (((i + 1) : Nat) : Int) ≤ 9223372036854775807), (-9223372036854775808 ≤ (((i * (i + 1)) : Nat) : Int) ∧ (((i * (i + 1)) : Nat) : Int) ≤ 9223372036854775807)] ⟨60, [(5, .one (.rw 118 0 l.length)), (6, .one (.int .i64 (sm + (List.getD (descOf l) i 0)))), (7, .one (.int .i64 ((i : Nat) : Int))), (9, .one (.int .i64 (((i * (i + 1)) : Nat) : Int))), (23, .one (.rw 118 0 l.length)), (24, .one (.int .i64 ((l.length : Nat) : Int))), (25, .one (.int .i64 ((i : Nat) : Int)))], [(118, .flat (.ints .i64 (descOf l)))]⟩ hT (by kernel_rfl) ⟨(by first | omega | (simp only [lens]; omega) | (simp only [Bool.cond_decide]; omega) | (simp only [nadd_eq]; omega)), (by first | omega | (simp only [lens]; omega) | (simp only [Bool.cond_decide]; omega) | (simp only [nadd_eq]; omega)), trivial⟩ ?_
      refine awp_seq ?_
      refine awp_run_seq [5, 6, 7, 9, 23, 24, 25, 40, 41, 42] [118] [(-9223372036854775808 ≤ (((i + 1) : Nat) : Int) ∧ (((i + 1) : Nat) : Int) ≤ 9223372036854775807), ((0 : Int) ≤ (((i + 1) : Nat) : Int)), ((((i + 1) : Nat) : Int) ≤ ((l.length : Nat) : Int)), (((l.length : Nat) : Int) ≤ ((l.length : Nat) : Int))] ⟨60, [(5, .one (.rw 118 0 l.length)), (6, .one (.int .i64 (sm + (List.getD (descOf l) i 0)))), (7, .one (.int .i64 ((i : Nat) : Int))), (9, .one (.int .i64 (((i * (i + 1)) : Nat) : Int))), (23, .one (.rw 118 0 l.length)), (24, .one (.int .i64 ((l.length : Nat) : Int))), (25, .one (.int .i64 ((i : Nat) : Int))), (40, .one (.rw 118 (i + 1) (l.length - (i + 1)))), (41, .one (.int .i64 (((l.length - (i + 1)) : Nat) : Int))), (42, .one (.int .i64 0))], [(118, .flat (.ints .i64 (descOf l)))]⟩ hT (by kernel_rfl) ⟨(by first | omega | (simp only [lens]; omega) | (simp only [Bool.cond_decide]; omega) | (simp only [nadd_eq]; omega)), (by first | omega | (simp only [lens]; omega) | (simp only [Bool.cond_decide]; omega) | (simp only [nadd_eq]; omega)), (by first | omega | (simp only [lens]; omega) | (simp only [Bool.cond_decide]; omega) | (simp only [nadd_eq]; omega)), (by first | omega | (simp only [lens]; omega) | (simp only [Bool.cond_decide]; omega) | (simp only [nadd_eq]; omega)), trivial⟩ ?_
      refine awp_block ?_
      refine awp_loop (I := fun κ σ => ∃ (j : Nat) (mo : Int), ((j ≤ l.length - (i + 1)) ∧ (mo = ((i * (i + 1) : Nat) : Int) + addMin ((i + 1 : Nat) : Int) (((descOf l).drop (i + 1)).take j)) ∧ l.length - (i + 1) - j = κ) ∧ σ = ⟨60, [(5, .one (.rw 118 0 l.length)), (6, .one (.int .i64 (sm + (List.getD (descOf l) i 0)))), (7, .one (.int .i64 ((i : Nat) : Int))), (9, .one (.int .i64 mo)), (23, .one (.rw 118 0 l.length)), (24, .one (.int .i64 ((l.length : Nat) : Int))), (25, .one (.int .i64 ((i : Nat) : Int))), (40, .one (.rw 118 (i + 1) (l.length - (i + 1)))), (41, .one (.int .i64 (((l.length - (i + 1)) : Nat) : Int))), (42, .one (.int .i64 ((j : Nat) : Int)))], [(118, .flat (.ints .i64 (descOf l)))]⟩) _ ⟨0, (((i * (i + 1)) : Nat) : Int), ⟨(by omega), (by show _ = _ + 0; omega), rfl⟩, (by kernel_rfl)⟩ ?_
      rintro κ _ ⟨j, mo, ⟨hj, hmo, rfl⟩, rfl⟩
      have hm0 := addMin_in hE (i + 1) (i + 1) j
      refine awp_run_seq [5, 6, 7, 9, 23, 24, 25, 40, 41, 42, 43] [118] [] ⟨60, [(5, .one (.rw 118 0 l.length)), (6, .one (.int .i64 (sm + (List.getD (descOf l) i 0)))), (7, .one (.int .i64 ((i : Nat) : Int))), (9, .one (.int .i64 mo)), (23, .one (.rw 118 0 l.length)), (24, .one (.int .i64 ((l.length : Nat) : Int))), (25, .one (.int .i64 ((i : Nat) : Int))), (40, .one (.rw 118 (i + 1) (l.length - (i + 1)))), (41, .one (.int .i64 (((l.length - (i + 1)) : Nat) : Int))), (42, .one (.int .i64 ((j : Nat) : Int))), (43, .one (.bool (decide (((j : Nat) : Int) < (((l.length - (i + 1)) : Nat) : Int)))))], [(118, .flat (.ints .i64 (descOf l)))]⟩ hT (by kernel_rfl) trivial ?_
      refine awp_seq ?_
      refine awp_cond (b := (decide (((j : Nat) : Int) < (((l.length - (i + 1)) : Nat) : Int)))) (by kernel_rfl) (fun c14 => ?_) (fun c14 => ?_)
      · -- yes 14
        try simp only [bs] at c14
        have hjl : i + 1 + j < l.length := by omega
        have hda2 := desc_at hE hjl
        have hmst := addMin_step (m := ((i + 1 : Nat) : Int)) hjl
        have hm1 := addMin_in hE (i + 1) (i + 1) (j + 1)
        refine awp_skip ?_
        refine awp_seq ?_
        refine awp_block ?_
        refine awp_run_seq [5, 6, 7, 9, 11, 23, 24, 25, 40, 41, 42] [118] [((0 : Int) ≤ ((j : Nat) : Int)), (((j : Nat) : Int) < (((l.length - (i + 1)) : Nat) : Int)), ((nadd (i + 1) j) < (List.length (descOf l)))] ⟨60, [(5, .one (.rw 118 0 l.length)), (6, .one (.int .i64 (sm + (List.getD (descOf l) i 0)))), (7, .one (.int .i64 ((i : Nat) : Int))), (9, .one (.int .i64 mo)), (11, .one (.int .i64 (List.getD (descOf l) (nadd (i + 1) j) 0))), (23, .one (.rw 118 0 l.length)), (24, .one (.int .i64 ((l.length : Nat) : Int))), (25, .one (.int .i64 ((i : Nat) : Int))), (40, .one (.rw 118 (i + 1) (l.length - (i + 1)))), (41, .one (.int .i64 (((l.length - (i + 1)) : Nat) : Int))), (42, .one (.int .i64 ((j : Nat) : Int)))], [(118, .flat (.ints .i64 (descOf l)))]⟩ hT (by kernel_rfl) ⟨(by first | omega | (simp only [lens]; omega) | (simp only [Bool.cond_decide]; omega) | (simp only [nadd_eq]; omega)), (by first | omega | (simp only [lens]; omega) | (simp only [Bool.cond_decide]; omega) | (simp only [nadd_eq]; omega)), (by first | omega | (simp only [lens]; omega) | (simp only [Bool.cond_decide]; omega) | (simp only [nadd_eq]; omega)), trivial⟩ ?_
        refine awp_run [5, 6, 7, 9, 23, 24, 25, 40, 41, 42] [118] [(-9223372036854775808 ≤ (((i + 1) : Nat) : Int) ∧ (((i + 1) : Nat) : Int) ≤ 9223372036854775807), (-9223372036854775808 ≤ (mo + (min (List.getD (descOf l) (nadd (i + 1) j) 0) (((i + 1) : Nat) : Int))) ∧ (mo + (min (List.getD (descOf l) (nadd (i + 1) j) 0) (((i + 1) : Nat) : Int))) ≤ 9223372036854775807)] ⟨60, [(5, .one (.rw 118 0 l.length)), (6, .one (.int .i64 (sm + (List.getD (descOf l) i 0)))), (7, .one (.int .i64 ((i : Nat) : Int))), (9, .one (.int .i64 (mo + (min (List.getD (descOf l) (nadd (i + 1) j) 0) (((i + 1) : Nat) : Int))))), (23, .one (.rw 118 0 l.length)), (24, .one (.int .i64 ((l.length : Nat) : Int))), (25, .one (.int .i64 ((i : Nat) : Int))), (40, .one (.rw 118 (i + 1) (l.length - (i + 1)))), (41, .one (.int .i64 (((l.length - (i + 1)) : Nat) : Int))), (42, .one (.int .i64 ((j : Nat) : Int)))], [(118, .flat (.ints .i64 (descOf l)))]⟩ hT (by kernel_rfl) ⟨(by first | omega | (simp only [lens]; omega) | (simp only [Bool.cond_decide]; omega) | (simp only [nadd_eq]; omega)), (by first | omega | (simp only [lens]; omega) | (simp only [Bool.cond_decide]; omega) | (simp only [nadd_eq]; omega)), trivial⟩ ?_
        refine awp_run [5, 6, 7, 9, 23, 24, 25, 40, 41, 42] [118] [(-9223372036854775808 ≤ (((j + 1) : Nat) : Int) ∧ (((j + 1) : Nat) : Int) ≤ 9223372036854775807)] ⟨60, [(5, .one (.rw 118 0 l.length)), (6, .one (.int .i64 (sm + (List.getD (descOf l) i 0)))), (7, .one (.int .i64 ((i : Nat) : Int))), (9, .one (.int .i64 (mo + (min (List.getD (descOf l) (nadd (i + 1) j) 0) (((i + 1) : Nat) : Int))))), (23, .one (.rw 118 0 l.length)), (24, .one (.int .i64 ((l.length : Nat) : Int))), (25, .one (.int .i64 ((i : Nat) : Int))), (40, .one (.rw 118 (i + 1) (l.length - (i + 1)))), (41, .one (.int .i64 (((l.length - (i + 1)) : Nat) : Int))), (42, .one (.int .i64 (((j + 1) : Nat) : Int)))], [(118, .flat (.ints .i64 (descOf l)))]⟩ hT (by kernel_rfl) ⟨(by first | omega | (simp only [lens]; omega) | (simp only [Bool.cond_decide]; omega) | (simp only [nadd_eq]; omega)), trivial⟩ ?_
        refine loop_end _ ?_ ⟨(j + 1), (mo + (min (List.getD (descOf l) (nadd (i + 1) j) 0) (((i + 1) : Nat) : Int))), ⟨(by omega), (by simp only [nadd_eq]; omega), rfl⟩, (by kernel_rfl)⟩
        omega
      · -- no 14
        try simp only [bs] at c14
        have hmf : addMin ((i + 1 : Nat) : Int) (((descOf l).drop (i + 1)).take j) = addMin ((i + 1 : Nat) : Int) ((descOf l).drop (i + 1)) := by rw [List.take_of_length_le (by rw [List.length_drop]; omega)]
        have hlc := line_cast l i
        refine awp_exit ?_
        refine awp_run_seq [5, 6, 23, 24, 25, 55] [118] [] ⟨60, [(5, .one (.rw 118 0 l.length)), (6, .one (.int .i64 (sm + (List.getD (descOf l) i 0)))), (23, .one (.rw 118 0 l.length)), (24, .one (.int .i64 ((l.length : Nat) : Int))), (25, .one (.int .i64 ((i : Nat) : Int))), (55, .one (.bool (decide (mo < (sm + (List.getD (descOf l) i 0))))))], [(118, .flat (.ints .i64 (descOf l)))]⟩ hT (by kernel_rfl) trivial ?_
        refine awp_cond (b := (decide (mo < (sm + (List.getD (descOf l) i 0))))) (by kernel_rfl) (fun c18 => ?_) (fun c18 => ?_)
        · -- yes 18
          try simp only [bs] at c18
          have hbad : ¬ egLine l i := by rw [hlc]; omega
          refine awp_run_seq [2, 3] [] [] ⟨60, [(2, .one (.bool false)), (3, .one (.int .i64 0))], []⟩ hT (by kernel_rfl) trivial ?_
          refine awp_ret ?_
          refine kRet.ret _ [] [] (.tup [(false, [(.bool false)]), (false, [(.int .i64 0)])]) [] (by kernel_rfl) trivial ?_
          exact ⟨by first | rw [show (canB l) = false from Eq.symm (by exact (canB_line hE hil hbad).symm), show (degErr l) = 0 from Eq.symm (by exact hE.symm)] | rw [show (canB l) = false from Eq.symm (by exact (canB_line hE hil hbad).symm)] | rw [show (degErr l) = 0 from Eq.symm (by exact hE.symm)], rfl⟩
        · -- no 18
          try simp only [bs] at c18
          have hgood : egLine l i := by rw [hlc]; omega
          refine awp_skip ?_
          refine awp_run [5, 6, 23, 24, 25] [118] [(-9223372036854775808 ≤ (((i + 1) : Nat) : Int) ∧ (((i + 1) : Nat) : Int) ≤ 9223372036854775807)] ⟨60, [(5, .one (.rw 118 0 l.length)), (6, .one (.int .i64 (sm + (List.getD (descOf l) i 0)))), (23, .one (.rw 118 0 l.length)), (24, .one (.int .i64 ((l.length : Nat) : Int))), (25, .one (.int .i64 (((i + 1) : Nat) : Int)))], [(118, .flat (.ints .i64 (descOf l)))]⟩ hT (by kernel_rfl) ⟨(by first | omega | (simp only [lens]; omega) | (simp only [Bool.cond_decide]; omega) | (simp only [nadd_eq]; omega)), trivial⟩ ?_
          refine loop_end _ ?_ ⟨(i + 1), (sm + (List.getD (descOf l) i 0)), ⟨(by omega), (by rw [hst, hs]), (by intro j hj; rcases Nat.lt_succ_iff_lt_or_eq.1 hj with q | q; exact hp j q; subst q; exact hgood), rfl⟩, (by kernel_rfl)⟩
          omega
    · -- no 9
      try simp only [bs] at c9
      have hfin := canB_end hE (fun k hk => hp k (by omega))
      have hsf : sm = addL (descOf l) := by rw [hs, List.take_of_length_le (by omega)]
      refine awp_exit ?_
      refine awp_run_seq [2, 3] [] [(2 ≠ (0 : Int))] ⟨60, [(2, .one (.bool (decide ((Int.tmod sm 2) = 0)))), (3, .one (.int .i64 0))], []⟩ hT (by kernel_rfl) ⟨(by first | omega | (simp only [lens]; omega) | (simp only [Bool.cond_decide]; omega) | (simp only [nadd_eq]; omega)), trivial⟩ ?_
      refine awp_ret ?_
      refine kRet.ret _ [] [] (.tup [(false, [(.bool (decide ((Int.tmod sm 2) = 0)))]), (false, [(.int .i64 0)])]) [] (by kernel_rfl) trivial ?_
      exact ⟨by first | rw [show (canB l) = (decide ((Int.tmod sm 2) = 0)) from Eq.symm (by rw [hfin, ← hsf]), show (degErr l) = 0 from Eq.symm (by exact hE.symm)] | rw [show (canB l) = (decide ((Int.tmod sm 2) = 0)) from Eq.symm (by rw [hfin, ← hsf])] | rw [show (degErr l) = 0 from Eq.symm (by exact hE.symm)], rfl⟩

end Go.Ab
