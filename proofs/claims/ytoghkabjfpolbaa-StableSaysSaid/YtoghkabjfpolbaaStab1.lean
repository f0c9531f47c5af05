/- Of pairs that stay: the checks. -/
import Derived.Test.YtoghkabjfpolbaaTab
import Derived.Test.YtoghkabjfpolbaaIdx1
import Derived.Test.YtoghkabjfpolbaaF2
import Derived.Test.YtoghkabjfpolbaaConcat2
import Derived.Test.YtoghkabjfpolbaaSort1
set_option maxRecDepth 100000
namespace Go.Ab
open Go Go.Proofs
theorem ref_numbers (l : List Int) (m : Nat) (hl : l.length * 8 ≤ 140737488355328) : ACall Try.prog 45 [.one (.ro (.ints .i64 l)), .one (.int .i64 ((m : Nat) : Int))] [] (fun ov oh => ov = .one (.bool (fullB m l)) ∧ oh = []) := by
  refine acall_intro hT Try.func45 rfl (by kernel_rfl) rfl (by kernel_rfl) ?_
  have hsl := sorted_len l
  refine awp_run_seq [0, 1] [] [] ⟨27, [(0, .one (.ro (.ints .i64 l))), (1, .one (.int .i64 ((m : Nat) : Int)))], []⟩ hT (by kernel_rfl) trivial ?_
  refine awp_seq (awp_region ?_)
  refine aops_run 1 [1, 8] [] [] ⟨27, [(1, .one (.int .i64 ((m : Nat) : Int))), (8, .one (.ro (.ints .i64 l)))], []⟩ hT (by kernel_rfl) (by kernel_rfl) trivial ?_
  refine aops_call [] [(9001, 109)] false ⟨true, [], 80, [.one (.ro (.ints .i64 l))], []⟩ [.one (.ro (.ints .i64 l))] (sm := ⟨27, [(1, .one (.int .i64 ((m : Nat) : Int))), (8, .one (.ro (.ints .i64 l))), (9, .whn false (.one .any))], []⟩) (by kernel_rfl) (by kernel_rfl) (by decide) (fun _ => trivial) rfl (fun _ => clone_ints l (by first | omega | (simp; omega))) (fun _ v Hr hv => ?_) (fun h => by cases h)
  obtain ⟨rfl, rfl⟩ := hv
  refine ⟨⟨27, [(1, .one (.int .i64 ((m : Nat) : Int))), (8, .one (.ro (.ints .i64 l))), (9, .one (.rw 109 0 l.length))], [(109, .flat (.ints .i64 l))]⟩, by kernel_rfl, ?_⟩
  refine aops_run 1 [1, 5] [109] [] ⟨27, [(1, .one (.int .i64 ((m : Nat) : Int))), (5, .one (.rw 109 0 l.length))], [(109, .flat (.ints .i64 l))]⟩ hT (by kernel_rfl) (by kernel_rfl) trivial ?_
  refine aops_end_seq (by kernel_rfl) ?_
  refine awp_seq (awp_region ?_)
  refine aops_run 1 [1, 5, 10] [109] [] ⟨27, [(1, .one (.int .i64 ((m : Nat) : Int))), (5, .one (.rw 109 0 l.length)), (10, .one (.rw 109 0 l.length))], [(109, .flat (.ints .i64 l))]⟩ hT (by kernel_rfl) (by kernel_rfl) trivial ?_
  refine aops_call [(1, 109)] [] false ⟨true, [], 115, [.one (.rw 1 0 l.length)], [(1, .flat (.ints .i64 l))]⟩ [.one (.rw 1 0 l.length)] (sm := ⟨27, [(1, .one (.int .i64 ((m : Nat) : Int))), (5, .one (.rw 109 0 l.length)), (10, .one (.rw 109 0 l.length)), (11, .whn false (.one .any))], [(109, .flat (.ints .i64 l))]⟩) (by kernel_rfl) (by kernel_rfl) (by decide) (fun _ => trivial) rfl (fun _ => sort_is 1 l (by first | omega | (simp; omega))) (fun _ v Hr hv => ?_) (fun h => by cases h)
  obtain ⟨rfl, rfl⟩ := hv
  refine ⟨⟨27, [(1, .one (.int .i64 ((m : Nat) : Int))), (5, .one (.rw 109 0 l.length)), (10, .one (.rw 109 0 l.length)), (11, .tup [])], [(109, .flat (.ints .i64 (sorted l)))]⟩, by kernel_rfl, ?_⟩
  refine aops_cut [1, 5] [109] ⟨27, [(1, .one (.int .i64 ((m : Nat) : Int))), (5, .one (.rw 109 0 l.length))], [(109, .flat (.ints .i64 (sorted l)))]⟩ (by kernel_rfl) ?_
  refine aops_end_seq (by kernel_rfl) ?_
  refine awp_seq ?_
  refine awp_run_seq [1, 5, 12, 13, 14] [109] [] ⟨27, [(1, .one (.int .i64 ((m : Nat) : Int))), (5, .one (.rw 109 0 l.length)), (12, .one (.rw 109 0 l.length)), (13, .one (.int .i64 ((l.length : Nat) : Int))), (14, .one (.int .i64 0))], [(109, .flat (.ints .i64 (sorted l)))]⟩ hT (by kernel_rfl) trivial ?_
  refine awp_block ?_
  refine awp_loop (I := fun κ σ => ∃ (i : Nat), ((i ≤ l.length) ∧ (∀ j, j < i → (sorted l).getD j 0 = ((j : Nat) : Int)) ∧ l.length - i = κ) ∧ σ = ⟨27, [(1, .one (.int .i64 ((m : Nat) : Int))), (5, .one (.rw 109 0 l.length)), (12, .one (.rw 109 0 l.length)), (13, .one (.int .i64 ((l.length : Nat) : Int))), (14, .one (.int .i64 ((i : Nat) : Int)))], [(109, .flat (.ints .i64 (sorted l)))]⟩) _ ⟨0, ⟨(by omega), (by intro j hj; omega), rfl⟩, (by kernel_rfl)⟩ ?_
  rintro κ _ ⟨i, ⟨hi, hp, rfl⟩, rfl⟩
  refine awp_run_seq [1, 5, 12, 13, 14, 15] [109] [] ⟨27, [(1, .one (.int .i64 ((m : Nat) : Int))), (5, .one (.rw 109 0 l.length)), (12, .one (.rw 109 0 l.length)), (13, .one (.int .i64 ((l.length : Nat) : Int))), (14, .one (.int .i64 ((i : Nat) : Int))), (15, .one (.bool (decide (((i : Nat) : Int) < ((l.length : Nat) : Int)))))], [(109, .flat (.ints .i64 (sorted l)))]⟩ hT (by kernel_rfl) trivial ?_
  refine awp_seq ?_
  refine awp_cond (b := (decide (((i : Nat) : Int) < ((l.length : Nat) : Int)))) (by kernel_rfl) (fun c4 => ?_) (fun c4 => ?_)
  · -- yes 4
    try simp only [bs] at c4
    refine awp_skip ?_
    refine awp_seq ?_
    refine awp_block ?_
    refine awp_run_seq [1, 5, 6, 7, 12, 13, 14] [109] [((0 : Int) ≤ ((i : Nat) : Int)), (((i : Nat) : Int) < ((l.length : Nat) : Int)), (i < (List.length (sorted l)))] ⟨27, [(1, .one (.int .i64 ((m : Nat) : Int))), (5, .one (.rw 109 0 l.length)), (6, .one (.int .i64 ((i : Nat) : Int))), (7, .one (.int .i64 (List.getD (sorted l) i 0))), (12, .one (.rw 109 0 l.length)), (13, .one (.int .i64 ((l.length : Nat) : Int))), (14, .one (.int .i64 ((i : Nat) : Int)))], [(109, .flat (.ints .i64 (sorted l)))]⟩ hT (by kernel_rfl) ⟨(by first | omega | (simp only [lens]; omega) | (simp only [Bool.cond_decide]; omega)), (by first | omega | (simp only [lens]; omega) | (simp only [Bool.cond_decide]; omega)), (by first | omega | (simp only [lens]; omega) | (simp only [Bool.cond_decide]; omega)), trivial⟩ ?_
    refine awp_run_seq [1, 5, 12, 13, 14, 21] [109] [] ⟨27, [(1, .one (.int .i64 ((m : Nat) : Int))), (5, .one (.rw 109 0 l.length)), (12, .one (.rw 109 0 l.length)), (13, .one (.int .i64 ((l.length : Nat) : Int))), (14, .one (.int .i64 ((i : Nat) : Int))), (21, .one (.bool (decide ((List.getD (sorted l) i 0) ≠ ((i : Nat) : Int)))))], [(109, .flat (.ints .i64 (sorted l)))]⟩ hT (by kernel_rfl) trivial ?_
    refine awp_cond (b := (decide ((List.getD (sorted l) i 0) ≠ ((i : Nat) : Int)))) (by kernel_rfl) (fun c6 => ?_) (fun c6 => ?_)
    · -- yes 6
      try simp only [bs] at c6
      refine awp_run_seq [4] [] [] ⟨27, [(4, .one (.bool false))], []⟩ hT (by kernel_rfl) trivial ?_
      refine awp_ret ?_
      refine kRet.ret _ [] [] (.one (.bool false)) [] (by kernel_rfl) trivial ?_
      exact ⟨congrArg (fun x1 => (.one (.bool x1) : AV)) (show false = (fullB m l) from by exact (fullB_no (not_full_of_sorted (k := i) (by omega) c6)).symm), rfl⟩
    · -- no 6
      try simp only [bs] at c6
      refine awp_skip ?_
      refine awp_run [1, 5, 12, 13, 14] [109] [(-9223372036854775808 ≤ (((i + 1) : Nat) : Int) ∧ (((i + 1) : Nat) : Int) ≤ 9223372036854775807)] ⟨27, [(1, .one (.int .i64 ((m : Nat) : Int))), (5, .one (.rw 109 0 l.length)), (12, .one (.rw 109 0 l.length)), (13, .one (.int .i64 ((l.length : Nat) : Int))), (14, .one (.int .i64 (((i + 1) : Nat) : Int)))], [(109, .flat (.ints .i64 (sorted l)))]⟩ hT (by kernel_rfl) ⟨(by first | omega | (simp only [lens]; omega) | (simp only [Bool.cond_decide]; omega)), trivial⟩ ?_
      refine loop_end _ ?_ ⟨(i + 1), ⟨(by omega), (by intro j hj; rcases Nat.lt_succ_iff_lt_or_eq.1 hj with h | h; exact hp j h; subst h; omega), rfl⟩, (by kernel_rfl)⟩
      omega
  · -- no 4
    try simp only [bs] at c4
    have hfl : isFull l.length l := full_of_sorted (fun j hj => hp j (by omega))
    refine awp_exit ?_
    refine awp_run_seq [4] [] [] ⟨27, [(4, .one (.bool (decide (((l.length : Nat) : Int) = ((m : Nat) : Int)))))], []⟩ hT (by kernel_rfl) trivial ?_
    refine awp_ret ?_
    refine kRet.ret _ [] [] (.one (.bool (decide (((l.length : Nat) : Int) = ((m : Nat) : Int))))) [] (by kernel_rfl) trivial ?_
    exact ⟨congrArg (fun x1 => (.one (.bool x1) : AV)) (show (decide (((l.length : Nat) : Int) = ((m : Nat) : Int))) = (fullB m l) from by exact fullB_is hfl), rfl⟩

theorem ref_listErr (a b : List (List Int)) (ha : ∀ r ∈ a, r.length * 8 ≤ 140737488355328) (hb : ∀ r ∈ b, r.length * 8 ≤ 140737488355328) : ACall Try.prog 44 [.one (.rs (.rows a)), .one (.rs (.rows b))] [] (fun ov oh => ov = .one (.int .i64 (listErr a b)) ∧ oh = []) := by
  refine acall_intro hT Try.func44 rfl (by kernel_rfl) rfl (by kernel_rfl) ?_
  have hab : (a ++ b).length = a.length + b.length := List.length_append
  have habl : ∀ r ∈ a ++ b, r.length * 8 ≤ 140737488355328 := fun r hr => by rcases List.mem_append.1 hr with h | h; exact ha r h; exact hb r h
  refine awp_run_seq [0, 1] [] [] ⟨30, [(0, .one (.rs (.rows a))), (1, .one (.rs (.rows b)))], []⟩ hT (by kernel_rfl) trivial ?_
  refine awp_seq ?_
  refine awp_run_seq [0, 1, 9] [] [] ⟨30, [(0, .one (.rs (.rows a))), (1, .one (.rs (.rows b))), (9, .one (.bool (decide ((6 : Int) < ((a.length : Nat) : Int)))))], []⟩ hT (by kernel_rfl) trivial ?_
  refine awp_cond (b := (decide ((6 : Int) < ((a.length : Nat) : Int)))) (by kernel_rfl) (fun c1 => ?_) (fun c1 => ?_)
  · -- yes 1
    try simp only [bs] at c1
    refine awp_run_seq [4] [] [] ⟨30, [(4, .one (.int .i64 2))], []⟩ hT (by kernel_rfl) trivial ?_
    refine awp_ret ?_
    refine kRet.ret _ [] [] (.one (.int .i64 2)) [] (by kernel_rfl) trivial ?_
    exact ⟨congrArg (fun x1 => (.one (.int .i64 x1) : AV)) (show 2 = (listErr a b) from by rw [listErr, if_pos (by omega)]), rfl⟩
  · -- no 1
    try simp only [bs] at c1
    refine awp_skip ?_
    refine awp_seq ?_
    refine awp_run_seq [0, 1, 14] [] [] ⟨30, [(0, .one (.rs (.rows a))), (1, .one (.rs (.rows b))), (14, .one (.bool (decide (((a.length : Nat) : Int) ≠ ((b.length : Nat) : Int)))))], []⟩ hT (by kernel_rfl) trivial ?_
    refine awp_cond (b := (decide (((a.length : Nat) : Int) ≠ ((b.length : Nat) : Int)))) (by kernel_rfl) (fun c3 => ?_) (fun c3 => ?_)
    · -- yes 3
      try simp only [bs] at c3
      refine awp_run_seq [4] [] [] ⟨30, [(4, .one (.int .i64 3))], []⟩ hT (by kernel_rfl) trivial ?_
      refine awp_ret ?_
      refine kRet.ret _ [] [] (.one (.int .i64 3)) [] (by kernel_rfl) trivial ?_
      exact ⟨congrArg (fun x1 => (.one (.int .i64 x1) : AV)) (show 3 = (listErr a b) from by rw [listErr, if_neg (by omega), if_pos (by omega)]), rfl⟩
    · -- no 3
      try simp only [bs] at c3
      refine awp_skip ?_
      refine awp_seq ?_
      refine awp_seq (awp_region ?_)
      refine aops_run 3 [0, 17] [117] [] ⟨30, [(0, .one (.rs (.rows a))), (17, .one (.rw 117 0 2))], [(117, .box 2 1 [(.rs (.rows a)), (.rs (.rows b))])]⟩ hT (by kernel_rfl) (by kernel_rfl) trivial ?_
      refine aops_call [(1, 117)] [(9001, 118)] false ⟨true, [], 114, [.one (.rw 1 0 2)], [(1, .box 2 1 [(.rs (.rows a)), (.rs (.rows b))])]⟩ [.one (.rw 1 0 2)] (sm := ⟨30, [(0, .one (.rs (.rows a))), (17, .one (.rw 117 0 2)), (18, .whn false (.one .any))], [(117, .box 2 1 [(.rs (.rows a)), (.rs (.rows b))])]⟩) (by kernel_rfl) (by kernel_rfl) (by decide) (fun _ => trivial) rfl (fun _ => concat_rows2 a b (by first | omega | (simp; omega))) (fun _ v Hr hv => ?_) (fun h => by cases h)
      obtain ⟨rfl, rfl⟩ := hv
      refine ⟨⟨30, [(0, .one (.rs (.rows a))), (17, .one (.rw 117 0 2)), (18, .one (.rw 118 0 (List.length (a ++ b))))], [(117, .box 2 1 [(.rs (.rows a)), (.rs (.rows b))]), (118, .recs (.rows (a ++ b)))]⟩, by kernel_rfl, ?_⟩
      refine aops_run 2 [0, 18, 19, 20] [118] [] ⟨30, [(0, .one (.rs (.rows a))), (18, .one (.rw 118 0 (List.length (a ++ b)))), (19, .one (.int .i64 (((List.length (a ++ b)) : Nat) : Int))), (20, .one (.int .i64 0))], [(118, .recs (.rows (a ++ b)))]⟩ hT (by kernel_rfl) (by kernel_rfl) trivial ?_
      refine aops_end_seq (by kernel_rfl) ?_
      refine awp_block ?_
      refine awp_weak (awk_seal 118 (s' := ⟨30, [(0, .one (.rs (.rows a))), (18, .one (.rs (.rows (List.take (List.length (a ++ b)) (a ++ b))))), (19, .one (.int .i64 (((List.length (a ++ b)) : Nat) : Int))), (20, .one (.int .i64 0))], []⟩) (by kernel_rfl)) ?_
      rw [show (List.take (List.length (a ++ b)) (a ++ b)) = (a ++ b) from List.take_of_length_le (by first | omega | simp)]
      refine awp_loop (I := fun κ σ => ∃ (i : Nat), ((i ≤ (a ++ b).length) ∧ (allFull a.length ((a ++ b).drop i) = allFull a.length (a ++ b)) ∧ (a ++ b).length - i = κ) ∧ σ = ⟨30, [(0, .one (.rs (.rows a))), (18, .one (.rs (.rows (a ++ b)))), (19, .one (.int .i64 (((List.length (a ++ b)) : Nat) : Int))), (20, .one (.int .i64 ((i : Nat) : Int)))], []⟩) _ ⟨0, ⟨(by omega), (by rfl), rfl⟩, (by kernel_rfl)⟩ ?_
      rintro κ _ ⟨i, ⟨hi, hq, rfl⟩, rfl⟩
      refine awp_run_seq [0, 18, 19, 20, 21] [] [] ⟨30, [(0, .one (.rs (.rows a))), (18, .one (.rs (.rows (a ++ b)))), (19, .one (.int .i64 (((List.length (a ++ b)) : Nat) : Int))), (20, .one (.int .i64 ((i : Nat) : Int))), (21, .one (.bool (decide (((i : Nat) : Int) < (((List.length (a ++ b)) : Nat) : Int)))))], []⟩ hT (by kernel_rfl) trivial ?_
      refine awp_seq ?_
      refine awp_cond (b := (decide (((i : Nat) : Int) < (((List.length (a ++ b)) : Nat) : Int)))) (by kernel_rfl) (fun c6 => ?_) (fun c6 => ?_)
      · -- yes 6
        try simp only [bs] at c6
        have hil : i < (a ++ b).length := by omega
        have hrw := habl _ (getD_mem (d := []) hil)
        have had := allFull_drop (n := a.length) hil
        refine awp_skip ?_
        refine awp_seq ?_
        refine awp_block ?_
        refine awp_run_seq [0, 6, 18, 19, 20] [] [((0 : Int) ≤ ((i : Nat) : Int)), (((i : Nat) : Int) < (((List.length (a ++ b)) : Nat) : Int))] ⟨30, [(0, .one (.rs (.rows a))), (6, .one (.ro (.ints .i64 (List.getD (a ++ b) i [])))), (18, .one (.rs (.rows (a ++ b)))), (19, .one (.int .i64 (((List.length (a ++ b)) : Nat) : Int))), (20, .one (.int .i64 ((i : Nat) : Int)))], []⟩ hT (by kernel_rfl) ⟨(by first | omega | (simp only [lens]; omega) | (simp only [Bool.cond_decide]; omega)), (by first | omega | (simp only [lens]; omega) | (simp only [Bool.cond_decide]; omega)), trivial⟩ ?_
        refine awp_seq (awp_region ?_)
        refine aops_run 3 [0, 18, 19, 20, 24, 26] [] [] ⟨30, [(0, .one (.rs (.rows a))), (18, .one (.rs (.rows (a ++ b)))), (19, .one (.int .i64 (((List.length (a ++ b)) : Nat) : Int))), (20, .one (.int .i64 ((i : Nat) : Int))), (24, .one (.ro (.ints .i64 (List.getD (a ++ b) i [])))), (26, .one (.int .i64 ((a.length : Nat) : Int)))], []⟩ hT (by kernel_rfl) (by kernel_rfl) trivial ?_
        refine aops_pure false ⟨true, [], 45, [.one (.ro (.ints .i64 (List.getD (a ++ b) i []))), .one (.int .i64 ((a.length : Nat) : Int))], []⟩ [.one (.ro (.ints .i64 (List.getD (a ++ b) i []))), .one (.int .i64 ((a.length : Nat) : Int))] (.one (.bool (fullB a.length (List.getD (a ++ b) i [])))) ⟨30, [(0, .one (.rs (.rows a))), (18, .one (.rs (.rows (a ++ b)))), (19, .one (.int .i64 (((List.length (a ++ b)) : Nat) : Int))), (20, .one (.int .i64 ((i : Nat) : Int))), (24, .one (.ro (.ints .i64 (List.getD (a ++ b) i [])))), (26, .one (.int .i64 ((a.length : Nat) : Int))), (27, .one (.bool (fullB a.length (List.getD (a ++ b) i []))))], []⟩ (by kernel_rfl) (by kernel_rfl) (fun _ => trivial) rfl (fun _ => ref_numbers (List.getD (a ++ b) i []) a.length (by first | assumption | omega)) ?_
        refine aops_run 1 [0, 18, 19, 20, 28] [] [] ⟨30, [(0, .one (.rs (.rows a))), (18, .one (.rs (.rows (a ++ b)))), (19, .one (.int .i64 (((List.length (a ++ b)) : Nat) : Int))), (20, .one (.int .i64 ((i : Nat) : Int))), (28, .one (.bool (!(fullB a.length (List.getD (a ++ b) i [])))))], []⟩ hT (by kernel_rfl) (by kernel_rfl) trivial ?_
        refine aops_end_seq (by kernel_rfl) ?_
        refine awp_cond (b := (!(fullB a.length (List.getD (a ++ b) i [])))) (by kernel_rfl) (fun c8 => ?_) (fun c8 => ?_)
        · -- yes 8
          try simp only [bs] at c8
          refine awp_run_seq [4] [] [] ⟨30, [(4, .one (.int .i64 3))], []⟩ hT (by kernel_rfl) trivial ?_
          refine awp_ret ?_
          refine kRet.ret _ [] [] (.one (.int .i64 3)) [] (by kernel_rfl) trivial ?_
          exact ⟨congrArg (fun x1 => (.one (.int .i64 x1) : AV)) (show 3 = (listErr a b) from by rw [listErr, if_neg (by omega), if_neg (by omega), if_neg (by rw [← hq, allFull_drop (by omega), c8, Bool.false_and]; decide)]), rfl⟩
        · -- no 8
          try simp only [bs] at c8
          refine awp_skip ?_
          refine awp_run [0, 18, 19, 20] [] [(-9223372036854775808 ≤ (((i + 1) : Nat) : Int) ∧ (((i + 1) : Nat) : Int) ≤ 9223372036854775807)] ⟨30, [(0, .one (.rs (.rows a))), (18, .one (.rs (.rows (a ++ b)))), (19, .one (.int .i64 (((List.length (a ++ b)) : Nat) : Int))), (20, .one (.int .i64 (((i + 1) : Nat) : Int)))], []⟩ hT (by kernel_rfl) ⟨(by first | omega | (simp only [lens]; omega) | (simp only [Bool.cond_decide]; omega)), trivial⟩ ?_
          refine loop_end _ ?_ ⟨(i + 1), ⟨(by omega), (by rw [← hq, had, c8, Bool.true_and]), rfl⟩, (by kernel_rfl)⟩
          omega
      · -- no 6
        try simp only [bs] at c6
        refine awp_exit ?_
        refine awp_run_seq [4] [] [] ⟨30, [(4, .one (.int .i64 0))], []⟩ hT (by kernel_rfl) trivial ?_
        refine awp_ret ?_
        refine kRet.ret _ [] [] (.one (.int .i64 0)) [] (by kernel_rfl) trivial ?_
        exact ⟨congrArg (fun x1 => (.one (.int .i64 x1) : AV)) (show 0 = (listErr a b) from by rw [listErr, if_neg (by omega), if_neg (by omega), if_pos (by rw [← hq]; exact allFull_end (by omega))]), rfl⟩

theorem stable_check (a b : List (List Int)) : ACall Try.prog 65 [.one (.rs (.rows a)), .one (.rs (.rows b))] [] (fun ov oh => ov = .one (.int .i64 (listErr a b)) ∧ oh = []) := by
  refine acall_intro hT Try.func65 rfl (by kernel_rfl) rfl (by kernel_rfl) ?_
  have hab : (a ++ b).length = a.length + b.length := List.length_append
  refine awp_run_seq [0, 1] [] [] ⟨41, [(0, .one (.rs (.rows a))), (1, .one (.rs (.rows b)))], []⟩ hT (by kernel_rfl) trivial ?_
  refine awp_seq ?_
  refine awp_run_seq [0, 1, 10] [] [] ⟨41, [(0, .one (.rs (.rows a))), (1, .one (.rs (.rows b))), (10, .one (.bool (decide ((6 : Int) < ((a.length : Nat) : Int)))))], []⟩ hT (by kernel_rfl) trivial ?_
  refine awp_cond (b := (decide ((6 : Int) < ((a.length : Nat) : Int)))) (by kernel_rfl) (fun c1 => ?_) (fun c1 => ?_)
  · -- yes 1
    try simp only [bs] at c1
    refine awp_run_seq [4] [] [] ⟨41, [(4, .one (.int .i64 2))], []⟩ hT (by kernel_rfl) trivial ?_
    refine awp_ret ?_
    refine kRet.ret _ [] [] (.one (.int .i64 2)) [] (by kernel_rfl) trivial ?_
    exact ⟨congrArg (fun x1 => (.one (.int .i64 x1) : AV)) (show 2 = (listErr a b) from by rw [listErr, if_pos (by omega)]), rfl⟩
  · -- no 1
    try simp only [bs] at c1
    refine awp_skip ?_
    refine awp_seq ?_
    refine awp_run_seq [0, 1, 15] [] [] ⟨41, [(0, .one (.rs (.rows a))), (1, .one (.rs (.rows b))), (15, .one (.bool (decide (((b.length : Nat) : Int) ≠ ((a.length : Nat) : Int)))))], []⟩ hT (by kernel_rfl) trivial ?_
    refine awp_cond (b := (decide (((b.length : Nat) : Int) ≠ ((a.length : Nat) : Int)))) (by kernel_rfl) (fun c3 => ?_) (fun c3 => ?_)
    · -- yes 3
      try simp only [bs] at c3
      refine awp_run_seq [4] [] [] ⟨41, [(4, .one (.int .i64 3))], []⟩ hT (by kernel_rfl) trivial ?_
      refine awp_ret ?_
      refine kRet.ret _ [] [] (.one (.int .i64 3)) [] (by kernel_rfl) trivial ?_
      exact ⟨congrArg (fun x1 => (.one (.int .i64 x1) : AV)) (show 3 = (listErr a b) from by rw [listErr, if_neg (by omega), if_pos (by omega)]), rfl⟩
    · -- no 3
      try simp only [bs] at c3
      refine awp_skip ?_
      refine awp_seq ?_
      refine awp_seq (awp_region ?_)
      refine aops_run 3 [0, 18] [118] [] ⟨41, [(0, .one (.rs (.rows a))), (18, .one (.rw 118 0 2))], [(118, .box 2 1 [(.rs (.rows a)), (.rs (.rows b))])]⟩ hT (by kernel_rfl) (by kernel_rfl) trivial ?_
      refine aops_call [(1, 118)] [(9001, 119)] false ⟨true, [], 114, [.one (.rw 1 0 2)], [(1, .box 2 1 [(.rs (.rows a)), (.rs (.rows b))])]⟩ [.one (.rw 1 0 2)] (sm := ⟨41, [(0, .one (.rs (.rows a))), (18, .one (.rw 118 0 2)), (19, .whn false (.one .any))], [(118, .box 2 1 [(.rs (.rows a)), (.rs (.rows b))])]⟩) (by kernel_rfl) (by kernel_rfl) (by decide) (fun _ => trivial) rfl (fun _ => concat_rows2 a b (by first | omega | (simp; omega))) (fun _ v Hr hv => ?_) (fun h => by cases h)
      obtain ⟨rfl, rfl⟩ := hv
      refine ⟨⟨41, [(0, .one (.rs (.rows a))), (18, .one (.rw 118 0 2)), (19, .one (.rw 119 0 (List.length (a ++ b))))], [(118, .box 2 1 [(.rs (.rows a)), (.rs (.rows b))]), (119, .recs (.rows (a ++ b)))]⟩, by kernel_rfl, ?_⟩
      refine aops_run 2 [0, 19, 20, 21] [119] [] ⟨41, [(0, .one (.rs (.rows a))), (19, .one (.rw 119 0 (List.length (a ++ b)))), (20, .one (.int .i64 (((List.length (a ++ b)) : Nat) : Int))), (21, .one (.int .i64 0))], [(119, .recs (.rows (a ++ b)))]⟩ hT (by kernel_rfl) (by kernel_rfl) trivial ?_
      refine aops_end_seq (by kernel_rfl) ?_
      refine awp_block ?_
      refine awp_weak (awk_seal 119 (s' := ⟨41, [(0, .one (.rs (.rows a))), (19, .one (.rs (.rows (List.take (List.length (a ++ b)) (a ++ b))))), (20, .one (.int .i64 (((List.length (a ++ b)) : Nat) : Int))), (21, .one (.int .i64 0))], []⟩) (by kernel_rfl)) ?_
      rw [show (List.take (List.length (a ++ b)) (a ++ b)) = (a ++ b) from List.take_of_length_le (by first | omega | simp)]
      refine awp_loop (I := fun κ σ => ∃ (i : Nat), ((i ≤ (a ++ b).length) ∧ (allFull a.length ((a ++ b).drop i) = allFull a.length (a ++ b)) ∧ (a ++ b).length - i = κ) ∧ σ = ⟨41, [(0, .one (.rs (.rows a))), (19, .one (.rs (.rows (a ++ b)))), (20, .one (.int .i64 (((List.length (a ++ b)) : Nat) : Int))), (21, .one (.int .i64 ((i : Nat) : Int)))], []⟩) _ ⟨0, ⟨(by omega), (by rfl), rfl⟩, (by kernel_rfl)⟩ ?_
      rintro κ _ ⟨i, ⟨hi, hq, rfl⟩, rfl⟩
      refine awp_run_seq [0, 19, 20, 21, 22] [] [] ⟨41, [(0, .one (.rs (.rows a))), (19, .one (.rs (.rows (a ++ b)))), (20, .one (.int .i64 (((List.length (a ++ b)) : Nat) : Int))), (21, .one (.int .i64 ((i : Nat) : Int))), (22, .one (.bool (decide (((i : Nat) : Int) < (((List.length (a ++ b)) : Nat) : Int)))))], []⟩ hT (by kernel_rfl) trivial ?_
      refine awp_seq ?_
      refine awp_cond (b := (decide (((i : Nat) : Int) < (((List.length (a ++ b)) : Nat) : Int)))) (by kernel_rfl) (fun c6 => ?_) (fun c6 => ?_)
      · -- yes 6
        try simp only [bs] at c6
        have hil : i < (a ++ b).length := by omega
        have had := allFull_drop (n := a.length) hil
        refine awp_skip ?_
        refine awp_seq ?_
        refine awp_block ?_
        refine awp_run_seq [0, 6, 19, 20, 21] [] [((0 : Int) ≤ ((i : Nat) : Int)), (((i : Nat) : Int) < (((List.length (a ++ b)) : Nat) : Int))] ⟨41, [(0, .one (.rs (.rows a))), (6, .one (.ro (.ints .i64 (List.getD (a ++ b) i [])))), (19, .one (.rs (.rows (a ++ b)))), (20, .one (.int .i64 (((List.length (a ++ b)) : Nat) : Int))), (21, .one (.int .i64 ((i : Nat) : Int)))], []⟩ hT (by kernel_rfl) ⟨(by first | omega | (simp only [lens]; omega) | (simp only [Bool.cond_decide]; omega)), (by first | omega | (simp only [lens]; omega) | (simp only [Bool.cond_decide]; omega)), trivial⟩ ?_
        refine awp_seq ?_
        refine awp_run_seq [0, 6, 19, 20, 21, 29] [] [] ⟨41, [(0, .one (.rs (.rows a))), (6, .one (.ro (.ints .i64 (List.getD (a ++ b) i [])))), (19, .one (.rs (.rows (a ++ b)))), (20, .one (.int .i64 (((List.length (a ++ b)) : Nat) : Int))), (21, .one (.int .i64 ((i : Nat) : Int))), (29, .one (.bool (decide ((((List.length (List.getD (a ++ b) i [])) : Nat) : Int) ≠ ((a.length : Nat) : Int)))))], []⟩ hT (by kernel_rfl) trivial ?_
        refine awp_cond (b := (decide ((((List.length (List.getD (a ++ b) i [])) : Nat) : Int) ≠ ((a.length : Nat) : Int)))) (by kernel_rfl) (fun c8 => ?_) (fun c8 => ?_)
        · -- yes 8
          try simp only [bs] at c8
          have hfb : fullB a.length (List.getD (a ++ b) i []) = false := fullB_no (fun q => by have := q.1; omega)
          refine awp_run_seq [4] [] [] ⟨41, [(4, .one (.int .i64 3))], []⟩ hT (by kernel_rfl) trivial ?_
          refine awp_ret ?_
          refine kRet.ret _ [] [] (.one (.int .i64 3)) [] (by kernel_rfl) trivial ?_
          exact ⟨congrArg (fun x1 => (.one (.int .i64 x1) : AV)) (show 3 = (listErr a b) from by rw [listErr, if_neg (by omega), if_neg (by omega), if_neg (by rw [← hq, allFull_drop (by omega), hfb, Bool.false_and]; decide)]), rfl⟩
        · -- no 8
          try simp only [bs] at c8
          refine awp_skip ?_
          refine awp_run_seq [0, 6, 19, 20, 21, 31, 32] [] [] ⟨41, [(0, .one (.rs (.rows a))), (6, .one (.ro (.ints .i64 (List.getD (a ++ b) i [])))), (19, .one (.rs (.rows (a ++ b)))), (20, .one (.int .i64 (((List.length (a ++ b)) : Nat) : Int))), (21, .one (.int .i64 ((i : Nat) : Int))), (31, .one (.int .i64 (((List.length (List.getD (a ++ b) i [])) : Nat) : Int))), (32, .one (.int .i64 0))], []⟩ hT (by kernel_rfl) trivial ?_
          refine awp_block ?_
          refine awp_loop (I := fun κ σ => ∃ (k : Nat), ((k ≤ a.length) ∧ (∀ j, j < k → (0 : Int) ≤ rk (List.getD (a ++ b) i []) ((j : Nat) : Int)) ∧ a.length - k = κ) ∧ σ = ⟨41, [(0, .one (.rs (.rows a))), (6, .one (.ro (.ints .i64 (List.getD (a ++ b) i [])))), (19, .one (.rs (.rows (a ++ b)))), (20, .one (.int .i64 (((List.length (a ++ b)) : Nat) : Int))), (21, .one (.int .i64 ((i : Nat) : Int))), (31, .one (.int .i64 (((List.length (List.getD (a ++ b) i [])) : Nat) : Int))), (32, .one (.int .i64 ((k : Nat) : Int)))], []⟩) _ ⟨0, ⟨(by omega), (by intro j hj; omega), rfl⟩, (by kernel_rfl)⟩ ?_
          rintro κ _ ⟨k, ⟨hk, hp, rfl⟩, rfl⟩
          refine awp_run_seq [0, 6, 19, 20, 21, 31, 32, 33] [] [] ⟨41, [(0, .one (.rs (.rows a))), (6, .one (.ro (.ints .i64 (List.getD (a ++ b) i [])))), (19, .one (.rs (.rows (a ++ b)))), (20, .one (.int .i64 (((List.length (a ++ b)) : Nat) : Int))), (21, .one (.int .i64 ((i : Nat) : Int))), (31, .one (.int .i64 (((List.length (List.getD (a ++ b) i [])) : Nat) : Int))), (32, .one (.int .i64 ((k : Nat) : Int))), (33, .one (.bool (decide (((k : Nat) : Int) < (((List.length (List.getD (a ++ b) i [])) : Nat) : Int)))))], []⟩ hT (by kernel_rfl) trivial ?_
          refine awp_seq ?_
          refine awp_cond (b := (decide (((k : Nat) : Int) < (((List.length (List.getD (a ++ b) i [])) : Nat) : Int)))) (by kernel_rfl) (fun c11 => ?_) (fun c11 => ?_)
          · -- yes 11
            try simp only [bs] at c11
            refine awp_skip ?_
            refine awp_seq ?_
            refine awp_block ?_
            refine awp_run_seq [0, 6, 7, 19, 20, 21, 31, 32] [] [] ⟨41, [(0, .one (.rs (.rows a))), (6, .one (.ro (.ints .i64 (List.getD (a ++ b) i [])))), (7, .one (.int .i64 ((k : Nat) : Int))), (19, .one (.rs (.rows (a ++ b)))), (20, .one (.int .i64 (((List.length (a ++ b)) : Nat) : Int))), (21, .one (.int .i64 ((i : Nat) : Int))), (31, .one (.int .i64 (((List.length (List.getD (a ++ b) i [])) : Nat) : Int))), (32, .one (.int .i64 ((k : Nat) : Int)))], []⟩ hT (by kernel_rfl) trivial ?_
            refine awp_seq (awp_region ?_)
            refine aops_run 2 [0, 6, 19, 20, 21, 31, 32, 35, 36] [] [] ⟨41, [(0, .one (.rs (.rows a))), (6, .one (.ro (.ints .i64 (List.getD (a ++ b) i [])))), (19, .one (.rs (.rows (a ++ b)))), (20, .one (.int .i64 (((List.length (a ++ b)) : Nat) : Int))), (21, .one (.int .i64 ((i : Nat) : Int))), (31, .one (.int .i64 (((List.length (List.getD (a ++ b) i [])) : Nat) : Int))), (32, .one (.int .i64 ((k : Nat) : Int))), (35, .one (.ro (.ints .i64 (List.getD (a ++ b) i [])))), (36, .one (.int .i64 ((k : Nat) : Int)))], []⟩ hT (by kernel_rfl) (by kernel_rfl) trivial ?_
            refine aops_pure false ⟨true, [], 78, [.one (.ro (.ints .i64 (List.getD (a ++ b) i []))), .one (.int .i64 ((k : Nat) : Int))], []⟩ [.one (.ro (.ints .i64 (List.getD (a ++ b) i []))), .one (.int .i64 ((k : Nat) : Int))] (.one (.bool (decide ((0 : Int) ≤ rk (List.getD (a ++ b) i []) ((k : Nat) : Int))))) ⟨41, [(0, .one (.rs (.rows a))), (6, .one (.ro (.ints .i64 (List.getD (a ++ b) i [])))), (19, .one (.rs (.rows (a ++ b)))), (20, .one (.int .i64 (((List.length (a ++ b)) : Nat) : Int))), (21, .one (.int .i64 ((i : Nat) : Int))), (31, .one (.int .i64 (((List.length (List.getD (a ++ b) i [])) : Nat) : Int))), (32, .one (.int .i64 ((k : Nat) : Int))), (35, .one (.ro (.ints .i64 (List.getD (a ++ b) i [])))), (36, .one (.int .i64 ((k : Nat) : Int))), (37, .one (.bool (decide ((0 : Int) ≤ rk (List.getD (a ++ b) i []) ((k : Nat) : Int)))))], []⟩ (by kernel_rfl) (by kernel_rfl) (fun _ => trivial) rfl (fun _ => contains_ints (List.getD (a ++ b) i []) ((k : Nat) : Int)) ?_
            refine aops_run 1 [0, 6, 19, 20, 21, 31, 32, 38] [] [] ⟨41, [(0, .one (.rs (.rows a))), (6, .one (.ro (.ints .i64 (List.getD (a ++ b) i [])))), (19, .one (.rs (.rows (a ++ b)))), (20, .one (.int .i64 (((List.length (a ++ b)) : Nat) : Int))), (21, .one (.int .i64 ((i : Nat) : Int))), (31, .one (.int .i64 (((List.length (List.getD (a ++ b) i [])) : Nat) : Int))), (32, .one (.int .i64 ((k : Nat) : Int))), (38, .one (.bool (!(decide ((0 : Int) ≤ rk (List.getD (a ++ b) i []) ((k : Nat) : Int))))))], []⟩ hT (by kernel_rfl) (by kernel_rfl) trivial ?_
            refine aops_end_seq (by kernel_rfl) ?_
            refine awp_cond (b := (!(decide ((0 : Int) ≤ rk (List.getD (a ++ b) i []) ((k : Nat) : Int))))) (by kernel_rfl) (fun c13 => ?_) (fun c13 => ?_)
            · -- yes 13
              try simp only [bs] at c13
              have hfb : fullB a.length (List.getD (a ++ b) i []) = false := fullB_no (fun q => by have := mem_rk.1 (q.2 k (by omega)); omega)
              refine awp_run_seq [4] [] [] ⟨41, [(4, .one (.int .i64 3))], []⟩ hT (by kernel_rfl) trivial ?_
              refine awp_ret ?_
              refine kRet.ret _ [] [] (.one (.int .i64 3)) [] (by kernel_rfl) trivial ?_
              exact ⟨congrArg (fun x1 => (.one (.int .i64 x1) : AV)) (show 3 = (listErr a b) from by rw [listErr, if_neg (by omega), if_neg (by omega), if_neg (by rw [← hq, allFull_drop (by omega), hfb, Bool.false_and]; decide)]), rfl⟩
            · -- no 13
              try simp only [bs] at c13
              refine awp_skip ?_
              refine awp_run [0, 6, 19, 20, 21, 31, 32] [] [(-9223372036854775808 ≤ (((k + 1) : Nat) : Int) ∧ (((k + 1) : Nat) : Int) ≤ 9223372036854775807)] ⟨41, [(0, .one (.rs (.rows a))), (6, .one (.ro (.ints .i64 (List.getD (a ++ b) i [])))), (19, .one (.rs (.rows (a ++ b)))), (20, .one (.int .i64 (((List.length (a ++ b)) : Nat) : Int))), (21, .one (.int .i64 ((i : Nat) : Int))), (31, .one (.int .i64 (((List.length (List.getD (a ++ b) i [])) : Nat) : Int))), (32, .one (.int .i64 (((k + 1) : Nat) : Int)))], []⟩ hT (by kernel_rfl) ⟨(by first | omega | (simp only [lens]; omega) | (simp only [Bool.cond_decide]; omega)), trivial⟩ ?_
              refine loop_end _ ?_ ⟨(k + 1), ⟨(by omega), (by intro j hj; rcases Nat.lt_succ_iff_lt_or_eq.1 hj with h | h; exact hp j h; subst h; omega), rfl⟩, (by kernel_rfl)⟩
              omega
          · -- no 11
            try simp only [bs] at c11
            have hfb : fullB a.length (List.getD (a ++ b) i []) = true := fullB_iff.2 ⟨by omega, fun j hj => mem_rk.2 (hp j (by omega))⟩
            refine awp_exit ?_
            refine awp_run [0, 19, 20, 21] [] [(-9223372036854775808 ≤ (((i + 1) : Nat) : Int) ∧ (((i + 1) : Nat) : Int) ≤ 9223372036854775807)] ⟨41, [(0, .one (.rs (.rows a))), (19, .one (.rs (.rows (a ++ b)))), (20, .one (.int .i64 (((List.length (a ++ b)) : Nat) : Int))), (21, .one (.int .i64 (((i + 1) : Nat) : Int)))], []⟩ hT (by kernel_rfl) ⟨(by first | omega | (simp only [lens]; omega) | (simp only [Bool.cond_decide]; omega)), trivial⟩ ?_
            refine loop_end _ ?_ ⟨(i + 1), ⟨(by omega), (by rw [← hq, had, hfb, Bool.true_and]), rfl⟩, (by kernel_rfl)⟩
            omega
      · -- no 6
        try simp only [bs] at c6
        refine awp_exit ?_
        refine awp_run_seq [4] [] [] ⟨41, [(4, .one (.int .i64 0))], []⟩ hT (by kernel_rfl) trivial ?_
        refine awp_ret ?_
        refine kRet.ret _ [] [] (.one (.int .i64 0)) [] (by kernel_rfl) trivial ?_
        exact ⟨congrArg (fun x1 => (.one (.int .i64 x1) : AV)) (show 0 = (listErr a b) from by rw [listErr, if_neg (by omega), if_neg (by omega), if_pos (by rw [← hq]; exact allFull_end (by omega))]), rfl⟩

end Go.Ab
