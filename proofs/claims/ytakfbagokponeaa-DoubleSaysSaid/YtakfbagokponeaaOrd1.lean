/- All orders of some numbers. -/
import Derived.Test.YtakfbagokponeaaTab
import Derived.Test.YtakfbagokponeaaIdx1
import Derived.Test.YtakfbagokponeaaF2
import Derived.Test.YtakfbagokponeaaPlStable2
set_option maxRecDepth 100000
namespace Go.Ab
open Go Go.Proofs
theorem ref_orders (n : Nat) (hn : n ≤ 6) : ACall Try.prog 68 [.one (.int .i64 ((n : Nat) : Int))] [] (fun ov oh => ov = .one (.rs (.rows (ordersOf n))) ∧ oh = []) := by
  refine acall_intro hT Try.func68 rfl (by kernel_rfl) rfl (by kernel_rfl) ?_
  refine awp_run_seq [0] [] [] ⟨39, [(0, .one (.int .i64 ((n : Nat) : Int)))], []⟩ hT (by kernel_rfl) trivial ?_
  refine awp_run_seq [0, 3] [108] [] ⟨39, [(0, .one (.int .i64 ((n : Nat) : Int))), (3, .one (.rw 108 0 1))], [(108, .recs (.rows [[]]))]⟩ hT (by kernel_rfl) trivial ?_
  refine awp_seq ?_
  refine awp_run_seq [0, 3, 9, 10] [108] [] ⟨39, [(0, .one (.int .i64 ((n : Nat) : Int))), (3, .one (.rw 108 0 1)), (9, .one (.int .i64 ((n : Nat) : Int))), (10, .one (.int .i64 0))], [(108, .recs (.rows [[]]))]⟩ hT (by kernel_rfl) trivial ?_
  refine awp_block ?_
  refine awp_weak (awk_seal 108 (s' := ⟨39, [(0, .one (.int .i64 ((n : Nat) : Int))), (3, .one (.rs (.rows [[]]))), (9, .one (.int .i64 ((n : Nat) : Int))), (10, .one (.int .i64 0))], []⟩) (by kernel_rfl)) ?_
  refine awp_loop (I := fun κ σ => ∃ (r : Nat) (O : List (List Int)), ((r ≤ n) ∧ (O = ordIter n r) ∧ n - r = κ) ∧ σ = ⟨39, [(0, .one (.int .i64 ((n : Nat) : Int))), (3, .one (.rs (.rows O))), (9, .one (.int .i64 ((n : Nat) : Int))), (10, .one (.int .i64 ((r : Nat) : Int)))], []⟩) _ ⟨0, [[]], ⟨(by omega), (by rfl), rfl⟩, (by kernel_rfl)⟩ ?_
  rintro κ _ ⟨r, O, ⟨hr, hO, rfl⟩, rfl⟩
  have hOl : O.length ≤ 6 ^ r := by rw [hO]; exact ordIter_len hn r
  have hpw : 6 ^ r ≤ 6 ^ 6 := Nat.pow_le_pow_right (by omega) (by omega)
  have hNa := ordStep_len (n := n) O
  have hmul : O.length * n ≤ 6 ^ 6 * 6 := Nat.mul_le_mul (by omega) hn
  refine awp_run_seq [0, 3, 9, 10, 11] [] [] ⟨39, [(0, .one (.int .i64 ((n : Nat) : Int))), (3, .one (.rs (.rows O))), (9, .one (.int .i64 ((n : Nat) : Int))), (10, .one (.int .i64 ((r : Nat) : Int))), (11, .one (.bool (decide (((r : Nat) : Int) < ((n : Nat) : Int)))))], []⟩ hT (by kernel_rfl) trivial ?_
  refine awp_seq ?_
  refine awp_cond (b := (decide (((r : Nat) : Int) < ((n : Nat) : Int)))) (by kernel_rfl) (fun c3 => ?_) (fun c3 => ?_)
  · -- yes 3
    try simp only [bs] at c3
    refine awp_skip ?_
    refine awp_seq ?_
    refine awp_block ?_
    refine awp_run_seq [0, 3, 4, 9, 10] [] [] ⟨39, [(0, .one (.int .i64 ((n : Nat) : Int))), (3, .one (.rs (.rows O))), (4, .one .nils), (9, .one (.int .i64 ((n : Nat) : Int))), (10, .one (.int .i64 ((r : Nat) : Int)))], []⟩ hT (by kernel_rfl) trivial ?_
    refine awp_seq ?_
    refine awp_run_seq [0, 4, 9, 10, 12, 13, 14] [] [] ⟨39, [(0, .one (.int .i64 ((n : Nat) : Int))), (4, .one .nils), (9, .one (.int .i64 ((n : Nat) : Int))), (10, .one (.int .i64 ((r : Nat) : Int))), (12, .one (.rs (.rows O))), (13, .one (.int .i64 ((O.length : Nat) : Int))), (14, .one (.int .i64 0))], []⟩ hT (by kernel_rfl) trivial ?_
    refine awp_block ?_
    refine awp_weak (awk_empty 5004 (.recs (.rows [])) rfl (by decide) _) ?_
    refine awp_weak (awk_slot 4 (.one .nils) (.one (.rw 5004 0 0)) _ (by kernel_rfl) (.one (wkv_nils (o := .recs (.rows [])) (by kernel_rfl)))) ?_
    refine awp_loop (I := fun κ σ => ∃ (j : Nat) (N : List (List Int)), ((j ≤ O.length) ∧ (N ++ ordStep n (O.drop j) = ordStep n O) ∧ O.length - j = κ) ∧ σ = ⟨39, [(0, .one (.int .i64 ((n : Nat) : Int))), (4, .one (.rw 5004 0 N.length)), (9, .one (.int .i64 ((n : Nat) : Int))), (10, .one (.int .i64 ((r : Nat) : Int))), (12, .one (.rs (.rows O))), (13, .one (.int .i64 ((O.length : Nat) : Int))), (14, .one (.int .i64 ((j : Nat) : Int)))], [(5004, .recs (.rows N))]⟩) _ ⟨0, [], ⟨(by omega), (by rfl), rfl⟩, (by kernel_rfl)⟩ ?_
    rintro κ _ ⟨j, N, ⟨hj, hN, rfl⟩, rfl⟩
    have hNl := congrArg List.length hN
    rw [List.length_append] at hNl
    refine awp_run_seq [0, 4, 9, 10, 12, 13, 14, 15] [5004] [] ⟨39, [(0, .one (.int .i64 ((n : Nat) : Int))), (4, .one (.rw 5004 0 N.length)), (9, .one (.int .i64 ((n : Nat) : Int))), (10, .one (.int .i64 ((r : Nat) : Int))), (12, .one (.rs (.rows O))), (13, .one (.int .i64 ((O.length : Nat) : Int))), (14, .one (.int .i64 ((j : Nat) : Int))), (15, .one (.bool (decide (((j : Nat) : Int) < ((O.length : Nat) : Int)))))], [(5004, .recs (.rows N))]⟩ hT (by kernel_rfl) trivial ?_
    refine awp_seq ?_
    refine awp_cond (b := (decide (((j : Nat) : Int) < ((O.length : Nat) : Int)))) (by kernel_rfl) (fun c6 => ?_) (fun c6 => ?_)
    · -- yes 6
      try simp only [bs] at c6
      have hjl : j < O.length := by omega
      have hod := ordStep_drop (n := n) hjl
      rw [hod] at hN
      have hmO := getD_mem (d := ([] : List Int)) hjl
      have hlm := (ordIter_mem.1 (by rw [← hO]; exact hmO : List.getD O j [] ∈ ordIter n r)).1
      refine awp_skip ?_
      refine awp_seq ?_
      refine awp_block ?_
      refine awp_run_seq [0, 4, 6, 9, 10, 12, 13, 14] [5004] [((0 : Int) ≤ ((j : Nat) : Int)), (((j : Nat) : Int) < ((O.length : Nat) : Int))] ⟨39, [(0, .one (.int .i64 ((n : Nat) : Int))), (4, .one (.rw 5004 0 N.length)), (6, .one (.ro (.ints .i64 (List.getD O j [])))), (9, .one (.int .i64 ((n : Nat) : Int))), (10, .one (.int .i64 ((r : Nat) : Int))), (12, .one (.rs (.rows O))), (13, .one (.int .i64 ((O.length : Nat) : Int))), (14, .one (.int .i64 ((j : Nat) : Int)))], [(5004, .recs (.rows N))]⟩ hT (by kernel_rfl) ⟨(by first | omega | (simp only [lens]; omega) | (simp only [lens]; done) | (simp; done)), (by first | omega | (simp only [lens]; omega) | (simp only [lens]; done) | (simp; done)), trivial⟩ ?_
      refine awp_run_seq [0, 4, 6, 9, 10, 12, 13, 14, 18, 19] [5004] [] ⟨39, [(0, .one (.int .i64 ((n : Nat) : Int))), (4, .one (.rw 5004 0 N.length)), (6, .one (.ro (.ints .i64 (List.getD O j [])))), (9, .one (.int .i64 ((n : Nat) : Int))), (10, .one (.int .i64 ((r : Nat) : Int))), (12, .one (.rs (.rows O))), (13, .one (.int .i64 ((O.length : Nat) : Int))), (14, .one (.int .i64 ((j : Nat) : Int))), (18, .one (.int .i64 ((n : Nat) : Int))), (19, .one (.int .i64 0))], [(5004, .recs (.rows N))]⟩ hT (by kernel_rfl) trivial ?_
      refine awp_block ?_
      refine awp_loop (I := fun κ σ => ∃ (k : Nat) (M : List (List Int)), ((k ≤ n) ∧ (M ++ extFrom (List.getD O j []) k (n - k) = N ++ extOf n (List.getD O j [])) ∧ n - k = κ) ∧ σ = ⟨39, [(0, .one (.int .i64 ((n : Nat) : Int))), (4, .one (.rw 5004 0 M.length)), (6, .one (.ro (.ints .i64 (List.getD O j [])))), (9, .one (.int .i64 ((n : Nat) : Int))), (10, .one (.int .i64 ((r : Nat) : Int))), (12, .one (.rs (.rows O))), (13, .one (.int .i64 ((O.length : Nat) : Int))), (14, .one (.int .i64 ((j : Nat) : Int))), (18, .one (.int .i64 ((n : Nat) : Int))), (19, .one (.int .i64 ((k : Nat) : Int)))], [(5004, .recs (.rows M))]⟩) _ ⟨0, N, ⟨(by omega), (by rfl), rfl⟩, (by kernel_rfl)⟩ ?_
      rintro κ _ ⟨k, M, ⟨hk, hM, rfl⟩, rfl⟩
      have hMl := congrArg List.length hM
      rw [List.length_append] at hMl
      have hNl2 := congrArg List.length hN
      simp only [List.length_append] at hNl2 hMl
      refine awp_run_seq [0, 4, 6, 9, 10, 12, 13, 14, 18, 19, 20] [5004] [] ⟨39, [(0, .one (.int .i64 ((n : Nat) : Int))), (4, .one (.rw 5004 0 M.length)), (6, .one (.ro (.ints .i64 (List.getD O j [])))), (9, .one (.int .i64 ((n : Nat) : Int))), (10, .one (.int .i64 ((r : Nat) : Int))), (12, .one (.rs (.rows O))), (13, .one (.int .i64 ((O.length : Nat) : Int))), (14, .one (.int .i64 ((j : Nat) : Int))), (18, .one (.int .i64 ((n : Nat) : Int))), (19, .one (.int .i64 ((k : Nat) : Int))), (20, .one (.bool (decide (((k : Nat) : Int) < ((n : Nat) : Int)))))], [(5004, .recs (.rows M))]⟩ hT (by kernel_rfl) trivial ?_
      refine awp_seq ?_
      refine awp_cond (b := (decide (((k : Nat) : Int) < ((n : Nat) : Int)))) (by kernel_rfl) (fun c9 => ?_) (fun c9 => ?_)
      · -- yes 9
        try simp only [bs] at c9
        have hkl : k < n := by omega
        have hes := extFrom_step (l := List.getD O j []) hkl
        rw [hes] at hM
        refine awp_skip ?_
        refine awp_seq ?_
        refine awp_block ?_
        refine awp_run_seq [0, 4, 6, 7, 9, 10, 12, 13, 14, 18, 19] [5004] [] ⟨39, [(0, .one (.int .i64 ((n : Nat) : Int))), (4, .one (.rw 5004 0 M.length)), (6, .one (.ro (.ints .i64 (List.getD O j [])))), (7, .one (.int .i64 ((k : Nat) : Int))), (9, .one (.int .i64 ((n : Nat) : Int))), (10, .one (.int .i64 ((r : Nat) : Int))), (12, .one (.rs (.rows O))), (13, .one (.int .i64 ((O.length : Nat) : Int))), (14, .one (.int .i64 ((j : Nat) : Int))), (18, .one (.int .i64 ((n : Nat) : Int))), (19, .one (.int .i64 ((k : Nat) : Int)))], [(5004, .recs (.rows M))]⟩ hT (by kernel_rfl) trivial ?_
        refine awp_seq (awp_region ?_)
        refine aops_run 2 [0, 4, 6, 7, 9, 10, 12, 13, 14, 18, 19, 22, 23] [5004] [] ⟨39, [(0, .one (.int .i64 ((n : Nat) : Int))), (4, .one (.rw 5004 0 M.length)), (6, .one (.ro (.ints .i64 (List.getD O j [])))), (7, .one (.int .i64 ((k : Nat) : Int))), (9, .one (.int .i64 ((n : Nat) : Int))), (10, .one (.int .i64 ((r : Nat) : Int))), (12, .one (.rs (.rows O))), (13, .one (.int .i64 ((O.length : Nat) : Int))), (14, .one (.int .i64 ((j : Nat) : Int))), (18, .one (.int .i64 ((n : Nat) : Int))), (19, .one (.int .i64 ((k : Nat) : Int))), (22, .one (.ro (.ints .i64 (List.getD O j [])))), (23, .one (.int .i64 ((k : Nat) : Int)))], [(5004, .recs (.rows M))]⟩ hT (by kernel_rfl) (by kernel_rfl) trivial ?_
        refine aops_pure false ⟨true, [], 87, [.one (.ro (.ints .i64 (List.getD O j []))), .one (.int .i64 ((k : Nat) : Int))], []⟩ [.one (.ro (.ints .i64 (List.getD O j []))), .one (.int .i64 ((k : Nat) : Int))] (.one (.bool (decide ((0 : Int) ≤ rk (List.getD O j []) ((k : Nat) : Int))))) ⟨39, [(0, .one (.int .i64 ((n : Nat) : Int))), (4, .one (.rw 5004 0 M.length)), (6, .one (.ro (.ints .i64 (List.getD O j [])))), (7, .one (.int .i64 ((k : Nat) : Int))), (9, .one (.int .i64 ((n : Nat) : Int))), (10, .one (.int .i64 ((r : Nat) : Int))), (12, .one (.rs (.rows O))), (13, .one (.int .i64 ((O.length : Nat) : Int))), (14, .one (.int .i64 ((j : Nat) : Int))), (18, .one (.int .i64 ((n : Nat) : Int))), (19, .one (.int .i64 ((k : Nat) : Int))), (22, .one (.ro (.ints .i64 (List.getD O j [])))), (23, .one (.int .i64 ((k : Nat) : Int))), (24, .one (.bool (decide ((0 : Int) ≤ rk (List.getD O j []) ((k : Nat) : Int)))))], [(5004, .recs (.rows M))]⟩ (by kernel_rfl) (by kernel_rfl) (fun _ => trivial) rfl (fun _ => contains_ints (List.getD O j []) ((k : Nat) : Int)) ?_
        refine aops_run 1 [0, 4, 6, 7, 9, 10, 12, 13, 14, 18, 19, 25] [5004] [] ⟨39, [(0, .one (.int .i64 ((n : Nat) : Int))), (4, .one (.rw 5004 0 M.length)), (6, .one (.ro (.ints .i64 (List.getD O j [])))), (7, .one (.int .i64 ((k : Nat) : Int))), (9, .one (.int .i64 ((n : Nat) : Int))), (10, .one (.int .i64 ((r : Nat) : Int))), (12, .one (.rs (.rows O))), (13, .one (.int .i64 ((O.length : Nat) : Int))), (14, .one (.int .i64 ((j : Nat) : Int))), (18, .one (.int .i64 ((n : Nat) : Int))), (19, .one (.int .i64 ((k : Nat) : Int))), (25, .one (.bool (!(decide ((0 : Int) ≤ rk (List.getD O j []) ((k : Nat) : Int))))))], [(5004, .recs (.rows M))]⟩ hT (by kernel_rfl) (by kernel_rfl) trivial ?_
        refine aops_end_seq (by kernel_rfl) ?_
        refine awp_cond (b := (!(decide ((0 : Int) ≤ rk (List.getD O j []) ((k : Nat) : Int))))) (by kernel_rfl) (fun c11 => ?_) (fun c11 => ?_)
        · -- yes 11
          try simp only [bs] at c11
          refine awp_region ?_
          refine aops_run 2 [0, 6, 7, 9, 10, 12, 13, 14, 18, 19, 26, 27] [5004] [] ⟨39, [(0, .one (.int .i64 ((n : Nat) : Int))), (6, .one (.ro (.ints .i64 (List.getD O j [])))), (7, .one (.int .i64 ((k : Nat) : Int))), (9, .one (.int .i64 ((n : Nat) : Int))), (10, .one (.int .i64 ((r : Nat) : Int))), (12, .one (.rs (.rows O))), (13, .one (.int .i64 ((O.length : Nat) : Int))), (14, .one (.int .i64 ((j : Nat) : Int))), (18, .one (.int .i64 ((n : Nat) : Int))), (19, .one (.int .i64 ((k : Nat) : Int))), (26, .one (.rw 5004 0 M.length)), (27, .one (.ro (.ints .i64 (List.getD O j []))))], [(5004, .recs (.rows M))]⟩ hT (by kernel_rfl) (by kernel_rfl) trivial ?_
          refine aops_call [] [(9001, 128)] false ⟨true, [], 64, [.one (.ro (.ints .i64 (List.getD O j [])))], []⟩ [.one (.ro (.ints .i64 (List.getD O j [])))] (sm := ⟨39, [(0, .one (.int .i64 ((n : Nat) : Int))), (6, .one (.ro (.ints .i64 (List.getD O j [])))), (7, .one (.int .i64 ((k : Nat) : Int))), (9, .one (.int .i64 ((n : Nat) : Int))), (10, .one (.int .i64 ((r : Nat) : Int))), (12, .one (.rs (.rows O))), (13, .one (.int .i64 ((O.length : Nat) : Int))), (14, .one (.int .i64 ((j : Nat) : Int))), (18, .one (.int .i64 ((n : Nat) : Int))), (19, .one (.int .i64 ((k : Nat) : Int))), (26, .one (.rw 5004 0 M.length)), (27, .one (.ro (.ints .i64 (List.getD O j [])))), (28, .whn false (.one .any))], [(5004, .recs (.rows M))]⟩) (by kernel_rfl) (by kernel_rfl) (by decide) (fun _ => trivial) rfl (fun _ => clone_ints (List.getD O j []) (by first | omega | (simp; omega))) (fun _ v Hr hv => ?_) (fun h => by cases h)
          obtain ⟨rfl, rfl⟩ := hv
          refine ⟨⟨39, [(0, .one (.int .i64 ((n : Nat) : Int))), (6, .one (.ro (.ints .i64 (List.getD O j [])))), (7, .one (.int .i64 ((k : Nat) : Int))), (9, .one (.int .i64 ((n : Nat) : Int))), (10, .one (.int .i64 ((r : Nat) : Int))), (12, .one (.rs (.rows O))), (13, .one (.int .i64 ((O.length : Nat) : Int))), (14, .one (.int .i64 ((j : Nat) : Int))), (18, .one (.int .i64 ((n : Nat) : Int))), (19, .one (.int .i64 ((k : Nat) : Int))), (26, .one (.rw 5004 0 M.length)), (27, .one (.ro (.ints .i64 (List.getD O j [])))), (28, .one (.rw 128 0 (List.length (List.getD O j []))))], [(128, .flat (.ints .i64 (List.getD O j []))), (5004, .recs (.rows M))]⟩, by kernel_rfl, ?_⟩
          refine aops_run 3 [0, 6, 9, 10, 12, 13, 14, 18, 19, 26, 31] [128, 5004] [((List.length (List.getD O j [])) = (List.length (List.getD O j []))), (((List.length (List.getD O j [])) + 1) * 8 ≤ 140737488355328), (((List.length (List.getD O j [])) + 1) ≤ 9223372036854775807)] ⟨39, [(0, .one (.int .i64 ((n : Nat) : Int))), (6, .one (.ro (.ints .i64 (List.getD O j [])))), (9, .one (.int .i64 ((n : Nat) : Int))), (10, .one (.int .i64 ((r : Nat) : Int))), (12, .one (.rs (.rows O))), (13, .one (.int .i64 ((O.length : Nat) : Int))), (14, .one (.int .i64 ((j : Nat) : Int))), (18, .one (.int .i64 ((n : Nat) : Int))), (19, .one (.int .i64 ((k : Nat) : Int))), (26, .one (.rw 5004 0 M.length)), (31, .one (.rw 128 0 ((List.length (List.getD O j [])) + 1)))], [(128, .flat (.ints .i64 ((List.getD O j []) ++ [((k : Nat) : Int)]))), (5004, .recs (.rows M))]⟩ hT (by kernel_rfl) (by kernel_rfl) ⟨(by first | omega | (simp only [lens]; omega) | (simp only [lens]; done) | (simp; done)), (by first | omega | (simp only [lens]; omega) | (simp only [lens]; done) | (simp; done)), (by first | omega | (simp only [lens]; omega) | (simp only [lens]; done) | (simp; done)), trivial⟩ ?_
          refine aops_weak (awk_seal 128 (s' := ⟨39, [(0, .one (.int .i64 ((n : Nat) : Int))), (6, .one (.ro (.ints .i64 (List.getD O j [])))), (9, .one (.int .i64 ((n : Nat) : Int))), (10, .one (.int .i64 ((r : Nat) : Int))), (12, .one (.rs (.rows O))), (13, .one (.int .i64 ((O.length : Nat) : Int))), (14, .one (.int .i64 ((j : Nat) : Int))), (18, .one (.int .i64 ((n : Nat) : Int))), (19, .one (.int .i64 ((k : Nat) : Int))), (26, .one (.rw 5004 0 M.length)), (31, .one (.ro (.ints .i64 (List.take ((List.length (List.getD O j [])) + 1) ((List.getD O j []) ++ [((k : Nat) : Int)])))))], [(5004, .recs (.rows M))]⟩) (by kernel_rfl)) ?_
          rw [show (List.take ((List.length (List.getD O j [])) + 1) ((List.getD O j []) ++ [((k : Nat) : Int)])) = ((List.getD O j []) ++ [((k : Nat) : Int)]) from List.take_of_length_le (by first | omega | simp)]
          refine aops_run 3 [0, 4, 6, 9, 10, 12, 13, 14, 18, 19] [5004] [(M.length = M.length), ((M.length + 1) * 24 ≤ 140737488355328), ((M.length + 1) ≤ 9223372036854775807)] ⟨39, [(0, .one (.int .i64 ((n : Nat) : Int))), (4, .one (.rw 5004 0 (M.length + 1))), (6, .one (.ro (.ints .i64 (List.getD O j [])))), (9, .one (.int .i64 ((n : Nat) : Int))), (10, .one (.int .i64 ((r : Nat) : Int))), (12, .one (.rs (.rows O))), (13, .one (.int .i64 ((O.length : Nat) : Int))), (14, .one (.int .i64 ((j : Nat) : Int))), (18, .one (.int .i64 ((n : Nat) : Int))), (19, .one (.int .i64 ((k : Nat) : Int)))], [(5004, .recs (.rows (M ++ [((List.getD O j []) ++ [((k : Nat) : Int)])])))]⟩ hT (by kernel_rfl) (by kernel_rfl) ⟨(by first | omega | (simp only [lens]; omega) | (simp only [lens]; done) | (simp; done)), (by first | omega | (simp only [lens]; omega) | (simp only [lens]; done) | (simp; done)), (by first | omega | (simp only [lens]; omega) | (simp only [lens]; done) | (simp; done)), trivial⟩ ?_
          refine aops_end (by kernel_rfl) ?_
          refine awp_run [0, 4, 6, 9, 10, 12, 13, 14, 18, 19] [5004] [(-9223372036854775808 ≤ (((k + 1) : Nat) : Int) ∧ (((k + 1) : Nat) : Int) ≤ 9223372036854775807)] ⟨39, [(0, .one (.int .i64 ((n : Nat) : Int))), (4, .one (.rw 5004 0 (M.length + 1))), (6, .one (.ro (.ints .i64 (List.getD O j [])))), (9, .one (.int .i64 ((n : Nat) : Int))), (10, .one (.int .i64 ((r : Nat) : Int))), (12, .one (.rs (.rows O))), (13, .one (.int .i64 ((O.length : Nat) : Int))), (14, .one (.int .i64 ((j : Nat) : Int))), (18, .one (.int .i64 ((n : Nat) : Int))), (19, .one (.int .i64 (((k + 1) : Nat) : Int)))], [(5004, .recs (.rows (M ++ [((List.getD O j []) ++ [((k : Nat) : Int)])])))]⟩ hT (by kernel_rfl) ⟨(by first | omega | (simp only [lens]; omega) | (simp only [lens]; done) | (simp; done)), trivial⟩ ?_
          refine loop_end _ ?_ ⟨(k + 1), (M ++ [((List.getD O j []) ++ [((k : Nat) : Int)])]), ⟨(by omega), (by first | (rw [if_neg (by omega)] at hM; rw [List.append_assoc]; exact hM) | (rw [if_pos (by omega), List.nil_append] at hM; exact hM)), rfl⟩, (by first | (simp only [lens]; done) | (simp only [Nat.zero_add]; done) | simp only [lens, Nat.zero_add])⟩
          omega
        · -- no 11
          try simp only [bs] at c11
          refine awp_skip ?_
          refine awp_run [0, 4, 6, 9, 10, 12, 13, 14, 18, 19] [5004] [(-9223372036854775808 ≤ (((k + 1) : Nat) : Int) ∧ (((k + 1) : Nat) : Int) ≤ 9223372036854775807)] ⟨39, [(0, .one (.int .i64 ((n : Nat) : Int))), (4, .one (.rw 5004 0 M.length)), (6, .one (.ro (.ints .i64 (List.getD O j [])))), (9, .one (.int .i64 ((n : Nat) : Int))), (10, .one (.int .i64 ((r : Nat) : Int))), (12, .one (.rs (.rows O))), (13, .one (.int .i64 ((O.length : Nat) : Int))), (14, .one (.int .i64 ((j : Nat) : Int))), (18, .one (.int .i64 ((n : Nat) : Int))), (19, .one (.int .i64 (((k + 1) : Nat) : Int)))], [(5004, .recs (.rows M))]⟩ hT (by kernel_rfl) ⟨(by first | omega | (simp only [lens]; omega) | (simp only [lens]; done) | (simp; done)), trivial⟩ ?_
          refine loop_end _ ?_ ⟨(k + 1), M, ⟨(by omega), (by first | (rw [if_neg (by omega)] at hM; rw [List.append_assoc]; exact hM) | (rw [if_pos (by omega), List.nil_append] at hM; exact hM)), rfl⟩, (by kernel_rfl)⟩
          omega
      · -- no 9
        try simp only [bs] at c9
        have hMe : M = N ++ extOf n (List.getD O j []) := by rw [extFrom_end (by omega), List.append_nil] at hM; exact hM
        refine awp_exit ?_
        refine awp_run [0, 4, 9, 10, 12, 13, 14] [5004] [(-9223372036854775808 ≤ (((j + 1) : Nat) : Int) ∧ (((j + 1) : Nat) : Int) ≤ 9223372036854775807)] ⟨39, [(0, .one (.int .i64 ((n : Nat) : Int))), (4, .one (.rw 5004 0 M.length)), (9, .one (.int .i64 ((n : Nat) : Int))), (10, .one (.int .i64 ((r : Nat) : Int))), (12, .one (.rs (.rows O))), (13, .one (.int .i64 ((O.length : Nat) : Int))), (14, .one (.int .i64 (((j + 1) : Nat) : Int)))], [(5004, .recs (.rows M))]⟩ hT (by kernel_rfl) ⟨(by first | omega | (simp only [lens]; omega) | (simp only [lens]; done) | (simp; done)), trivial⟩ ?_
        refine loop_end _ ?_ ⟨(j + 1), M, ⟨(by omega), (by rw [hMe, List.append_assoc]; exact hN), rfl⟩, (by kernel_rfl)⟩
        omega
    · -- no 6
      try simp only [bs] at c6
      have hNe : N = ordStep n O := by rw [ordStep_end (by omega), List.append_nil] at hN; exact hN
      refine awp_exit ?_
      refine awp_weak (awk_seal 5004 (s' := ⟨39, [(0, .one (.int .i64 ((n : Nat) : Int))), (4, .one (.rs (.rows (List.take N.length N)))), (9, .one (.int .i64 ((n : Nat) : Int))), (10, .one (.int .i64 ((r : Nat) : Int))), (12, .one (.rs (.rows O))), (13, .one (.int .i64 ((O.length : Nat) : Int))), (14, .one (.int .i64 ((j : Nat) : Int))), (15, .one (.bool (decide (((j : Nat) : Int) < ((O.length : Nat) : Int)))))], []⟩) (by kernel_rfl)) ?_
      rw [show (List.take N.length N) = N from List.take_of_length_le (by first | omega | simp)]
      refine awp_run [0, 3, 9, 10] [] [] ⟨39, [(0, .one (.int .i64 ((n : Nat) : Int))), (3, .one (.rs (.rows N))), (9, .one (.int .i64 ((n : Nat) : Int))), (10, .one (.int .i64 ((r : Nat) : Int)))], []⟩ hT (by kernel_rfl) trivial ?_
      refine awp_run [0, 3, 9, 10] [] [(-9223372036854775808 ≤ (((r + 1) : Nat) : Int) ∧ (((r + 1) : Nat) : Int) ≤ 9223372036854775807)] ⟨39, [(0, .one (.int .i64 ((n : Nat) : Int))), (3, .one (.rs (.rows N))), (9, .one (.int .i64 ((n : Nat) : Int))), (10, .one (.int .i64 (((r + 1) : Nat) : Int)))], []⟩ hT (by kernel_rfl) ⟨(by first | omega | (simp only [lens]; omega) | (simp only [lens]; done) | (simp; done)), trivial⟩ ?_
      refine loop_end _ ?_ ⟨(r + 1), N, ⟨(by omega), (by rw [hNe, hO]; rfl), rfl⟩, (by kernel_rfl)⟩
      omega
  · -- no 3
    try simp only [bs] at c3
    have hOe : O = ordersOf n := by rw [hO, show r = n by omega]; rfl
    refine awp_exit ?_
    refine awp_run_seq [2] [] [] ⟨39, [(2, .one (.rs (.rows O)))], []⟩ hT (by kernel_rfl) trivial ?_
    refine awp_ret ?_
    refine kRet.ret _ [] [] (.one (.rs (.rows O))) [] (by kernel_rfl) trivial ?_
    exact ⟨congrArg (fun x1 => (.one (.rs (.rows x1)) : AV)) (show O = (ordersOf n) from by exact hOe), rfl⟩

end Go.Ab
