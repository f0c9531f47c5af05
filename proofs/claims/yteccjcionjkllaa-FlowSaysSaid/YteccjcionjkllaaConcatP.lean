/- Of slices: Concat of two lists of pieces. -/
import Derived.Test.YteccjcionjkllaaTab
import Derived.Test.YteccjcionjkllaaF1
import Derived.Test.YteccjcionjkllaaPlSplit
set_option maxRecDepth 100000
namespace Go.Ab
open Go Go.Proofs
theorem grow_pieces (m : Nat) (hm : m * 32 ≤ 140737488355328) : ACall Try.prog 124 [.one .nils, .one (.int .i64 ((m : Nat) : Int))] [] (fun ov oh => ov = .one (.rw 9001 0 0) ∧ oh = [(9001, .recs (.pieces []))]) := by
  refine acall_intro hT Try.func124 rfl (by kernel_rfl) rfl (by kernel_rfl) ?_
  refine awp_run_seq [0, 1] [] [] ⟨27, [(0, .one .nils), (1, .one (.int .i64 ((m : Nat) : Int)))], []⟩ hT (by kernel_rfl) trivial ?_
  refine awp_seq ?_
  refine awp_run_seq [0, 1, 6] [] [] ⟨27, [(0, .one .nils), (1, .one (.int .i64 ((m : Nat) : Int))), (6, .one (.bool (decide (((m : Nat) : Int) < 0))))], []⟩ hT (by kernel_rfl) trivial ?_
  refine awp_cond (b := (decide (((m : Nat) : Int) < 0))) (by kernel_rfl) (fun c1 => ?_) (fun c1 => ?_)
  · -- yes 1
    try simp only [bs] at c1
    exfalso; omega
  · -- no 1
    try simp only [bs] at c1
    refine awp_skip ?_
    refine awp_seq ?_
    refine awp_run_seq [0, 1] [] [(-9223372036854775808 ≤ (0 : Int) ∧ (0 : Int) ≤ 9223372036854775807), (-9223372036854775808 ≤ (((m : Nat) : Int) - 0) ∧ (((m : Nat) : Int) - 0) ≤ 9223372036854775807)] ⟨27, [(0, .one .nils), (1, .one (.int .i64 (((m : Nat) : Int) - 0)))], []⟩ hT (by kernel_rfl) ⟨(by first | omega | (simp only [lens]; omega) | (simp only [Bool.cond_decide]; omega) | (simp only [nadd_eq]; omega)), (by first | omega | (simp only [lens]; omega) | (simp only [Bool.cond_decide]; omega) | (simp only [nadd_eq]; omega)), trivial⟩ ?_
    refine awp_run_seq [0, 1, 16] [] [] ⟨27, [(0, .one .nils), (1, .one (.int .i64 (((m : Nat) : Int) - 0))), (16, .one (.bool (decide ((0 : Int) < (((m : Nat) : Int) - 0)))))], []⟩ hT (by kernel_rfl) trivial ?_
    refine awp_cond (b := (decide ((0 : Int) < (((m : Nat) : Int) - 0)))) (by kernel_rfl) (fun c4 => ?_) (fun c4 => ?_)
    · -- yes 4
      try simp only [bs] at c4
      rw [show (((m : Nat) : Int) - 0) = ((m : Nat) : Int) from by omega]
      refine awp_region ?_
      refine aops_run 5 [0, 20, 21] [] [((0 : Int) ≤ 0), ((0 : Int) ≤ 0), ((0 : Int) ≤ 0)] ⟨27, [(0, .one .nils), (20, .one .nils), (21, .one (.int .i64 ((m : Nat) : Int)))], []⟩ hT (by kernel_rfl) (by kernel_rfl) ⟨(by first | omega | (simp only [lens]; omega) | (simp only [Bool.cond_decide]; omega) | (simp only [nadd_eq]; omega)), (by first | omega | (simp only [lens]; omega) | (simp only [Bool.cond_decide]; omega) | (simp only [nadd_eq]; omega)), (by first | omega | (simp only [lens]; omega) | (simp only [Bool.cond_decide]; omega) | (simp only [nadd_eq]; omega)), trivial⟩ ?_
      refine aops_growz (m := m) (ob := .recs (.pieces (List.replicate m ((0, []) : Int × List Int)))) hT rfl rfl rfl rfl (by kernel_rfl) (show T 37 = some _ from rfl) rfl (show T 103 = some _ from rfl) (show T 3 = some _ from rfl) rfl (by kernel_rfl) (by kernel_rfl) (by first | omega | (simp only [lens]; omega) | (simp only [Bool.cond_decide]; omega) | (simp only [nadd_eq]; omega)) (by first | omega | (simp only [lens]; omega) | (simp only [Bool.cond_decide]; omega) | (simp only [nadd_eq]; omega)) (by first | omega | (simp only [lens]; omega) | (simp only [Bool.cond_decide]; omega) | (simp only [nadd_eq]; omega)) (by kernel_rfl) (by kernel_rfl) (by kernel_rfl) (by kernel_rfl) ?_
      refine aops_cut [0, 20, 21, 22] [122] ⟨27, [(0, .one .nils), (20, .one .nils), (21, .one (.int .i64 ((m : Nat) : Int))), (22, .one (.rw 122 0 m))], [(122, .recs (.pieces (List.replicate m ((0, []) : Int × List Int))))]⟩ (by kernel_rfl) ?_
      refine aops_run 4 [0] [122] [((0 : Int) ≤ 0), ((0 : Int) ≤ 0), ((0 : Int) ≤ ((m : Nat) : Int))] ⟨27, [(0, .one (.rw 122 0 0))], [(122, .recs (.pieces (List.replicate m ((0, []) : Int × List Int))))]⟩ hT (by kernel_rfl) (by kernel_rfl) ⟨(by first | omega | (simp only [lens]; omega) | (simp only [Bool.cond_decide]; omega) | (simp only [nadd_eq]; omega)), (by first | omega | (simp only [lens]; omega) | (simp only [Bool.cond_decide]; omega) | (simp only [nadd_eq]; omega)), (by first | omega | (simp only [lens]; omega) | (simp only [Bool.cond_decide]; omega) | (simp only [nadd_eq]; omega)), trivial⟩ ?_
      refine aops_end (by kernel_rfl) ?_
      refine awp_run_seq [4] [122] [] ⟨27, [(4, .one (.rw 122 0 0))], [(122, .recs (.pieces (List.replicate m ((0, []) : Int × List Int))))]⟩ hT (by kernel_rfl) trivial ?_
      refine awp_weak (awk_reset 122 4 (.recs (.pieces (List.replicate m ((0, []) : Int × List Int)))) (.recs (.pieces [])) _ (by kernel_rfl) (by kernel_rfl) (by decide) rfl rfl) ?_
      refine awp_weak (awk_ren 122 9001 (s' := ⟨27, [(4, .one (.rw 9001 0 0))], [(9001, .recs (.pieces []))]⟩) (by kernel_rfl)) ?_
      refine awp_ret ?_
      refine kRet.ret _ [9001] [] (.one (.rw 9001 0 0)) [(9001, .recs (.pieces []))] (by kernel_rfl) trivial ?_
      exact ⟨(by kernel_rfl), (by kernel_rfl)⟩
    · -- no 4
      try simp only [bs] at c4
      refine awp_skip ?_
      refine awp_run_seq [4] [] [] ⟨27, [(4, .one .nils)], []⟩ hT (by kernel_rfl) trivial ?_
      refine awp_weak (awk_empty 5004 (.recs (.pieces [])) rfl (by decide) _) ?_
      refine awp_weak (awk_slot 4 (.one .nils) (.one (.rw 5004 0 0)) _ (by kernel_rfl) (.one (wkv_nils (o := .recs (.pieces [])) (by kernel_rfl)))) ?_
      refine awp_weak (awk_ren 5004 9001 (s' := ⟨27, [(4, .one (.rw 9001 0 0))], [(9001, .recs (.pieces []))]⟩) (by kernel_rfl)) ?_
      refine awp_ret ?_
      refine kRet.ret _ [9001] [] (.one (.rw 9001 0 0)) [(9001, .recs (.pieces []))] (by kernel_rfl) trivial ?_
      exact ⟨(by kernel_rfl), (by kernel_rfl)⟩

theorem concat_pieces (a b : List (Int × List Int)) (hl : (a.length + b.length) * 32 ≤ 140737488355328) : ACall Try.prog 85 [.one (.rw 1 0 2)] [(1, .box 2 1 [(.rs (.pieces a)), (.rs (.pieces b))])] (fun ov oh => ov = .one (.rw 9001 0 ((a ++ b).length)) ∧ oh = [(1, .box 2 1 [(.rs (.pieces a)), (.rs (.pieces b))]), (9001, .recs (.pieces (a ++ b)))]) := by
  refine acall_intro hT Try.func85 rfl (by kernel_rfl) rfl (by kernel_rfl) ?_
  have hab : (a ++ b).length = a.length + b.length := List.length_append
  refine awp_run_seq [0] [] [] ⟨36, [(0, .one (.rw 1 0 2))], [(1, .box 2 1 [(.rs (.pieces a)), (.rs (.pieces b))])]⟩ hT (by kernel_rfl) trivial ?_
  refine awp_run_seq [0, 3] [] [] ⟨36, [(0, .one (.rw 1 0 2)), (3, .one (.int .i64 0))], [(1, .box 2 1 [(.rs (.pieces a)), (.rs (.pieces b))])]⟩ hT (by kernel_rfl) trivial ?_
  refine awp_seq ?_
  refine awp_run_seq [0, 3, 9, 10, 11] [] [] ⟨36, [(0, .one (.rw 1 0 2)), (3, .one (.int .i64 0)), (9, .one (.rw 1 0 2)), (10, .one (.int .i64 2)), (11, .one (.int .i64 0))], [(1, .box 2 1 [(.rs (.pieces a)), (.rs (.pieces b))])]⟩ hT (by kernel_rfl) trivial ?_
  refine awp_block ?_
  refine awp_loop (I := fun κ σ => ∃ (i t : Nat), ((i = 0 ∨ i = 1 ∨ i = 2) ∧ ((i = 0 → t = 0) ∧ (i = 1 → t = a.length) ∧ (i = 2 → t = a.length + b.length)) ∧ 2 - i = κ) ∧ σ = ⟨36, [(0, .one (.rw 1 0 2)), (3, .one (.int .i64 ((t : Nat) : Int))), (9, .one (.rw 1 0 2)), (10, .one (.int .i64 2)), (11, .one (.int .i64 ((i : Nat) : Int)))], [(1, .box 2 1 [(.rs (.pieces a)), (.rs (.pieces b))])]⟩) _ ⟨0, 0, ⟨(by omega), (by omega), rfl⟩, (by kernel_rfl)⟩ ?_
  rintro κ _ ⟨i, t, ⟨hi, ht, rfl⟩, rfl⟩
  rcases hi with rfl | rfl | rfl
  · -- i = 0
    refine awp_run_seq [0, 3, 9, 10, 11, 12] [] [] ⟨36, [(0, .one (.rw 1 0 2)), (3, .one (.int .i64 ((t : Nat) : Int))), (9, .one (.rw 1 0 2)), (10, .one (.int .i64 2)), (11, .one (.int .i64 0)), (12, .one (.bool true))], [(1, .box 2 1 [(.rs (.pieces a)), (.rs (.pieces b))])]⟩ hT (by kernel_rfl) trivial ?_
    refine awp_seq ?_
    refine awp_cond (b := true) (by kernel_rfl) (fun _ => ?_) (fun h => by cases h)
    refine awp_skip ?_
    refine awp_seq ?_
    refine awp_block ?_
    refine awp_run_seq [0, 3, 5, 9, 10, 11] [] [((0 : Int) ≤ (0 : Int)), ((0 : Int) < 2), (0 < 2)] ⟨36, [(0, .one (.rw 1 0 2)), (3, .one (.int .i64 ((t : Nat) : Int))), (5, .one (.rs (.pieces a))), (9, .one (.rw 1 0 2)), (10, .one (.int .i64 2)), (11, .one (.int .i64 0))], [(1, .box 2 1 [(.rs (.pieces a)), (.rs (.pieces b))])]⟩ hT (by kernel_rfl) ⟨(by first | omega | (simp only [lens]; omega) | (simp only [Bool.cond_decide]; omega) | (simp only [nadd_eq]; omega)), (by first | omega | (simp only [lens]; omega) | (simp only [Bool.cond_decide]; omega) | (simp only [nadd_eq]; omega)), (by decide), trivial⟩ ?_
    refine awp_run_seq [0, 3, 9, 10, 11] [] [(-9223372036854775808 ≤ (((t + a.length) : Nat) : Int) ∧ (((t + a.length) : Nat) : Int) ≤ 9223372036854775807)] ⟨36, [(0, .one (.rw 1 0 2)), (3, .one (.int .i64 (((t + a.length) : Nat) : Int))), (9, .one (.rw 1 0 2)), (10, .one (.int .i64 2)), (11, .one (.int .i64 0))], [(1, .box 2 1 [(.rs (.pieces a)), (.rs (.pieces b))])]⟩ hT (by kernel_rfl) ⟨(by first | omega | (simp only [lens]; omega) | (simp only [Bool.cond_decide]; omega) | (simp only [nadd_eq]; omega)), trivial⟩ ?_
    refine awp_run_seq [0, 3, 9, 10, 11, 20] [] [] ⟨36, [(0, .one (.rw 1 0 2)), (3, .one (.int .i64 (((t + a.length) : Nat) : Int))), (9, .one (.rw 1 0 2)), (10, .one (.int .i64 2)), (11, .one (.int .i64 0)), (20, .one (.bool (decide ((((t + a.length) : Nat) : Int) < 0))))], [(1, .box 2 1 [(.rs (.pieces a)), (.rs (.pieces b))])]⟩ hT (by kernel_rfl) trivial ?_
    refine awp_cond (b := (decide ((((t + a.length) : Nat) : Int) < 0))) (by kernel_rfl) (fun c6 => ?_) (fun c6 => ?_)
    · -- yes 6
      try simp only [bs] at c6
      exfalso; omega
    · -- no 6
      try simp only [bs] at c6
      refine awp_skip ?_
      refine awp_run [0, 3, 9, 10, 11] [] [(-9223372036854775808 ≤ (1 : Int) ∧ (1 : Int) ≤ 9223372036854775807)] ⟨36, [(0, .one (.rw 1 0 2)), (3, .one (.int .i64 (((t + a.length) : Nat) : Int))), (9, .one (.rw 1 0 2)), (10, .one (.int .i64 2)), (11, .one (.int .i64 1))], [(1, .box 2 1 [(.rs (.pieces a)), (.rs (.pieces b))])]⟩ hT (by kernel_rfl) ⟨(by first | omega | (simp only [lens]; omega) | (simp only [Bool.cond_decide]; omega) | (simp only [nadd_eq]; omega)), trivial⟩ ?_
      refine loop_end _ ?_ ⟨1, (t + a.length), ⟨(by omega), (by omega), rfl⟩, (by kernel_rfl)⟩
      omega
  · -- i = 1
    refine awp_run_seq [0, 3, 9, 10, 11, 12] [] [] ⟨36, [(0, .one (.rw 1 0 2)), (3, .one (.int .i64 ((t : Nat) : Int))), (9, .one (.rw 1 0 2)), (10, .one (.int .i64 2)), (11, .one (.int .i64 1)), (12, .one (.bool true))], [(1, .box 2 1 [(.rs (.pieces a)), (.rs (.pieces b))])]⟩ hT (by kernel_rfl) trivial ?_
    refine awp_seq ?_
    refine awp_cond (b := true) (by kernel_rfl) (fun _ => ?_) (fun h => by cases h)
    refine awp_skip ?_
    refine awp_seq ?_
    refine awp_block ?_
    refine awp_run_seq [0, 3, 5, 9, 10, 11] [] [((0 : Int) ≤ (1 : Int)), ((1 : Int) < 2), (1 < 2)] ⟨36, [(0, .one (.rw 1 0 2)), (3, .one (.int .i64 ((t : Nat) : Int))), (5, .one (.rs (.pieces b))), (9, .one (.rw 1 0 2)), (10, .one (.int .i64 2)), (11, .one (.int .i64 1))], [(1, .box 2 1 [(.rs (.pieces a)), (.rs (.pieces b))])]⟩ hT (by kernel_rfl) ⟨(by first | omega | (simp only [lens]; omega) | (simp only [Bool.cond_decide]; omega) | (simp only [nadd_eq]; omega)), (by first | omega | (simp only [lens]; omega) | (simp only [Bool.cond_decide]; omega) | (simp only [nadd_eq]; omega)), (by decide), trivial⟩ ?_
    refine awp_run_seq [0, 3, 9, 10, 11] [] [(-9223372036854775808 ≤ (((t + b.length) : Nat) : Int) ∧ (((t + b.length) : Nat) : Int) ≤ 9223372036854775807)] ⟨36, [(0, .one (.rw 1 0 2)), (3, .one (.int .i64 (((t + b.length) : Nat) : Int))), (9, .one (.rw 1 0 2)), (10, .one (.int .i64 2)), (11, .one (.int .i64 1))], [(1, .box 2 1 [(.rs (.pieces a)), (.rs (.pieces b))])]⟩ hT (by kernel_rfl) ⟨(by first | omega | (simp only [lens]; omega) | (simp only [Bool.cond_decide]; omega) | (simp only [nadd_eq]; omega)), trivial⟩ ?_
    refine awp_run_seq [0, 3, 9, 10, 11, 20] [] [] ⟨36, [(0, .one (.rw 1 0 2)), (3, .one (.int .i64 (((t + b.length) : Nat) : Int))), (9, .one (.rw 1 0 2)), (10, .one (.int .i64 2)), (11, .one (.int .i64 1)), (20, .one (.bool (decide ((((t + b.length) : Nat) : Int) < 0))))], [(1, .box 2 1 [(.rs (.pieces a)), (.rs (.pieces b))])]⟩ hT (by kernel_rfl) trivial ?_
    refine awp_cond (b := (decide ((((t + b.length) : Nat) : Int) < 0))) (by kernel_rfl) (fun c6 => ?_) (fun c6 => ?_)
    · -- yes 6
      try simp only [bs] at c6
      exfalso; omega
    · -- no 6
      try simp only [bs] at c6
      refine awp_skip ?_
      refine awp_run [0, 3, 9, 10, 11] [] [(-9223372036854775808 ≤ (2 : Int) ∧ (2 : Int) ≤ 9223372036854775807)] ⟨36, [(0, .one (.rw 1 0 2)), (3, .one (.int .i64 (((t + b.length) : Nat) : Int))), (9, .one (.rw 1 0 2)), (10, .one (.int .i64 2)), (11, .one (.int .i64 2))], [(1, .box 2 1 [(.rs (.pieces a)), (.rs (.pieces b))])]⟩ hT (by kernel_rfl) ⟨(by first | omega | (simp only [lens]; omega) | (simp only [Bool.cond_decide]; omega) | (simp only [nadd_eq]; omega)), trivial⟩ ?_
      refine loop_end _ ?_ ⟨2, (t + b.length), ⟨(by omega), (by omega), rfl⟩, (by kernel_rfl)⟩
      omega
  · -- i = 2
    refine awp_run_seq [0, 3, 9, 10, 11, 12] [] [] ⟨36, [(0, .one (.rw 1 0 2)), (3, .one (.int .i64 ((t : Nat) : Int))), (9, .one (.rw 1 0 2)), (10, .one (.int .i64 2)), (11, .one (.int .i64 2)), (12, .one (.bool false))], [(1, .box 2 1 [(.rs (.pieces a)), (.rs (.pieces b))])]⟩ hT (by kernel_rfl) trivial ?_
    refine awp_seq ?_
    refine awp_cond (b := false) (by kernel_rfl) (fun h => by cases h) (fun _ => ?_)
    refine awp_exit ?_
    refine awp_seq (awp_region ?_)
    refine aops_run 1 [0, 23] [] [] ⟨36, [(0, .one (.rw 1 0 2)), (23, .one (.int .i64 ((t : Nat) : Int)))], [(1, .box 2 1 [(.rs (.pieces a)), (.rs (.pieces b))])]⟩ hT (by kernel_rfl) (by kernel_rfl) trivial ?_
    refine aops_call [] [(9001, 124)] false ⟨true, [], 124, [.one .nils, .one (.int .i64 ((t : Nat) : Int))], []⟩ [.one .nils, .one (.int .i64 ((t : Nat) : Int))] (sm := ⟨36, [(0, .one (.rw 1 0 2)), (23, .one (.int .i64 ((t : Nat) : Int))), (24, .whn false (.one .any))], [(1, .box 2 1 [(.rs (.pieces a)), (.rs (.pieces b))])]⟩) (by kernel_rfl) (by kernel_rfl) (by decide) (fun _ => trivial) rfl (fun _ => grow_pieces t (by first | omega | (simp; omega))) (fun _ v Hr hv => ?_) (fun h => by cases h)
    obtain ⟨rfl, rfl⟩ := hv
    refine ⟨⟨36, [(0, .one (.rw 1 0 2)), (23, .one (.int .i64 ((t : Nat) : Int))), (24, .one (.rw 124 0 0))], [(1, .box 2 1 [(.rs (.pieces a)), (.rs (.pieces b))]), (124, .recs (.pieces []))]⟩, by kernel_rfl, ?_⟩
    refine aops_run 1 [0, 6] [124] [] ⟨36, [(0, .one (.rw 1 0 2)), (6, .one (.rw 124 0 0))], [(1, .box 2 1 [(.rs (.pieces a)), (.rs (.pieces b))]), (124, .recs (.pieces []))]⟩ hT (by kernel_rfl) (by kernel_rfl) trivial ?_
    refine aops_end_seq (by kernel_rfl) ?_
    refine awp_seq ?_
    refine awp_run_seq [6, 25, 26, 27] [124] [] ⟨36, [(6, .one (.rw 124 0 0)), (25, .one (.rw 1 0 2)), (26, .one (.int .i64 2)), (27, .one (.int .i64 0))], [(1, .box 2 1 [(.rs (.pieces a)), (.rs (.pieces b))]), (124, .recs (.pieces []))]⟩ hT (by kernel_rfl) trivial ?_
    refine awp_block ?_
    refine awp_loop (I := fun κ σ => ∃ (j : Nat) (r : List (Int × List Int)), ((j = 0 ∨ j = 1 ∨ j = 2) ∧ ((j = 0 → r = []) ∧ (j = 1 → r = a) ∧ (j = 2 → r = a ++ b)) ∧ 2 - j = κ) ∧ σ = ⟨36, [(6, .one (.rw 124 0 r.length)), (25, .one (.rw 1 0 2)), (26, .one (.int .i64 2)), (27, .one (.int .i64 ((j : Nat) : Int)))], [(1, .box 2 1 [(.rs (.pieces a)), (.rs (.pieces b))]), (124, .recs (.pieces r))]⟩) _ ⟨0, [], ⟨(by omega), (by simp), rfl⟩, (by kernel_rfl)⟩ ?_
    rintro κ _ ⟨j, r, ⟨hj, hr, rfl⟩, rfl⟩
    rcases hj with rfl | rfl | rfl
    · -- j = 0
      simp at hr
      have hrl := congrArg List.length hr
      try simp only [List.length_nil, List.length_append] at hrl
      refine awp_run_seq [6, 25, 26, 27, 28] [124] [] ⟨36, [(6, .one (.rw 124 0 r.length)), (25, .one (.rw 1 0 2)), (26, .one (.int .i64 2)), (27, .one (.int .i64 0)), (28, .one (.bool true))], [(1, .box 2 1 [(.rs (.pieces a)), (.rs (.pieces b))]), (124, .recs (.pieces r))]⟩ hT (by kernel_rfl) trivial ?_
      refine awp_seq ?_
      refine awp_cond (b := true) (by kernel_rfl) (fun _ => ?_) (fun h => by cases h)
      refine awp_skip ?_
      refine awp_seq ?_
      refine awp_block ?_
      refine awp_run_seq [6, 8, 25, 26, 27] [124] [((0 : Int) ≤ (0 : Int)), ((0 : Int) < 2), (0 < 2)] ⟨36, [(6, .one (.rw 124 0 r.length)), (8, .one (.rs (.pieces a))), (25, .one (.rw 1 0 2)), (26, .one (.int .i64 2)), (27, .one (.int .i64 0))], [(1, .box 2 1 [(.rs (.pieces a)), (.rs (.pieces b))]), (124, .recs (.pieces r))]⟩ hT (by kernel_rfl) ⟨(by first | omega | (simp only [lens]; omega) | (simp only [Bool.cond_decide]; omega) | (simp only [nadd_eq]; omega)), (by first | omega | (simp only [lens]; omega) | (simp only [Bool.cond_decide]; omega) | (simp only [nadd_eq]; omega)), (by decide), trivial⟩ ?_
      refine awp_run [6, 25, 26, 27] [124] [(r.length = r.length), ((r.length + a.length) * 32 ≤ 140737488355328), ((r.length + a.length) ≤ 9223372036854775807)] ⟨36, [(6, .one (.rw 124 0 (r.length + a.length))), (25, .one (.rw 1 0 2)), (26, .one (.int .i64 2)), (27, .one (.int .i64 0))], [(1, .box 2 1 [(.rs (.pieces a)), (.rs (.pieces b))]), (124, .recs (.pieces (r ++ a)))]⟩ hT (by kernel_rfl) ⟨(by first | omega | (simp only [lens]; omega) | (simp only [Bool.cond_decide]; omega) | (simp only [nadd_eq]; omega)), (by first | omega | (simp only [lens]; omega) | (simp only [Bool.cond_decide]; omega) | (simp only [nadd_eq]; omega)), (by first | omega | (simp only [lens]; omega) | (simp only [Bool.cond_decide]; omega) | (simp only [nadd_eq]; omega)), trivial⟩ ?_
      refine awp_run [6, 25, 26, 27] [124] [(-9223372036854775808 ≤ (1 : Int) ∧ (1 : Int) ≤ 9223372036854775807)] ⟨36, [(6, .one (.rw 124 0 (r.length + a.length))), (25, .one (.rw 1 0 2)), (26, .one (.int .i64 2)), (27, .one (.int .i64 1))], [(1, .box 2 1 [(.rs (.pieces a)), (.rs (.pieces b))]), (124, .recs (.pieces (r ++ a)))]⟩ hT (by kernel_rfl) ⟨(by first | omega | (simp only [lens]; omega) | (simp only [Bool.cond_decide]; omega) | (simp only [nadd_eq]; omega)), trivial⟩ ?_
      refine loop_end _ ?_ ⟨1, (r ++ a), ⟨(by omega), (by simp [hr]), rfl⟩, (by simp only [lens]; rfl)⟩
      omega
    · -- j = 1
      simp at hr
      have hrl := congrArg List.length hr
      try simp only [List.length_nil, List.length_append] at hrl
      refine awp_run_seq [6, 25, 26, 27, 28] [124] [] ⟨36, [(6, .one (.rw 124 0 r.length)), (25, .one (.rw 1 0 2)), (26, .one (.int .i64 2)), (27, .one (.int .i64 1)), (28, .one (.bool true))], [(1, .box 2 1 [(.rs (.pieces a)), (.rs (.pieces b))]), (124, .recs (.pieces r))]⟩ hT (by kernel_rfl) trivial ?_
      refine awp_seq ?_
      refine awp_cond (b := true) (by kernel_rfl) (fun _ => ?_) (fun h => by cases h)
      refine awp_skip ?_
      refine awp_seq ?_
      refine awp_block ?_
      refine awp_run_seq [6, 8, 25, 26, 27] [124] [((0 : Int) ≤ (1 : Int)), ((1 : Int) < 2), (1 < 2)] ⟨36, [(6, .one (.rw 124 0 r.length)), (8, .one (.rs (.pieces b))), (25, .one (.rw 1 0 2)), (26, .one (.int .i64 2)), (27, .one (.int .i64 1))], [(1, .box 2 1 [(.rs (.pieces a)), (.rs (.pieces b))]), (124, .recs (.pieces r))]⟩ hT (by kernel_rfl) ⟨(by first | omega | (simp only [lens]; omega) | (simp only [Bool.cond_decide]; omega) | (simp only [nadd_eq]; omega)), (by first | omega | (simp only [lens]; omega) | (simp only [Bool.cond_decide]; omega) | (simp only [nadd_eq]; omega)), (by decide), trivial⟩ ?_
      refine awp_run [6, 25, 26, 27] [124] [(r.length = r.length), ((r.length + b.length) * 32 ≤ 140737488355328), ((r.length + b.length) ≤ 9223372036854775807)] ⟨36, [(6, .one (.rw 124 0 (r.length + b.length))), (25, .one (.rw 1 0 2)), (26, .one (.int .i64 2)), (27, .one (.int .i64 1))], [(1, .box 2 1 [(.rs (.pieces a)), (.rs (.pieces b))]), (124, .recs (.pieces (r ++ b)))]⟩ hT (by kernel_rfl) ⟨(by first | omega | (simp only [lens]; omega) | (simp only [Bool.cond_decide]; omega) | (simp only [nadd_eq]; omega)), (by first | omega | (simp only [lens]; omega) | (simp only [Bool.cond_decide]; omega) | (simp only [nadd_eq]; omega)), (by first | omega | (simp only [lens]; omega) | (simp only [Bool.cond_decide]; omega) | (simp only [nadd_eq]; omega)), trivial⟩ ?_
      refine awp_run [6, 25, 26, 27] [124] [(-9223372036854775808 ≤ (2 : Int) ∧ (2 : Int) ≤ 9223372036854775807)] ⟨36, [(6, .one (.rw 124 0 (r.length + b.length))), (25, .one (.rw 1 0 2)), (26, .one (.int .i64 2)), (27, .one (.int .i64 2))], [(1, .box 2 1 [(.rs (.pieces a)), (.rs (.pieces b))]), (124, .recs (.pieces (r ++ b)))]⟩ hT (by kernel_rfl) ⟨(by first | omega | (simp only [lens]; omega) | (simp only [Bool.cond_decide]; omega) | (simp only [nadd_eq]; omega)), trivial⟩ ?_
      refine loop_end _ ?_ ⟨2, (r ++ b), ⟨(by omega), (by simp [hr]), rfl⟩, (by simp only [lens]; rfl)⟩
      omega
    · -- j = 2
      simp at hr
      have hrl := congrArg List.length hr
      try simp only [List.length_nil, List.length_append] at hrl
      refine awp_run_seq [6, 25, 26, 27, 28] [124] [] ⟨36, [(6, .one (.rw 124 0 r.length)), (25, .one (.rw 1 0 2)), (26, .one (.int .i64 2)), (27, .one (.int .i64 2)), (28, .one (.bool false))], [(1, .box 2 1 [(.rs (.pieces a)), (.rs (.pieces b))]), (124, .recs (.pieces r))]⟩ hT (by kernel_rfl) trivial ?_
      refine awp_seq ?_
      refine awp_cond (b := false) (by kernel_rfl) (fun h => by cases h) (fun _ => ?_)
      refine awp_exit ?_
      refine awp_run_seq [2] [124] [] ⟨36, [(2, .one (.rw 124 0 r.length))], [(1, .box 2 1 [(.rs (.pieces a)), (.rs (.pieces b))]), (124, .recs (.pieces r))]⟩ hT (by kernel_rfl) trivial ?_
      refine awp_weak (awk_ren 124 9001 (s' := ⟨36, [(2, .one (.rw 9001 0 r.length))], [(1, .box 2 1 [(.rs (.pieces a)), (.rs (.pieces b))]), (9001, .recs (.pieces r))]⟩) (by kernel_rfl)) ?_
      refine awp_ret ?_
      refine kRet.ret _ [9001] [] (.one (.rw 9001 0 r.length)) [(1, .box 2 1 [(.rs (.pieces a)), (.rs (.pieces b))]), (9001, .recs (.pieces r))] (by kernel_rfl) trivial ?_
      exact ⟨(by rw [hr]), (by rw [hr])⟩

end Go.Ab
