/- Of slices: Concat of two lists of pieces. -/
import Derived.Test.YtnfnlgfdfmnghaaTab
import Derived.Test.YtnfnlgfdfmnghaaPlSplit
set_option maxRecDepth 100000
namespace Go.Ab
open Go Go.Proofs
theorem grow_pieces (m : Nat) (hm : m * 32 ≤ 140737488355328) : ACall Try.prog 70 [.one .nils, .i (m : Int)] [] (fun ov oh => ov = .w 9001 0 ∧ oh = [(9001, .recs (.pieces []))]) := by
  refine acall_intro hT Try.func70 rfl (by kernel_rfl) rfl (by kernel_rfl) ?_
  refine awp_run_seq [0, 1] [] [] ⟨27, [(0, .one .nils), (1, .i (m : Int))], []⟩ hT (by kernel_rfl) trivial ?_
  refine awp_seq ?_
  refine awp_run_seq [0, 1, 6] [] [] ⟨27, [(0, .one .nils), (1, .i (m : Int)), (6, .one (.bool (decide ((m : Int) < 0))))], []⟩ hT (by kernel_rfl) trivial ?_
  refine awp_cond (b := (decide ((m : Int) < 0))) (by kernel_rfl) (fun c1 => ?_) (fun c1 => ?_)
  ·
    try simp only [bs] at c1
    exfalso; omega
  ·
    try simp only [bs] at c1
    refine awp_skip ?_
    refine awp_seq ?_
    refine awp_run_seq [0, 1] [] [(-9223372036854775808 ≤ (0 : Int) ∧ (0 : Int) ≤ 9223372036854775807), (-9223372036854775808 ≤ ((m : Int) - 0) ∧ ((m : Int) - 0) ≤ 9223372036854775807)] ⟨27, [(0, .one .nils), (1, .i ((m : Int) - 0))], []⟩ hT (by kernel_rfl) ⟨(by omega), (by omega), trivial⟩ ?_
    refine awp_run_seq [0, 1, 16] [] [] ⟨27, [(0, .one .nils), (1, .i ((m : Int) - 0)), (16, .one (.bool (decide ((0 : Int) < ((m : Int) - 0)))))], []⟩ hT (by kernel_rfl) trivial ?_
    refine awp_cond (b := (decide ((0 : Int) < ((m : Int) - 0)))) (by kernel_rfl) (fun c4 => ?_) (fun c4 => ?_)
    ·
      try simp only [bs] at c4
      rw [show ((m : Int) - 0) = (m : Int) from by omega]
      refine awp_region ?_
      refine aops_run 5 [0, 20, 21] [] [((0 : Int) ≤ 0), ((0 : Int) ≤ 0), ((0 : Int) ≤ 0)] ⟨27, [(0, .one .nils), (20, .one .nils), (21, .i (m : Int))], []⟩ hT (by kernel_rfl) (by kernel_rfl) ⟨(by omega), (by omega), (by omega), trivial⟩ ?_
      refine aops_growz (m := m) (ob := .recs (.pieces (List.replicate m ((0, []) : Int × List Int)))) hT rfl rfl rfl rfl (by kernel_rfl) (show T 74 = some _ from rfl) rfl (show T 80 = some _ from rfl) (show T 3 = some _ from rfl) rfl (by kernel_rfl) (by kernel_rfl) (by omega) (by omega) (by omega) (by kernel_rfl) (by kernel_rfl) (by kernel_rfl) (by kernel_rfl) ?_
      refine aops_cut [0, 20, 21, 22] [122] ⟨27, [(0, .one .nils), (20, .one .nils), (21, .i (m : Int)), (22, .w 122 m)], [(122, .recs (.pieces (List.replicate m ((0, []) : Int × List Int))))]⟩ (by kernel_rfl) ?_
      refine aops_run 4 [0] [122] [((0 : Int) ≤ 0), ((0 : Int) ≤ 0), ((0 : Int) ≤ (m : Int))] ⟨27, [(0, .w 122 0)], [(122, .recs (.pieces (List.replicate m ((0, []) : Int × List Int))))]⟩ hT (by kernel_rfl) (by kernel_rfl) ⟨(by omega), (by omega), (by omega), trivial⟩ ?_
      refine aops_end (by kernel_rfl) ?_
      refine awp_run_seq [4] [122] [] ⟨27, [(4, .w 122 0)], [(122, .recs (.pieces (List.replicate m ((0, []) : Int × List Int))))]⟩ hT (by kernel_rfl) trivial ?_
      refine awp_weak (awk_reset 122 4 (.recs (.pieces (List.replicate m ((0, []) : Int × List Int)))) (.recs (.pieces [])) _ (by kernel_rfl) (by kernel_rfl) (by decide) rfl rfl) ?_
      refine awp_weak (awk_ren 122 9001 (s' := ⟨27, [(4, .w 9001 0)], [(9001, .recs (.pieces []))]⟩) (by kernel_rfl)) ?_
      refine awp_ret ?_
      refine kRet.ret _ [9001] [] (.w 9001 0) [(9001, .recs (.pieces []))] (by kernel_rfl) trivial ?_
      exact ⟨(by kernel_rfl), (by kernel_rfl)⟩
    ·
      try simp only [bs] at c4
      refine awp_skip ?_
      refine awp_run_seq [4] [] [] ⟨27, [(4, .one .nils)], []⟩ hT (by kernel_rfl) trivial ?_
      refine awp_weak (awk_empty 5004 (.recs (.pieces [])) rfl (by decide) _) ?_
      refine awp_weak (awk_slot 4 (.one .nils) (.w 5004 0) _ (by kernel_rfl) (.one (wkv_nils (o := .recs (.pieces [])) (by kernel_rfl)))) ?_
      refine awp_weak (awk_ren 5004 9001 (s' := ⟨27, [(4, .w 9001 0)], [(9001, .recs (.pieces []))]⟩) (by kernel_rfl)) ?_
      refine awp_ret ?_
      refine kRet.ret _ [9001] [] (.w 9001 0) [(9001, .recs (.pieces []))] (by kernel_rfl) trivial ?_
      exact ⟨(by kernel_rfl), (by kernel_rfl)⟩
theorem concat_pieces (a b : List (Int × List Int)) (hl : (a.length + b.length) * 32 ≤ 140737488355328) : ACall Try.prog 36 [.w 1 2] [(1, .box 2 1 [(.rs (.pieces a)), (.rs (.pieces b))])] (fun ov oh => ov = .w 9001 ((a ++ b).length) ∧ oh = [(1, .box 2 1 [(.rs (.pieces a)), (.rs (.pieces b))]), (9001, .recs (.pieces (a ++ b)))]) := by
  refine acall_intro hT Try.func36 rfl (by kernel_rfl) rfl (by kernel_rfl) ?_
  have hab : (a ++ b).length = a.length + b.length := List.length_append
  refine awp_run_seq [0] [] [] ⟨36, [(0, .w 1 2)], [(1, .box 2 1 [(.rs (.pieces a)), (.rs (.pieces b))])]⟩ hT (by kernel_rfl) trivial ?_
  refine awp_run_seq [0, 3] [] [] ⟨36, [(0, .w 1 2), (3, .i 0)], [(1, .box 2 1 [(.rs (.pieces a)), (.rs (.pieces b))])]⟩ hT (by kernel_rfl) trivial ?_
  refine awp_seq ?_
  refine awp_run_seq [0, 3, 9, 10, 11] [] [] ⟨36, [(0, .w 1 2), (3, .i 0), (9, .w 1 2), (10, .i 2), (11, .i 0)], [(1, .box 2 1 [(.rs (.pieces a)), (.rs (.pieces b))])]⟩ hT (by kernel_rfl) trivial ?_
  refine awp_block ?_
  refine awp_loop (I := fun κ σ => ∃ (i t : Nat), ((i = 0 ∨ i = 1 ∨ i = 2) ∧ ((i = 0 → t = 0) ∧ (i = 1 → t = a.length) ∧ (i = 2 → t = a.length + b.length)) ∧ 2 - i = κ) ∧ σ = ⟨36, [(0, .w 1 2), (3, .i (t : Int)), (9, .w 1 2), (10, .i 2), (11, .i (i : Int))], [(1, .box 2 1 [(.rs (.pieces a)), (.rs (.pieces b))])]⟩) _ ⟨0, 0, ⟨(by omega), (by omega), rfl⟩, (by kernel_rfl)⟩ ?_
  rintro κ _ ⟨i, t, ⟨hi, ht, rfl⟩, rfl⟩
  rcases hi with rfl | rfl | rfl
  ·
    refine awp_run_seq [0, 3, 9, 10, 11, 12] [] [] ⟨36, [(0, .w 1 2), (3, .i (t : Int)), (9, .w 1 2), (10, .i 2), (11, .i 0), (12, .one (.bool true))], [(1, .box 2 1 [(.rs (.pieces a)), (.rs (.pieces b))])]⟩ hT (by kernel_rfl) trivial ?_
    refine awp_seq ?_
    refine awp_cond (b := true) (by kernel_rfl) (fun _ => ?_) (fun h => by cases h)
    refine awp_skip ?_
    refine awp_seq ?_
    refine awp_block ?_
    refine awp_run_seq [0, 3, 5, 9, 10, 11] [] [((0 : Int) ≤ (0 : Int)), ((0 : Int) < 2), (0 < 2)] ⟨36, [(0, .w 1 2), (3, .i (t : Int)), (5, .one (.rs (.pieces a))), (9, .w 1 2), (10, .i 2), (11, .i 0)], [(1, .box 2 1 [(.rs (.pieces a)), (.rs (.pieces b))])]⟩ hT (by kernel_rfl) ⟨(by omega), (by omega), (by decide), trivial⟩ ?_
    refine awp_run_seq [0, 3, 9, 10, 11] [] [(-9223372036854775808 ≤ (((t + a.length) : Nat) : Int) ∧ (((t + a.length) : Nat) : Int) ≤ 9223372036854775807)] ⟨36, [(0, .w 1 2), (3, .i (((t + a.length) : Nat) : Int)), (9, .w 1 2), (10, .i 2), (11, .i 0)], [(1, .box 2 1 [(.rs (.pieces a)), (.rs (.pieces b))])]⟩ hT (by kernel_rfl) ⟨(by omega), trivial⟩ ?_
    refine awp_run_seq [0, 3, 9, 10, 11, 20] [] [] ⟨36, [(0, .w 1 2), (3, .i (((t + a.length) : Nat) : Int)), (9, .w 1 2), (10, .i 2), (11, .i 0), (20, .one (.bool (decide ((((t + a.length) : Nat) : Int) < 0))))], [(1, .box 2 1 [(.rs (.pieces a)), (.rs (.pieces b))])]⟩ hT (by kernel_rfl) trivial ?_
    refine awp_cond (b := (decide ((((t + a.length) : Nat) : Int) < 0))) (by kernel_rfl) (fun c6 => ?_) (fun c6 => ?_)
    ·
      try simp only [bs] at c6
      exfalso; omega
    ·
      try simp only [bs] at c6
      refine awp_skip ?_
      refine awp_run [0, 3, 9, 10, 11] [] [(-9223372036854775808 ≤ (1 : Int) ∧ (1 : Int) ≤ 9223372036854775807)] ⟨36, [(0, .w 1 2), (3, .i (((t + a.length) : Nat) : Int)), (9, .w 1 2), (10, .i 2), (11, .i 1)], [(1, .box 2 1 [(.rs (.pieces a)), (.rs (.pieces b))])]⟩ hT (by kernel_rfl) ⟨(by omega), trivial⟩ ?_
      refine loop_end _ ?_ ⟨1, (t + a.length), ⟨(by omega), (by omega), rfl⟩, (by kernel_rfl)⟩
      omega
  ·
    refine awp_run_seq [0, 3, 9, 10, 11, 12] [] [] ⟨36, [(0, .w 1 2), (3, .i (t : Int)), (9, .w 1 2), (10, .i 2), (11, .i 1), (12, .one (.bool true))], [(1, .box 2 1 [(.rs (.pieces a)), (.rs (.pieces b))])]⟩ hT (by kernel_rfl) trivial ?_
    refine awp_seq ?_
    refine awp_cond (b := true) (by kernel_rfl) (fun _ => ?_) (fun h => by cases h)
    refine awp_skip ?_
    refine awp_seq ?_
    refine awp_block ?_
    refine awp_run_seq [0, 3, 5, 9, 10, 11] [] [((0 : Int) ≤ (1 : Int)), ((1 : Int) < 2), (1 < 2)] ⟨36, [(0, .w 1 2), (3, .i (t : Int)), (5, .one (.rs (.pieces b))), (9, .w 1 2), (10, .i 2), (11, .i 1)], [(1, .box 2 1 [(.rs (.pieces a)), (.rs (.pieces b))])]⟩ hT (by kernel_rfl) ⟨(by omega), (by omega), (by decide), trivial⟩ ?_
    refine awp_run_seq [0, 3, 9, 10, 11] [] [(-9223372036854775808 ≤ (((t + b.length) : Nat) : Int) ∧ (((t + b.length) : Nat) : Int) ≤ 9223372036854775807)] ⟨36, [(0, .w 1 2), (3, .i (((t + b.length) : Nat) : Int)), (9, .w 1 2), (10, .i 2), (11, .i 1)], [(1, .box 2 1 [(.rs (.pieces a)), (.rs (.pieces b))])]⟩ hT (by kernel_rfl) ⟨(by omega), trivial⟩ ?_
    refine awp_run_seq [0, 3, 9, 10, 11, 20] [] [] ⟨36, [(0, .w 1 2), (3, .i (((t + b.length) : Nat) : Int)), (9, .w 1 2), (10, .i 2), (11, .i 1), (20, .one (.bool (decide ((((t + b.length) : Nat) : Int) < 0))))], [(1, .box 2 1 [(.rs (.pieces a)), (.rs (.pieces b))])]⟩ hT (by kernel_rfl) trivial ?_
    refine awp_cond (b := (decide ((((t + b.length) : Nat) : Int) < 0))) (by kernel_rfl) (fun c6 => ?_) (fun c6 => ?_)
    ·
      try simp only [bs] at c6
      exfalso; omega
    ·
      try simp only [bs] at c6
      refine awp_skip ?_
      refine awp_run [0, 3, 9, 10, 11] [] [(-9223372036854775808 ≤ (2 : Int) ∧ (2 : Int) ≤ 9223372036854775807)] ⟨36, [(0, .w 1 2), (3, .i (((t + b.length) : Nat) : Int)), (9, .w 1 2), (10, .i 2), (11, .i 2)], [(1, .box 2 1 [(.rs (.pieces a)), (.rs (.pieces b))])]⟩ hT (by kernel_rfl) ⟨(by omega), trivial⟩ ?_
      refine loop_end _ ?_ ⟨2, (t + b.length), ⟨(by omega), (by omega), rfl⟩, (by kernel_rfl)⟩
      omega
  ·
    refine awp_run_seq [0, 3, 9, 10, 11, 12] [] [] ⟨36, [(0, .w 1 2), (3, .i (t : Int)), (9, .w 1 2), (10, .i 2), (11, .i 2), (12, .one (.bool false))], [(1, .box 2 1 [(.rs (.pieces a)), (.rs (.pieces b))])]⟩ hT (by kernel_rfl) trivial ?_
    refine awp_seq ?_
    refine awp_cond (b := false) (by kernel_rfl) (fun h => by cases h) (fun _ => ?_)
    refine awp_exit ?_
    refine awp_seq (awp_region ?_)
    refine aops_run 1 [0, 23] [] [] ⟨36, [(0, .w 1 2), (23, .i (t : Int))], [(1, .box 2 1 [(.rs (.pieces a)), (.rs (.pieces b))])]⟩ hT (by kernel_rfl) (by kernel_rfl) trivial ?_
    refine aops_call [] [(9001, 124)] false ⟨true, [], 70, [.one .nils, .i (t : Int)], []⟩ [.one .nils, .i (t : Int)] (sm := ⟨36, [(0, .w 1 2), (23, .i (t : Int)), (24, .whn false (.one .any))], [(1, .box 2 1 [(.rs (.pieces a)), (.rs (.pieces b))])]⟩) (by kernel_rfl) (by kernel_rfl) (by decide) (fun _ => trivial) rfl (fun _ => grow_pieces t (by first | omega | (simp; omega))) (fun _ v Hr hv => ?_) (fun h => by cases h)
    obtain ⟨rfl, rfl⟩ := hv
    refine ⟨⟨36, [(0, .w 1 2), (23, .i (t : Int)), (24, .w 124 0)], [(1, .box 2 1 [(.rs (.pieces a)), (.rs (.pieces b))]), (124, .recs (.pieces []))]⟩, by kernel_rfl, ?_⟩
    refine aops_run 1 [0, 6] [124] [] ⟨36, [(0, .w 1 2), (6, .w 124 0)], [(1, .box 2 1 [(.rs (.pieces a)), (.rs (.pieces b))]), (124, .recs (.pieces []))]⟩ hT (by kernel_rfl) (by kernel_rfl) trivial ?_
    refine aops_end_seq (by kernel_rfl) ?_
    refine awp_seq ?_
    refine awp_run_seq [6, 25, 26, 27] [124] [] ⟨36, [(6, .w 124 0), (25, .w 1 2), (26, .i 2), (27, .i 0)], [(1, .box 2 1 [(.rs (.pieces a)), (.rs (.pieces b))]), (124, .recs (.pieces []))]⟩ hT (by kernel_rfl) trivial ?_
    refine awp_block ?_
    refine awp_loop (I := fun κ σ => ∃ (j : Nat) (r : List (Int × List Int)), ((j = 0 ∨ j = 1 ∨ j = 2) ∧ ((j = 0 → r = []) ∧ (j = 1 → r = a) ∧ (j = 2 → r = a ++ b)) ∧ 2 - j = κ) ∧ σ = ⟨36, [(6, .w 124 r.length), (25, .w 1 2), (26, .i 2), (27, .i (j : Int))], [(1, .box 2 1 [(.rs (.pieces a)), (.rs (.pieces b))]), (124, .recs (.pieces r))]⟩) _ ⟨0, [], ⟨(by omega), (by simp), rfl⟩, (by kernel_rfl)⟩ ?_
    rintro κ _ ⟨j, r, ⟨hj, hr, rfl⟩, rfl⟩
    rcases hj with rfl | rfl | rfl
    ·
      simp at hr
      have hrl := congrArg List.length hr
      try simp only [List.length_nil, List.length_append] at hrl
      refine awp_run_seq [6, 25, 26, 27, 28] [124] [] ⟨36, [(6, .w 124 r.length), (25, .w 1 2), (26, .i 2), (27, .i 0), (28, .one (.bool true))], [(1, .box 2 1 [(.rs (.pieces a)), (.rs (.pieces b))]), (124, .recs (.pieces r))]⟩ hT (by kernel_rfl) trivial ?_
      refine awp_seq ?_
      refine awp_cond (b := true) (by kernel_rfl) (fun _ => ?_) (fun h => by cases h)
      refine awp_skip ?_
      refine awp_seq ?_
      refine awp_block ?_
      refine awp_run_seq [6, 8, 25, 26, 27] [124] [((0 : Int) ≤ (0 : Int)), ((0 : Int) < 2), (0 < 2)] ⟨36, [(6, .w 124 r.length), (8, .one (.rs (.pieces a))), (25, .w 1 2), (26, .i 2), (27, .i 0)], [(1, .box 2 1 [(.rs (.pieces a)), (.rs (.pieces b))]), (124, .recs (.pieces r))]⟩ hT (by kernel_rfl) ⟨(by omega), (by omega), (by decide), trivial⟩ ?_
      refine awp_run [6, 25, 26, 27] [124] [(r.length = r.length), ((r.length + a.length) * 32 ≤ 140737488355328), ((r.length + a.length) ≤ 9223372036854775807)] ⟨36, [(6, .w 124 (r.length + a.length)), (25, .w 1 2), (26, .i 2), (27, .i 0)], [(1, .box 2 1 [(.rs (.pieces a)), (.rs (.pieces b))]), (124, .recs (.pieces (r ++ a)))]⟩ hT (by kernel_rfl) ⟨(by omega), (by omega), (by omega), trivial⟩ ?_
      refine awp_run [6, 25, 26, 27] [124] [(-9223372036854775808 ≤ (1 : Int) ∧ (1 : Int) ≤ 9223372036854775807)] ⟨36, [(6, .w 124 (r.length + a.length)), (25, .w 1 2), (26, .i 2), (27, .i 1)], [(1, .box 2 1 [(.rs (.pieces a)), (.rs (.pieces b))]), (124, .recs (.pieces (r ++ a)))]⟩ hT (by kernel_rfl) ⟨(by omega), trivial⟩ ?_
      refine loop_end _ ?_ ⟨1, (r ++ a), ⟨(by omega), (by simp [hr]), rfl⟩, (by simp only [lens]; rfl)⟩
      omega
    ·
      simp at hr
      have hrl := congrArg List.length hr
      try simp only [List.length_nil, List.length_append] at hrl
      refine awp_run_seq [6, 25, 26, 27, 28] [124] [] ⟨36, [(6, .w 124 r.length), (25, .w 1 2), (26, .i 2), (27, .i 1), (28, .one (.bool true))], [(1, .box 2 1 [(.rs (.pieces a)), (.rs (.pieces b))]), (124, .recs (.pieces r))]⟩ hT (by kernel_rfl) trivial ?_
      refine awp_seq ?_
      refine awp_cond (b := true) (by kernel_rfl) (fun _ => ?_) (fun h => by cases h)
      refine awp_skip ?_
      refine awp_seq ?_
      refine awp_block ?_
      refine awp_run_seq [6, 8, 25, 26, 27] [124] [((0 : Int) ≤ (1 : Int)), ((1 : Int) < 2), (1 < 2)] ⟨36, [(6, .w 124 r.length), (8, .one (.rs (.pieces b))), (25, .w 1 2), (26, .i 2), (27, .i 1)], [(1, .box 2 1 [(.rs (.pieces a)), (.rs (.pieces b))]), (124, .recs (.pieces r))]⟩ hT (by kernel_rfl) ⟨(by omega), (by omega), (by decide), trivial⟩ ?_
      refine awp_run [6, 25, 26, 27] [124] [(r.length = r.length), ((r.length + b.length) * 32 ≤ 140737488355328), ((r.length + b.length) ≤ 9223372036854775807)] ⟨36, [(6, .w 124 (r.length + b.length)), (25, .w 1 2), (26, .i 2), (27, .i 1)], [(1, .box 2 1 [(.rs (.pieces a)), (.rs (.pieces b))]), (124, .recs (.pieces (r ++ b)))]⟩ hT (by kernel_rfl) ⟨(by omega), (by omega), (by omega), trivial⟩ ?_
      refine awp_run [6, 25, 26, 27] [124] [(-9223372036854775808 ≤ (2 : Int) ∧ (2 : Int) ≤ 9223372036854775807)] ⟨36, [(6, .w 124 (r.length + b.length)), (25, .w 1 2), (26, .i 2), (27, .i 2)], [(1, .box 2 1 [(.rs (.pieces a)), (.rs (.pieces b))]), (124, .recs (.pieces (r ++ b)))]⟩ hT (by kernel_rfl) ⟨(by omega), trivial⟩ ?_
      refine loop_end _ ?_ ⟨2, (r ++ b), ⟨(by omega), (by simp [hr]), rfl⟩, (by simp only [lens]; rfl)⟩
      omega
    ·
      simp at hr
      have hrl := congrArg List.length hr
      try simp only [List.length_nil, List.length_append] at hrl
      refine awp_run_seq [6, 25, 26, 27, 28] [124] [] ⟨36, [(6, .w 124 r.length), (25, .w 1 2), (26, .i 2), (27, .i 2), (28, .one (.bool false))], [(1, .box 2 1 [(.rs (.pieces a)), (.rs (.pieces b))]), (124, .recs (.pieces r))]⟩ hT (by kernel_rfl) trivial ?_
      refine awp_seq ?_
      refine awp_cond (b := false) (by kernel_rfl) (fun h => by cases h) (fun _ => ?_)
      refine awp_exit ?_
      refine awp_run_seq [2] [124] [] ⟨36, [(2, .w 124 r.length)], [(1, .box 2 1 [(.rs (.pieces a)), (.rs (.pieces b))]), (124, .recs (.pieces r))]⟩ hT (by kernel_rfl) trivial ?_
      refine awp_weak (awk_ren 124 9001 (s' := ⟨36, [(2, .w 9001 r.length)], [(1, .box 2 1 [(.rs (.pieces a)), (.rs (.pieces b))]), (9001, .recs (.pieces r))]⟩) (by kernel_rfl)) ?_
      refine awp_ret ?_
      refine kRet.ret _ [9001] [] (.w 9001 r.length) [(1, .box 2 1 [(.rs (.pieces a)), (.rs (.pieces b))]), (9001, .recs (.pieces r))] (by kernel_rfl) trivial ?_
      exact ⟨(by rw [hr]), (by rw [hr])⟩
end Go.Ab
