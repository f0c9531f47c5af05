/- Of slices: Grow of a nil slice, Concat. -/
import Derived.Test.YtakfbagokponeaaTab
import Derived.Test.YtakfbagokponeaaF1
set_option maxRecDepth 100000
namespace Go.Ab
open Go Go.Proofs
theorem grow_ints (m : Nat) (hm : m * 8 ≤ 140737488355328) : ACall Try.prog 142 [.one .nils, .one (.int .i64 ((m : Nat) : Int))] [] (fun ov oh => ov = .one (.rw 9001 0 0) ∧ oh = [(9001, .flat (.ints .i64 []))]) := by
  refine acall_intro hT Try.func142 rfl (by kernel_rfl) rfl (by kernel_rfl) ?_
  refine awp_run_seq [0, 1] [] [] ⟨27, [(0, .one .nils), (1, .one (.int .i64 ((m : Nat) : Int)))], []⟩ hT (by kernel_rfl) trivial ?_
  refine awp_seq ?_
  refine awp_run_seq [0, 1, 6] [] [] ⟨27, [(0, .one .nils), (1, .one (.int .i64 ((m : Nat) : Int))), (6, .one (.bool (decide (((m : Nat) : Int) < 0))))], []⟩ hT (by kernel_rfl) trivial ?_
  refine awp_cond (b := (decide (((m : Nat) : Int) < 0))) (by kernel_rfl) (fun c1 => ?_) (fun c1 => ?_)
  · -- yes 1
    try simp only [bs] at c1
    exfalso; omega
  · -- no 1
    try simp only [bs] at c1
    refine awp_skip ?_
    refine awp_seq ?_
    refine awp_run_seq [0, 1] [] [(-9223372036854775808 ≤ (0 : Int) ∧ (0 : Int) ≤ 9223372036854775807), (-9223372036854775808 ≤ (((m : Nat) : Int) - 0) ∧ (((m : Nat) : Int) - 0) ≤ 9223372036854775807)] ⟨27, [(0, .one .nils), (1, .one (.int .i64 (((m : Nat) : Int) - 0)))], []⟩ hT (by kernel_rfl) ⟨(by first | omega | (simp only [lens]; omega) | (simp only [Bool.cond_decide]; omega) | (simp only [nadd_eq]; omega)), (by first | omega | (simp only [lens]; omega) | (simp only [Bool.cond_decide]; omega) | (simp only [nadd_eq]; omega)), trivial⟩ ?_
    refine awp_run_seq [0, 1, 16] [] [] ⟨27, [(0, .one .nils), (1, .one (.int .i64 (((m : Nat) : Int) - 0))), (16, .one (.bool (decide ((0 : Int) < (((m : Nat) : Int) - 0)))))], []⟩ hT (by kernel_rfl) trivial ?_
    refine awp_cond (b := (decide ((0 : Int) < (((m : Nat) : Int) - 0)))) (by kernel_rfl) (fun c4 => ?_) (fun c4 => ?_)
    · -- yes 4
      try simp only [bs] at c4
      rw [show (((m : Nat) : Int) - 0) = ((m : Nat) : Int) from by omega]
      refine awp_region ?_
      refine aops_run 5 [0, 20, 21] [] [((0 : Int) ≤ 0), ((0 : Int) ≤ 0), ((0 : Int) ≤ 0)] ⟨27, [(0, .one .nils), (20, .one .nils), (21, .one (.int .i64 ((m : Nat) : Int)))], []⟩ hT (by kernel_rfl) (by kernel_rfl) ⟨(by first | omega | (simp only [lens]; omega) | (simp only [Bool.cond_decide]; omega) | (simp only [nadd_eq]; omega)), (by first | omega | (simp only [lens]; omega) | (simp only [Bool.cond_decide]; omega) | (simp only [nadd_eq]; omega)), (by first | omega | (simp only [lens]; omega) | (simp only [Bool.cond_decide]; omega) | (simp only [nadd_eq]; omega)), trivial⟩ ?_
      refine aops_growz (m := m) (ob := .flat (.ints .i64 (List.replicate m (0 : Int)))) hT rfl rfl rfl rfl (by kernel_rfl) (show T 25 = some _ from rfl) rfl (show T 3 = some _ from rfl) (show T 3 = some _ from rfl) rfl (by kernel_rfl) (by kernel_rfl) (by first | omega | (simp only [lens]; omega) | (simp only [Bool.cond_decide]; omega) | (simp only [nadd_eq]; omega)) (by first | omega | (simp only [lens]; omega) | (simp only [Bool.cond_decide]; omega) | (simp only [nadd_eq]; omega)) (by first | omega | (simp only [lens]; omega) | (simp only [Bool.cond_decide]; omega) | (simp only [nadd_eq]; omega)) (by kernel_rfl) (by kernel_rfl) (by kernel_rfl) (by kernel_rfl) ?_
      refine aops_cut [0, 20, 21, 22] [122] ⟨27, [(0, .one .nils), (20, .one .nils), (21, .one (.int .i64 ((m : Nat) : Int))), (22, .one (.rw 122 0 m))], [(122, .flat (.ints .i64 (List.replicate m (0 : Int))))]⟩ (by kernel_rfl) ?_
      refine aops_run 4 [0] [122] [((0 : Int) ≤ 0), ((0 : Int) ≤ 0), ((0 : Int) ≤ ((m : Nat) : Int))] ⟨27, [(0, .one (.rw 122 0 0))], [(122, .flat (.ints .i64 (List.replicate m (0 : Int))))]⟩ hT (by kernel_rfl) (by kernel_rfl) ⟨(by first | omega | (simp only [lens]; omega) | (simp only [Bool.cond_decide]; omega) | (simp only [nadd_eq]; omega)), (by first | omega | (simp only [lens]; omega) | (simp only [Bool.cond_decide]; omega) | (simp only [nadd_eq]; omega)), (by first | omega | (simp only [lens]; omega) | (simp only [Bool.cond_decide]; omega) | (simp only [nadd_eq]; omega)), trivial⟩ ?_
      refine aops_end (by kernel_rfl) ?_
      refine awp_run_seq [4] [122] [] ⟨27, [(4, .one (.rw 122 0 0))], [(122, .flat (.ints .i64 (List.replicate m (0 : Int))))]⟩ hT (by kernel_rfl) trivial ?_
      refine awp_weak (awk_reset 122 4 (.flat (.ints .i64 (List.replicate m (0 : Int)))) (.flat (.ints .i64 [])) _ (by kernel_rfl) (by kernel_rfl) (by decide) rfl rfl) ?_
      refine awp_weak (awk_ren 122 9001 (s' := ⟨27, [(4, .one (.rw 9001 0 0))], [(9001, .flat (.ints .i64 []))]⟩) (by kernel_rfl)) ?_
      refine awp_ret ?_
      refine kRet.ret _ [9001] [] (.one (.rw 9001 0 0)) [(9001, .flat (.ints .i64 []))] (by kernel_rfl) trivial ?_
      exact ⟨(by kernel_rfl), (by kernel_rfl)⟩
    · -- no 4
      try simp only [bs] at c4
      refine awp_skip ?_
      refine awp_run_seq [4] [] [] ⟨27, [(4, .one .nils)], []⟩ hT (by kernel_rfl) trivial ?_
      refine awp_weak (awk_empty 5004 (.flat (.ints .i64 [])) rfl (by decide) _) ?_
      refine awp_weak (awk_slot 4 (.one .nils) (.one (.rw 5004 0 0)) _ (by kernel_rfl) (.one (wkv_nils (o := .flat (.ints .i64 [])) (by kernel_rfl)))) ?_
      refine awp_weak (awk_ren 5004 9001 (s' := ⟨27, [(4, .one (.rw 9001 0 0))], [(9001, .flat (.ints .i64 []))]⟩) (by kernel_rfl)) ?_
      refine awp_ret ?_
      refine kRet.ret _ [9001] [] (.one (.rw 9001 0 0)) [(9001, .flat (.ints .i64 []))] (by kernel_rfl) trivial ?_
      exact ⟨(by kernel_rfl), (by kernel_rfl)⟩

theorem concat_ints (xss : List (List Int)) (hl : xss.flatten.length * 8 ≤ 140737488355328) : ACall Try.prog 125 [.one (.rs (.rows xss))] [] (fun ov oh => ov = .one (.rw 9001 0 xss.flatten.length) ∧ oh = [(9001, .flat (.ints .i64 xss.flatten))]) := by
  refine acall_intro hT Try.func125 rfl (by kernel_rfl) rfl (by kernel_rfl) ?_
  refine awp_len1 0 0 (.rows xss) (by kernel_rfl) (fun hlen => ?_)
  simp only [C1.len, maxLen] at hlen
  refine awp_run_seq [0] [] [] ⟨36, [(0, .one (.rs (.rows xss)))], []⟩ hT (by kernel_rfl) trivial ?_
  refine awp_run_seq [0, 3] [] [] ⟨36, [(0, .one (.rs (.rows xss))), (3, .one (.int .i64 0))], []⟩ hT (by kernel_rfl) trivial ?_
  refine awp_seq ?_
  refine awp_run_seq [0, 3, 9, 10, 11] [] [] ⟨36, [(0, .one (.rs (.rows xss))), (3, .one (.int .i64 0)), (9, .one (.rs (.rows xss))), (10, .one (.int .i64 ((xss.length : Nat) : Int))), (11, .one (.int .i64 0))], []⟩ hT (by kernel_rfl) trivial ?_
  refine awp_block ?_
  refine awp_loop (I := fun κ σ => ∃ (i t : Nat), ((i ≤ xss.length) ∧ (t = (xss.take i).flatten.length) ∧ xss.length - i = κ) ∧ σ = ⟨36, [(0, .one (.rs (.rows xss))), (3, .one (.int .i64 ((t : Nat) : Int))), (9, .one (.rs (.rows xss))), (10, .one (.int .i64 ((xss.length : Nat) : Int))), (11, .one (.int .i64 ((i : Nat) : Int)))], []⟩) _ ⟨0, 0, ⟨(by omega), (by rfl), rfl⟩, (by kernel_rfl)⟩ ?_
  rintro κ _ ⟨i, t, ⟨hi, ht, rfl⟩, rfl⟩
  have hb := flat_le xss i
  refine awp_run_seq [0, 3, 9, 10, 11, 12] [] [] ⟨36, [(0, .one (.rs (.rows xss))), (3, .one (.int .i64 ((t : Nat) : Int))), (9, .one (.rs (.rows xss))), (10, .one (.int .i64 ((xss.length : Nat) : Int))), (11, .one (.int .i64 ((i : Nat) : Int))), (12, .one (.bool (decide (((i : Nat) : Int) < ((xss.length : Nat) : Int)))))], []⟩ hT (by kernel_rfl) trivial ?_
  refine awp_seq ?_
  refine awp_cond (b := (decide (((i : Nat) : Int) < ((xss.length : Nat) : Int)))) (by kernel_rfl) (fun c3 => ?_) (fun c3 => ?_)
  · -- yes 3
    try simp only [bs] at c3
    have hg := flat_step xss i (by omega)
    have hb1 := flat_le xss (i + 1)
    have hgl := congrArg List.length hg
    simp only [List.length_append] at hgl
    refine awp_skip ?_
    refine awp_seq ?_
    refine awp_block ?_
    refine awp_run_seq [0, 3, 5, 9, 10, 11] [] [((0 : Int) ≤ ((i : Nat) : Int)), (((i : Nat) : Int) < ((xss.length : Nat) : Int))] ⟨36, [(0, .one (.rs (.rows xss))), (3, .one (.int .i64 ((t : Nat) : Int))), (5, .one (.ro (.ints .i64 (List.getD xss i [])))), (9, .one (.rs (.rows xss))), (10, .one (.int .i64 ((xss.length : Nat) : Int))), (11, .one (.int .i64 ((i : Nat) : Int)))], []⟩ hT (by kernel_rfl) ⟨(by first | omega | (simp only [lens]; omega) | (simp only [Bool.cond_decide]; omega) | (simp only [nadd_eq]; omega)), (by first | omega | (simp only [lens]; omega) | (simp only [Bool.cond_decide]; omega) | (simp only [nadd_eq]; omega)), trivial⟩ ?_
    refine awp_run_seq [0, 3, 9, 10, 11] [] [(-9223372036854775808 ≤ (((t + (List.length (List.getD xss i []))) : Nat) : Int) ∧ (((t + (List.length (List.getD xss i []))) : Nat) : Int) ≤ 9223372036854775807)] ⟨36, [(0, .one (.rs (.rows xss))), (3, .one (.int .i64 (((t + (List.length (List.getD xss i []))) : Nat) : Int))), (9, .one (.rs (.rows xss))), (10, .one (.int .i64 ((xss.length : Nat) : Int))), (11, .one (.int .i64 ((i : Nat) : Int)))], []⟩ hT (by kernel_rfl) ⟨(by first | omega | (simp only [lens]; omega) | (simp only [Bool.cond_decide]; omega) | (simp only [nadd_eq]; omega)), trivial⟩ ?_
    refine awp_run_seq [0, 3, 9, 10, 11, 20] [] [] ⟨36, [(0, .one (.rs (.rows xss))), (3, .one (.int .i64 (((t + (List.length (List.getD xss i []))) : Nat) : Int))), (9, .one (.rs (.rows xss))), (10, .one (.int .i64 ((xss.length : Nat) : Int))), (11, .one (.int .i64 ((i : Nat) : Int))), (20, .one (.bool (decide ((((t + (List.length (List.getD xss i []))) : Nat) : Int) < 0))))], []⟩ hT (by kernel_rfl) trivial ?_
    refine awp_cond (b := (decide ((((t + (List.length (List.getD xss i []))) : Nat) : Int) < 0))) (by kernel_rfl) (fun c6 => ?_) (fun c6 => ?_)
    · -- yes 6
      try simp only [bs] at c6
      exfalso; omega
    · -- no 6
      try simp only [bs] at c6
      refine awp_skip ?_
      refine awp_run [0, 3, 9, 10, 11] [] [(-9223372036854775808 ≤ (((i + 1) : Nat) : Int) ∧ (((i + 1) : Nat) : Int) ≤ 9223372036854775807)] ⟨36, [(0, .one (.rs (.rows xss))), (3, .one (.int .i64 (((t + (List.length (List.getD xss i []))) : Nat) : Int))), (9, .one (.rs (.rows xss))), (10, .one (.int .i64 ((xss.length : Nat) : Int))), (11, .one (.int .i64 (((i + 1) : Nat) : Int)))], []⟩ hT (by kernel_rfl) ⟨(by first | omega | (simp only [lens]; omega) | (simp only [Bool.cond_decide]; omega) | (simp only [nadd_eq]; omega)), trivial⟩ ?_
      refine loop_end _ ?_ ⟨(i + 1), (t + (List.length (List.getD xss i []))), ⟨(by omega), (by rw [hg, List.length_append, ← ht]), rfl⟩, (by kernel_rfl)⟩
      omega
  · -- no 3
    try simp only [bs] at c3
    refine awp_exit ?_
    refine awp_seq (awp_region ?_)
    refine aops_run 1 [0, 23] [] [] ⟨36, [(0, .one (.rs (.rows xss))), (23, .one (.int .i64 ((t : Nat) : Int)))], []⟩ hT (by kernel_rfl) (by kernel_rfl) trivial ?_
    refine aops_call [] [(9001, 124)] false ⟨true, [], 142, [.one .nils, .one (.int .i64 ((t : Nat) : Int))], []⟩ [.one .nils, .one (.int .i64 ((t : Nat) : Int))] (sm := ⟨36, [(0, .one (.rs (.rows xss))), (23, .one (.int .i64 ((t : Nat) : Int))), (24, .whn false (.one .any))], []⟩) (by kernel_rfl) (by kernel_rfl) (by decide) (fun _ => trivial) rfl (fun _ => grow_ints t (by first | omega | (simp; omega))) (fun _ v Hr hv => ?_) (fun h => by cases h)
    obtain ⟨rfl, rfl⟩ := hv
    refine ⟨⟨36, [(0, .one (.rs (.rows xss))), (23, .one (.int .i64 ((t : Nat) : Int))), (24, .one (.rw 124 0 0))], [(124, .flat (.ints .i64 []))]⟩, by kernel_rfl, ?_⟩
    refine aops_run 1 [0, 6] [124] [] ⟨36, [(0, .one (.rs (.rows xss))), (6, .one (.rw 124 0 0))], [(124, .flat (.ints .i64 []))]⟩ hT (by kernel_rfl) (by kernel_rfl) trivial ?_
    refine aops_end_seq (by kernel_rfl) ?_
    refine awp_seq ?_
    refine awp_run_seq [6, 25, 26, 27] [124] [] ⟨36, [(6, .one (.rw 124 0 0)), (25, .one (.rs (.rows xss))), (26, .one (.int .i64 ((xss.length : Nat) : Int))), (27, .one (.int .i64 0))], [(124, .flat (.ints .i64 []))]⟩ hT (by kernel_rfl) trivial ?_
    refine awp_block ?_
    refine awp_loop (I := fun κ σ => ∃ (j : Nat) (r : List Int), ((j ≤ xss.length) ∧ (r = (xss.take j).flatten) ∧ xss.length - j = κ) ∧ σ = ⟨36, [(6, .one (.rw 124 0 r.length)), (25, .one (.rs (.rows xss))), (26, .one (.int .i64 ((xss.length : Nat) : Int))), (27, .one (.int .i64 ((j : Nat) : Int)))], [(124, .flat (.ints .i64 r))]⟩) _ ⟨0, [], ⟨(by omega), (by rfl), rfl⟩, (by kernel_rfl)⟩ ?_
    rintro κ _ ⟨j, r, ⟨hj, hr, rfl⟩, rfl⟩
    have hb := flat_le xss j
    refine awp_run_seq [6, 25, 26, 27, 28] [124] [] ⟨36, [(6, .one (.rw 124 0 r.length)), (25, .one (.rs (.rows xss))), (26, .one (.int .i64 ((xss.length : Nat) : Int))), (27, .one (.int .i64 ((j : Nat) : Int))), (28, .one (.bool (decide (((j : Nat) : Int) < ((xss.length : Nat) : Int)))))], [(124, .flat (.ints .i64 r))]⟩ hT (by kernel_rfl) trivial ?_
    refine awp_seq ?_
    refine awp_cond (b := (decide (((j : Nat) : Int) < ((xss.length : Nat) : Int)))) (by kernel_rfl) (fun c11 => ?_) (fun c11 => ?_)
    · -- yes 11
      try simp only [bs] at c11
      have hg := flat_step xss j (by omega)
      have hb1 := flat_le xss (j + 1)
      have hrl : r.length = (xss.take j).flatten.length := by rw [hr]
      have hgl := congrArg List.length hg
      simp only [List.length_append] at hgl
      refine awp_skip ?_
      refine awp_seq ?_
      refine awp_block ?_
      refine awp_run_seq [6, 8, 25, 26, 27] [124] [((0 : Int) ≤ ((j : Nat) : Int)), (((j : Nat) : Int) < ((xss.length : Nat) : Int))] ⟨36, [(6, .one (.rw 124 0 r.length)), (8, .one (.ro (.ints .i64 (List.getD xss j [])))), (25, .one (.rs (.rows xss))), (26, .one (.int .i64 ((xss.length : Nat) : Int))), (27, .one (.int .i64 ((j : Nat) : Int)))], [(124, .flat (.ints .i64 r))]⟩ hT (by kernel_rfl) ⟨(by first | omega | (simp only [lens]; omega) | (simp only [Bool.cond_decide]; omega) | (simp only [nadd_eq]; omega)), (by first | omega | (simp only [lens]; omega) | (simp only [Bool.cond_decide]; omega) | (simp only [nadd_eq]; omega)), trivial⟩ ?_
      refine awp_run [6, 25, 26, 27] [124] [(r.length = r.length), ((r.length + (List.length (List.getD xss j []))) * 8 ≤ 140737488355328), ((r.length + (List.length (List.getD xss j []))) ≤ 9223372036854775807)] ⟨36, [(6, .one (.rw 124 0 (r.length + (List.length (List.getD xss j []))))), (25, .one (.rs (.rows xss))), (26, .one (.int .i64 ((xss.length : Nat) : Int))), (27, .one (.int .i64 ((j : Nat) : Int)))], [(124, .flat (.ints .i64 (r ++ (List.getD xss j []))))]⟩ hT (by kernel_rfl) ⟨(by first | omega | (simp only [lens]; omega) | (simp only [Bool.cond_decide]; omega) | (simp only [nadd_eq]; omega)), (by first | omega | (simp only [lens]; omega) | (simp only [Bool.cond_decide]; omega) | (simp only [nadd_eq]; omega)), (by first | omega | (simp only [lens]; omega) | (simp only [Bool.cond_decide]; omega) | (simp only [nadd_eq]; omega)), trivial⟩ ?_
      refine awp_run [6, 25, 26, 27] [124] [(-9223372036854775808 ≤ (((j + 1) : Nat) : Int) ∧ (((j + 1) : Nat) : Int) ≤ 9223372036854775807)] ⟨36, [(6, .one (.rw 124 0 (r.length + (List.length (List.getD xss j []))))), (25, .one (.rs (.rows xss))), (26, .one (.int .i64 ((xss.length : Nat) : Int))), (27, .one (.int .i64 (((j + 1) : Nat) : Int)))], [(124, .flat (.ints .i64 (r ++ (List.getD xss j []))))]⟩ hT (by kernel_rfl) ⟨(by first | omega | (simp only [lens]; omega) | (simp only [Bool.cond_decide]; omega) | (simp only [nadd_eq]; omega)), trivial⟩ ?_
      refine loop_end _ ?_ ⟨(j + 1), (r ++ (List.getD xss j [])), ⟨(by omega), (by rw [hr, ← hg]), rfl⟩, (by first | (simp only [lens]; done) | (simp only [Nat.zero_add]; done) | simp only [lens, Nat.zero_add])⟩
      omega
    · -- no 11
      try simp only [bs] at c11
      refine awp_exit ?_
      refine awp_run_seq [2] [124] [] ⟨36, [(2, .one (.rw 124 0 r.length))], [(124, .flat (.ints .i64 r))]⟩ hT (by kernel_rfl) trivial ?_
      refine awp_weak (awk_ren 124 9001 (s' := ⟨36, [(2, .one (.rw 9001 0 r.length))], [(9001, .flat (.ints .i64 r))]⟩) (by kernel_rfl)) ?_
      refine awp_ret ?_
      refine kRet.ret _ [9001] [] (.one (.rw 9001 0 r.length)) [(9001, .flat (.ints .i64 r))] (by kernel_rfl) trivial ?_
      exact ⟨(by rw [hr, List.take_of_length_le (by omega)]), (by rw [hr, List.take_of_length_le (by omega)])⟩

end Go.Ab
