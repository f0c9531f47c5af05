/- Of ways that have no arc in common: the test. -/
import Derived.Test.YteccjcionjkllaaTab
import Derived.Test.YteccjcionjkllaaPlSplit
import Derived.Test.YteccjcionjkllaaCompact1
import Derived.Test.YteccjcionjkllaaSort1
import Derived.Test.YteccjcionjkllaaFun1
import Derived.Test.YteccjcionjkllaaF2
import Derived.Test.YteccjcionjkllaaWalk4
import Derived.Test.YteccjcionjkllaaPlSplit2
import Derived.Test.YteccjcionjkllaaPaths1
import Derived.Test.YteccjcionjkllaaNan1
set_option maxRecDepth 100000
namespace Go.Ab
open Go Go.Proofs
theorem law_apart (n s t : Int) (es : List Arc) (W : List (List Int)) (hA : Apart es s t W) (hle : es.length ≤ 60) : ACall Try.prog 43 [.agg [(.int .i64 n), (.int .i64 s), (.int .i64 t), (.ro (.arcs es))], .one (.rs (.rows W))] [] (fun ov oh => ov = .one (.bool true) ∧ oh = []) := by
  refine acall_intro hT Try.func43 rfl (by kernel_rfl) rfl (by kernel_rfl) ?_
  refine awp_len1 1 0 (.rows W) (by kernel_rfl) (fun hlW => ?_)
  simp only [C1.len, maxLen] at hlW
  have hfl := hA.few
  refine awp_run_seq [1, 2] [102] [] ⟨37, [(1, .one (.rs (.rows W))), (2, .one (.ptr 102 0 0))], [(102, .box 1 4 [(.int .i64 n), (.int .i64 s), (.int .i64 t), (.ro (.arcs es))])]⟩ hT (by kernel_rfl) trivial ?_
  refine awp_run_seq [1, 2, 5] [102] [] ⟨37, [(1, .one (.rs (.rows W))), (2, .one (.ptr 102 0 0)), (5, .one .nils)], [(102, .box 1 4 [(.int .i64 n), (.int .i64 s), (.int .i64 t), (.ro (.arcs es))])]⟩ hT (by kernel_rfl) trivial ?_
  refine awp_seq ?_
  refine awp_run_seq [2, 5, 9, 10, 11] [102] [] ⟨37, [(2, .one (.ptr 102 0 0)), (5, .one .nils), (9, .one (.rs (.rows W))), (10, .one (.int .i64 ((W.length : Nat) : Int))), (11, .one (.int .i64 0))], [(102, .box 1 4 [(.int .i64 n), (.int .i64 s), (.int .i64 t), (.ro (.arcs es))])]⟩ hT (by kernel_rfl) trivial ?_
  refine awp_block ?_
  refine awp_weak (awk_empty 5005 (.flat (.ints .i64 [])) rfl (by decide) _) ?_
  refine awp_weak (awk_slot 5 (.one .nils) (.one (.rw 5005 0 0)) _ (by kernel_rfl) (.one (wkv_nils (o := .flat (.ints .i64 [])) (by kernel_rfl)))) ?_
  refine awp_loop (I := fun κ σ => ∃ (i : Nat) (o : List Int), ((i ≤ W.length) ∧ (o = (W.take i).flatten) ∧ W.length - i = κ) ∧ σ = ⟨37, [(2, .one (.ptr 102 0 0)), (5, .one (.rw 5005 0 o.length)), (9, .one (.rs (.rows W))), (10, .one (.int .i64 ((W.length : Nat) : Int))), (11, .one (.int .i64 ((i : Nat) : Int)))], [(102, .box 1 4 [(.int .i64 n), (.int .i64 s), (.int .i64 t), (.ro (.arcs es))]), (5005, .flat (.ints .i64 o))]⟩) _ ⟨0, [], ⟨(by omega), (by rfl), rfl⟩, (by kernel_rfl)⟩ ?_
  rintro κ _ ⟨i, o, ⟨hi, ho, rfl⟩, rfl⟩
  have hfi := flat_le W i
  have hol := congrArg List.length ho
  refine awp_run_seq [2, 5, 9, 10, 11, 12] [102, 5005] [] ⟨37, [(2, .one (.ptr 102 0 0)), (5, .one (.rw 5005 0 o.length)), (9, .one (.rs (.rows W))), (10, .one (.int .i64 ((W.length : Nat) : Int))), (11, .one (.int .i64 ((i : Nat) : Int))), (12, .one (.bool (decide (((i : Nat) : Int) < ((W.length : Nat) : Int)))))], [(102, .box 1 4 [(.int .i64 n), (.int .i64 s), (.int .i64 t), (.ro (.arcs es))]), (5005, .flat (.ints .i64 o))]⟩ hT (by kernel_rfl) trivial ?_
  refine awp_seq ?_
  refine awp_cond (b := (decide (((i : Nat) : Int) < ((W.length : Nat) : Int)))) (by kernel_rfl) (fun c3 => ?_) (fun c3 => ?_)
  · -- yes 3
    try simp only [bs] at c3
    have hil : i < W.length := by omega
    have hst := flat_step W i hil
    have hfn := flat_le W (i + 1)
    have hsl2 := congrArg List.length hst
    simp only [List.length_append] at hsl2
    have hwy := hA.way _ (getD_mem (d := []) hil)
    refine awp_skip ?_
    refine awp_seq ?_
    refine awp_block ?_
    refine awp_run_seq [2, 5, 7, 9, 10, 11] [102, 5005] [((0 : Int) ≤ ((i : Nat) : Int)), (((i : Nat) : Int) < ((W.length : Nat) : Int))] ⟨37, [(2, .one (.ptr 102 0 0)), (5, .one (.rw 5005 0 o.length)), (7, .one (.ro (.ints .i64 (List.getD W i [])))), (9, .one (.rs (.rows W))), (10, .one (.int .i64 ((W.length : Nat) : Int))), (11, .one (.int .i64 ((i : Nat) : Int)))], [(102, .box 1 4 [(.int .i64 n), (.int .i64 s), (.int .i64 t), (.ro (.arcs es))]), (5005, .flat (.ints .i64 o))]⟩ hT (by kernel_rfl) ⟨(by first | omega | (simp only [lens]; omega) | (simp only [Bool.cond_decide]; omega) | (simp only [nadd_eq]; omega)), (by first | omega | (simp only [lens]; omega) | (simp only [Bool.cond_decide]; omega) | (simp only [nadd_eq]; omega)), trivial⟩ ?_
    refine awp_seq ?_
    refine awp_seq (awp_region ?_)
    refine aops_run 7 [2, 5, 7, 9, 10, 11, 16, 17, 19, 21] [102, 5005] [(0 < 1), (0 < 1), (0 < 1)] ⟨37, [(2, .one (.ptr 102 0 0)), (5, .one (.rw 5005 0 o.length)), (7, .one (.ro (.ints .i64 (List.getD W i [])))), (9, .one (.rs (.rows W))), (10, .one (.int .i64 ((W.length : Nat) : Int))), (11, .one (.int .i64 ((i : Nat) : Int))), (16, .one (.ro (.arcs es))), (17, .one (.ro (.ints .i64 (List.getD W i [])))), (19, .one (.int .i64 s)), (21, .one (.int .i64 t))], [(102, .box 1 4 [(.int .i64 n), (.int .i64 s), (.int .i64 t), (.ro (.arcs es))]), (5005, .flat (.ints .i64 o))]⟩ hT (by kernel_rfl) (by kernel_rfl) ⟨(by decide), (by decide), (by decide), trivial⟩ ?_
    refine aops_pure false ⟨true, [], 94, [.one (.ro (.arcs es)), .one (.ro (.ints .i64 (List.getD W i []))), .one (.int .i64 s), .one (.int .i64 t)], []⟩ [.one (.ro (.arcs es)), .one (.ro (.ints .i64 (List.getD W i []))), .one (.int .i64 s), .one (.int .i64 t)] (.one (.bool (isWay es (List.getD W i []) s t))) ⟨37, [(2, .one (.ptr 102 0 0)), (5, .one (.rw 5005 0 o.length)), (7, .one (.ro (.ints .i64 (List.getD W i [])))), (9, .one (.rs (.rows W))), (10, .one (.int .i64 ((W.length : Nat) : Int))), (11, .one (.int .i64 ((i : Nat) : Int))), (16, .one (.ro (.arcs es))), (17, .one (.ro (.ints .i64 (List.getD W i [])))), (19, .one (.int .i64 s)), (21, .one (.int .i64 t)), (22, .one (.bool (isWay es (List.getD W i []) s t)))], [(102, .box 1 4 [(.int .i64 n), (.int .i64 s), (.int .i64 t), (.ro (.arcs es))]), (5005, .flat (.ints .i64 o))]⟩ (by kernel_rfl) (by kernel_rfl) (fun _ => trivial) rfl (fun _ => ref_isWay es (List.getD W i []) s t) ?_
    refine aops_run 1 [2, 5, 7, 9, 10, 11, 23] [102, 5005] [] ⟨37, [(2, .one (.ptr 102 0 0)), (5, .one (.rw 5005 0 o.length)), (7, .one (.ro (.ints .i64 (List.getD W i [])))), (9, .one (.rs (.rows W))), (10, .one (.int .i64 ((W.length : Nat) : Int))), (11, .one (.int .i64 ((i : Nat) : Int))), (23, .one (.bool (!(isWay es (List.getD W i []) s t))))], [(102, .box 1 4 [(.int .i64 n), (.int .i64 s), (.int .i64 t), (.ro (.arcs es))]), (5005, .flat (.ints .i64 o))]⟩ hT (by kernel_rfl) (by kernel_rfl) trivial ?_
    refine aops_end_seq (by kernel_rfl) ?_
    refine awp_cond (b := (!(isWay es (List.getD W i []) s t))) (by kernel_rfl) (fun c5 => ?_) (fun c5 => ?_)
    · -- yes 5
      try simp only [bs] at c5
      exfalso; rw [hwy] at c5; cases c5
    · -- no 5
      try simp only [bs] at c5
      refine awp_skip ?_
      refine awp_run [2, 5, 9, 10, 11] [102, 5005] [(o.length = o.length), ((o.length + (List.length (List.getD W i []))) * 8 ≤ 140737488355328), ((o.length + (List.length (List.getD W i []))) ≤ 9223372036854775807)] ⟨37, [(2, .one (.ptr 102 0 0)), (5, .one (.rw 5005 0 (o.length + (List.length (List.getD W i []))))), (9, .one (.rs (.rows W))), (10, .one (.int .i64 ((W.length : Nat) : Int))), (11, .one (.int .i64 ((i : Nat) : Int)))], [(102, .box 1 4 [(.int .i64 n), (.int .i64 s), (.int .i64 t), (.ro (.arcs es))]), (5005, .flat (.ints .i64 (o ++ (List.getD W i []))))]⟩ hT (by kernel_rfl) ⟨(by first | omega | (simp only [lens]; omega) | (simp only [Bool.cond_decide]; omega) | (simp only [nadd_eq]; omega)), (by first | omega | (simp only [lens]; omega) | (simp only [Bool.cond_decide]; omega) | (simp only [nadd_eq]; omega)), (by first | omega | (simp only [lens]; omega) | (simp only [Bool.cond_decide]; omega) | (simp only [nadd_eq]; omega)), trivial⟩ ?_
      refine awp_run [2, 5, 9, 10, 11] [102, 5005] [(-9223372036854775808 ≤ (((i + 1) : Nat) : Int) ∧ (((i + 1) : Nat) : Int) ≤ 9223372036854775807)] ⟨37, [(2, .one (.ptr 102 0 0)), (5, .one (.rw 5005 0 (o.length + (List.length (List.getD W i []))))), (9, .one (.rs (.rows W))), (10, .one (.int .i64 ((W.length : Nat) : Int))), (11, .one (.int .i64 (((i + 1) : Nat) : Int)))], [(102, .box 1 4 [(.int .i64 n), (.int .i64 s), (.int .i64 t), (.ro (.arcs es))]), (5005, .flat (.ints .i64 (o ++ (List.getD W i []))))]⟩ hT (by kernel_rfl) ⟨(by first | omega | (simp only [lens]; omega) | (simp only [Bool.cond_decide]; omega) | (simp only [nadd_eq]; omega)), trivial⟩ ?_
      refine loop_end _ ?_ ⟨(i + 1), (o ++ (List.getD W i [])), ⟨(by omega), (by rw [hst, ho]), rfl⟩, (by first | (simp only [lens]; done) | (simp only [Nat.zero_add]; done) | simp only [lens, Nat.zero_add])⟩
      omega
  · -- no 3
    try simp only [bs] at c3
    refine awp_exit ?_
    refine awp_run_seq [5, 8] [5005] [] ⟨37, [(5, .one (.rw 5005 0 o.length)), (8, .one (.int .i64 ((o.length : Nat) : Int)))], [(5005, .flat (.ints .i64 o))]⟩ hT (by kernel_rfl) trivial ?_
    refine awp_seq (awp_region ?_)
    refine aops_run 1 [5, 8, 30] [5005] [] ⟨37, [(5, .one (.rw 5005 0 o.length)), (8, .one (.int .i64 ((o.length : Nat) : Int))), (30, .one (.rw 5005 0 o.length))], [(5005, .flat (.ints .i64 o))]⟩ hT (by kernel_rfl) (by kernel_rfl) trivial ?_
    refine aops_call [(1, 5005)] [] false ⟨true, [], 93, [.one (.rw 1 0 o.length)], [(1, .flat (.ints .i64 o))]⟩ [.one (.rw 1 0 o.length)] (sm := ⟨37, [(5, .one (.rw 5005 0 o.length)), (8, .one (.int .i64 ((o.length : Nat) : Int))), (30, .one (.rw 5005 0 o.length)), (31, .whn false (.one .any))], [(5005, .flat (.ints .i64 o))]⟩) (by kernel_rfl) (by kernel_rfl) (by decide) (fun _ => trivial) rfl (fun _ => sort_is 1 o (by first | omega | (simp; omega))) (fun _ v Hr hv => ?_) (fun h => by cases h)
    obtain ⟨rfl, rfl⟩ := hv
    refine ⟨⟨37, [(5, .one (.rw 5005 0 o.length)), (8, .one (.int .i64 ((o.length : Nat) : Int))), (30, .one (.rw 5005 0 o.length)), (31, .tup [])], [(5005, .flat (.ints .i64 (sorted o)))]⟩, by kernel_rfl, ?_⟩
    refine aops_cut [5, 8] [5005] ⟨37, [(5, .one (.rw 5005 0 o.length)), (8, .one (.int .i64 ((o.length : Nat) : Int)))], [(5005, .flat (.ints .i64 (sorted o)))]⟩ (by kernel_rfl) ?_
    refine aops_end_seq (by kernel_rfl) ?_
    have hnd : o.Nodup := by rw [ho, List.take_of_length_le (by omega)]; exact hA.nd
    have hsl := sorted_len o
    have hcs := sorted_strict hnd
    refine awp_weak (awk_seal 5005 (s' := ⟨37, [(5, .one (.ro (.ints .i64 (List.take o.length (sorted o))))), (8, .one (.int .i64 ((o.length : Nat) : Int)))], []⟩) (by kernel_rfl)) ?_
    rw [show (List.take o.length (sorted o)) = (sorted o) from List.take_of_length_le (by first | omega | simp)]
    refine awp_seq (awp_region ?_)
    refine aops_run 1 [8, 32] [] [] ⟨37, [(8, .one (.int .i64 ((o.length : Nat) : Int))), (32, .one (.ro (.ints .i64 (sorted o))))], []⟩ hT (by kernel_rfl) (by kernel_rfl) trivial ?_
    refine aops_pure false ⟨true, [], 45, [.one (.ro (.ints .i64 (sorted o)))], []⟩ [.one (.ro (.ints .i64 (sorted o)))] (.one (.ro (.ints .i64 (sorted o)))) ⟨37, [(8, .one (.int .i64 ((o.length : Nat) : Int))), (32, .one (.ro (.ints .i64 (sorted o)))), (33, .one (.ro (.ints .i64 (sorted o))))], []⟩ (by kernel_rfl) (by kernel_rfl) (fun _ => trivial) rfl (fun _ => compact_ints (sorted o) hcs (by first | omega | (simp only [sorted_len]; omega))) ?_
    refine aops_run 4 [4] [] [] ⟨37, [(4, .one (.bool (decide ((((List.length (sorted o)) : Nat) : Int) = ((o.length : Nat) : Int)))))], []⟩ hT (by kernel_rfl) (by kernel_rfl) trivial ?_
    refine aops_end_seq (by kernel_rfl) ?_
    refine awp_ret ?_
    refine kRet.ret _ [] [] (.one (.bool (decide ((((List.length (sorted o)) : Nat) : Int) = ((o.length : Nat) : Int))))) [] (by kernel_rfl) trivial ?_
    exact ⟨congrArg (fun x1 => (.one (.bool x1) : AV)) (show (decide ((((List.length (sorted o)) : Nat) : Int) = ((o.length : Nat) : Int))) = true from by simp [sorted_len]), rfl⟩

theorem cmp_less (x y : Int) : ACall Try.prog 97 [.one (.int .i64 x), .one (.int .i64 y)] [] (fun ov oh => ov = .one (.bool (decide (x < y))) ∧ oh = []) := by
  refine acall_intro hT Try.func97 rfl (by kernel_rfl) rfl (by kernel_rfl) ?_
  refine awp_run_seq [0, 1] [] [] ⟨17, [(0, .one (.int .i64 x)), (1, .one (.int .i64 y))], []⟩ hT (by kernel_rfl) trivial ?_
  refine awp_seq (awp_region ?_)
  refine aops_run 1 [0, 1, 5] [] [] ⟨17, [(0, .one (.int .i64 x)), (1, .one (.int .i64 y)), (5, .one (.int .i64 x))], []⟩ hT (by kernel_rfl) (by kernel_rfl) trivial ?_
  refine aops_pure false ⟨true, [], 129, [.one (.int .i64 x)], []⟩ [.one (.int .i64 x)] (.one (.bool false)) ⟨17, [(0, .one (.int .i64 x)), (1, .one (.int .i64 y)), (5, .one (.int .i64 x)), (6, .one (.bool false))], []⟩ (by kernel_rfl) (by kernel_rfl) (fun _ => trivial) rfl (fun _ => cmp_isNaN x) ?_
  refine aops_run 2 [0, 1, 7, 8] [] [] ⟨17, [(0, .one (.int .i64 x)), (1, .one (.int .i64 y)), (7, .one (.bool false)), (8, .whn false (.one (.int .i64 y)))], []⟩ hT (by kernel_rfl) (by kernel_rfl) trivial ?_
  refine aops_pure false ⟨false, [(false = true → false = true)], 129, [.one (.int .i64 y)], []⟩ [.one (.int .i64 y)] (.one (.bool false)) ⟨17, [(0, .one (.int .i64 x)), (1, .one (.int .i64 y)), (7, .one (.bool false)), (8, .whn false (.one (.int .i64 y))), (9, .whn false (.one (.bool false)))], []⟩ (by kernel_rfl) (by kernel_rfl) (fun _ => ⟨(fun h => h), trivial⟩) rfl (fun _ => cmp_isNaN y) ?_
  refine aops_run 8 [4] [] [(false = true → (false = true → false = true)), (false = true → false = true), (true = true → (true = true → true = true)), (true = true → (true = true → true = true)), (true = true → true = true)] ⟨17, [(4, .one (.bool (decide (x < y))))], []⟩ hT (by kernel_rfl) (by kernel_rfl) ⟨(by intro hg; first | exact hg | skip; (try simp only [bs] at hg ⊢); first | exact hg | first | omega | (simp only [lens]; omega) | (simp only [Bool.cond_decide]; omega) | (simp only [nadd_eq]; omega) | grind), (fun h => h), (fun _ => (fun h => h)), (fun _ => (fun h => h)), (fun h => h), trivial⟩ ?_
  refine aops_end_seq (by kernel_rfl) ?_
  refine awp_ret ?_
  refine kRet.ret _ [] [] (.one (.bool (decide (x < y)))) [] (by kernel_rfl) trivial ?_
  exact ⟨rfl, rfl⟩

theorem is_sorted (l : List Int) (hs : l.Pairwise (· < ·)) (hle : l.length ≤ 1000) : ACall Try.prog 44 [.one (.ro (.ints .i64 l))] [] (fun ov oh => ov = .one (.bool true) ∧ oh = []) := by
  refine acall_intro hT Try.func44 rfl (by kernel_rfl) rfl (by kernel_rfl) ?_
  refine awp_run_seq [0] [] [] ⟨21, [(0, .one (.ro (.ints .i64 l)))], []⟩ hT (by kernel_rfl) trivial ?_
  refine awp_seq ?_
  refine awp_run_seq [0, 3] [] [(-9223372036854775808 ≤ (((l.length : Nat) : Int) - 1) ∧ (((l.length : Nat) : Int) - 1) ≤ 9223372036854775807)] ⟨21, [(0, .one (.ro (.ints .i64 l))), (3, .one (.int .i64 (((l.length : Nat) : Int) - 1)))], []⟩ hT (by kernel_rfl) ⟨(by first | omega | (simp only [lens]; omega) | (simp only [Bool.cond_decide]; omega) | (simp only [nadd_eq]; omega)), trivial⟩ ?_
  refine awp_block ?_
  refine awp_loop (I := fun κ σ => ∃ (k : Int), ((-1 ≤ k ∧ k < (l.length : Int)) ∧ (k + 1).toNat = κ) ∧ σ = ⟨21, [(0, .one (.ro (.ints .i64 l))), (3, .one (.int .i64 k))], []⟩) _ ⟨(((l.length : Nat) : Int) - 1), ⟨(by omega), rfl⟩, (by kernel_rfl)⟩ ?_
  rintro κ _ ⟨k, ⟨hk, rfl⟩, rfl⟩
  refine awp_seq ?_
  refine awp_run_seq [0, 3, 8] [] [] ⟨21, [(0, .one (.ro (.ints .i64 l))), (3, .one (.int .i64 k)), (8, .one (.bool (decide ((0 : Int) < k))))], []⟩ hT (by kernel_rfl) trivial ?_
  refine awp_cond (b := (decide ((0 : Int) < k))) (by kernel_rfl) (fun c2 => ?_) (fun c2 => ?_)
  · -- yes 2
    try simp only [bs] at c2
    refine awp_skip ?_
    refine awp_seq ?_
    refine awp_block ?_
    -- 10 of 10 operations in any order; 1 orders of the rest
    refine awp_seq (awp_calm2 [(9, ⟨[.one (.int .i64 (List.getD l (Int.toNat k) 0)), .one (.int .i64 (List.getD l (Int.toNat (k - 1)) 0))], .one (.bool (decide ((List.getD l (Int.toNat k) 0) < (List.getD l (Int.toNat (k - 1)) 0)))), [], []⟩)] false [[], [], [0, 1], [0, 1, 2], [], [], [5], [4, 5, 6], [4, 5, 6, 7], [0, 1, 2, 3, 4, 5, 6, 7, 8]] 10 [0, 3, 20] [] [(0, []), (1, []), (2, [((0 : Int) ≤ k), (k < ((l.length : Nat) : Int))]), (3, []), (4, []), (5, []), (6, [(-9223372036854775808 ≤ (k - 1) ∧ (k - 1) ≤ 9223372036854775807)]), (7, [((0 : Int) ≤ (k - 1)), ((k - 1) < ((l.length : Nat) : Int))]), (8, []), (9, [(true = true → (AllP [] ∧ [.one (.int .i64 (List.getD l (Int.toNat k) 0)), .one (.int .i64 (List.getD l (Int.toNat (k - 1)) 0))] = ([.one (.int .i64 (List.getD l (Int.toNat k) 0)), .one (.int .i64 (List.getD l (Int.toNat (k - 1)) 0))] : List AV) ∧ ACall Try.prog 97 [.one (.int .i64 (List.getD l (Int.toNat k) 0)), .one (.int .i64 (List.getD l (Int.toNat (k - 1)) 0))] [] (fun ov oh => ov = .one (.bool (decide ((List.getD l (Int.toNat k) 0) < (List.getD l (Int.toNat (k - 1)) 0)))) ∧ oh = [])))])] [] 1 ⟨21, [(0, .one (.ro (.ints .i64 l))), (3, .one (.int .i64 k)), (20, .one (.bool (decide ((List.getD l (Int.toNat k) 0) < (List.getD l (Int.toNat (k - 1)) 0)))))], []⟩ (by kernel_rfl) (by kernel_rfl) hT (by kernel_rfl) (by kernel_rfl) ⟨trivial, trivial, ⟨(by first | omega | (simp only [lens]; omega) | (simp only [Bool.cond_decide]; omega) | (simp only [nadd_eq]; omega)), (by first | omega | (simp only [lens]; omega) | (simp only [Bool.cond_decide]; omega) | (simp only [nadd_eq]; omega)), trivial⟩, trivial, trivial, trivial, ⟨(by first | omega | (simp only [lens]; omega) | (simp only [Bool.cond_decide]; omega) | (simp only [nadd_eq]; omega)), trivial⟩, ⟨(by first | omega | (simp only [lens]; omega) | (simp only [Bool.cond_decide]; omega) | (simp only [nadd_eq]; omega)), (by first | omega | (simp only [lens]; omega) | (simp only [Bool.cond_decide]; omega) | (simp only [nadd_eq]; omega)), trivial⟩, trivial, ⟨(fun _ => ⟨trivial, rfl, cmp_less (List.getD l (Int.toNat k) 0) (List.getD l (Int.toNat (k - 1)) 0)⟩), trivial⟩, trivial⟩ trivial ?_)
    refine awp_cond (b := (decide ((List.getD l (Int.toNat k) 0) < (List.getD l (Int.toNat (k - 1)) 0)))) (by kernel_rfl) (fun c4 => ?_) (fun c4 => ?_)
    · -- yes 4
      try simp only [bs] at c4
      exfalso; have := up_at hs (show (k - 1).toNat < k.toNat by omega) (by omega); omega
    · -- no 4
      try simp only [bs] at c4
      refine awp_skip ?_
      refine awp_run [0, 3] [] [(-9223372036854775808 ≤ (k - 1) ∧ (k - 1) ≤ 9223372036854775807)] ⟨21, [(0, .one (.ro (.ints .i64 l))), (3, .one (.int .i64 (k - 1)))], []⟩ hT (by kernel_rfl) ⟨(by first | omega | (simp only [lens]; omega) | (simp only [Bool.cond_decide]; omega) | (simp only [nadd_eq]; omega)), trivial⟩ ?_
      refine loop_end _ ?_ ⟨(k - 1), ⟨(by omega), rfl⟩, (by kernel_rfl)⟩
      omega
  · -- no 2
    try simp only [bs] at c2
    refine awp_exit ?_
    refine awp_run_seq [2] [] [] ⟨21, [(2, .one (.bool true))], []⟩ hT (by kernel_rfl) trivial ?_
    refine awp_ret ?_
    refine kRet.ret _ [] [] (.one (.bool true)) [] (by kernel_rfl) trivial ?_
    exact ⟨rfl, rfl⟩

end Go.Ab
