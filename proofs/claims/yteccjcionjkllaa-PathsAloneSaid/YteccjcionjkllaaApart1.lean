/- Of ways that have no arc in common: the test. -/
import Derived.Test.YteccjcionjkllaaTab
import Derived.Test.YteccjcionjkllaaPlSplit
import Derived.Test.YteccjcionjkllaaCompact1
import Derived.Test.YteccjcionjkllaaSort1
import Derived.Test.YteccjcionjkllaaFun1
import Derived.Test.YteccjcionjkllaaF2
import Derived.Test.YteccjcionjkllaaWalk4
import Derived.Test.YteccjcionjkllaaPlSplit2
import Derived.Test.YteccjcionjkllaaSplit2
import Derived.Test.YteccjcionjkllaaCut1
import Derived.Test.YteccjcionjkllaaMost2
import Derived.Test.YteccjcionjkllaaPlPaths
import Derived.Test.YteccjcionjkllaaG1
set_option maxRecDepth 100000
namespace Go.Ab
open Go Go.Proofs
theorem law_apart (n s t : Int) (es : List Arc) (W : List (List Int)) (hA : Apart es s t W) (hle : es.length ≤ 60) : ACall Try.prog 43 [.agg [(.int .i64 n), (.int .i64 s), (.int .i64 t), (.ro (.arcs es))], .one (.rs (.rows W))] [] (fun ov oh => ov = .one (.bool true) ∧ oh = []) := by
  refine acall_intro hT Try.func43 rfl (by kernel_rfl) rfl (by kernel_rfl) ?_
  refine awp_len1 1 0 (.rows W) (by kernel_rfl) (fun hlW => ?_)
  simp only [C1.len, maxLen] at hlW
  have hfl := hA.few
  refine awp_run_seq [1, 2] [102] [] ⟨37, [(1, .one (.rs (.rows W))), (2, .one (.ptr 102 0 0))], [(102, .box 1 4 [(.int .i64 n), (.int .i64 s), (.int .i64 t), (.ro (.arcs es))])]⟩ hT (by kernel_rfl) trivial ?_
  refine awp_run_seq [1, 2, 5] [102] [] ⟨37, [(1, .one (.rs (.rows W))), (2, .one (.ptr 102 0 0)), (5, .one .nils)], [(102, .box 1 4 [(.int .i64 n), (.int .i64 s), (.int .i64 t), (.ro (.arcs es))])]⟩ hT (by kernel_rfl) trivial ?_
  refine awp_seq ?_
  refine awp_run_seq [2, 5, 9, 10, 11] [102] [] ⟨37, [(2, .one (.ptr 102 0 0)), (5, .one .nils), (9, .one (.rs (.rows W))), (10, .one (.int .i64 ((W.length : Nat) : Int))), (11, .one (.int .i64 0))], [(102, .box 1 4 [(.int .i64 n), (.int .i64 s), (.int .i64 t), (.ro (.arcs es))])]⟩ hT (by kernel_rfl) trivial ?_
  refine awp_block ?_
  refine awp_weak (awk_empty 5005 (.flat (.ints .i64 [])) rfl (by decide) _) ?_
  refine awp_weak (awk_slot 5 (.one .nils) (.one (.rw 5005 0 0)) _ (by kernel_rfl) (.one (wkv_nils (o := .flat (.ints .i64 [])) (by kernel_rfl)))) ?_
  refine awp_loop (I := fun κ σ => ∃ (i : Nat) (o : List Int), ((i ≤ W.length) ∧ (o = (W.take i).flatten) ∧ W.length - i = κ) ∧ σ = ⟨37, [(2, .one (.ptr 102 0 0)), (5, .one (.rw 5005 0 o.length)), (9, .one (.rs (.rows W))), (10, .one (.int .i64 ((W.length : Nat) : Int))), (11, .one (.int .i64 (i : Int)))], [(102, .box 1 4 [(.int .i64 n), (.int .i64 s), (.int .i64 t), (.ro (.arcs es))]), (5005, .flat (.ints .i64 o))]⟩) _ ⟨0, [], ⟨(by omega), (by rfl), rfl⟩, (by kernel_rfl)⟩ ?_
  rintro κ _ ⟨i, o, ⟨hi, ho, rfl⟩, rfl⟩
  have hfi := flat_le W i
  have hol := congrArg List.length ho
  refine awp_run_seq [2, 5, 9, 10, 11, 12] [102, 5005] [] ⟨37, [(2, .one (.ptr 102 0 0)), (5, .one (.rw 5005 0 o.length)), (9, .one (.rs (.rows W))), (10, .one (.int .i64 ((W.length : Nat) : Int))), (11, .one (.int .i64 (i : Int))), (12, .one (.bool (decide ((i : Int) < ((W.length : Nat) : Int)))))], [(102, .box 1 4 [(.int .i64 n), (.int .i64 s), (.int .i64 t), (.ro (.arcs es))]), (5005, .flat (.ints .i64 o))]⟩ hT (by kernel_rfl) trivial ?_
  refine awp_seq ?_
  refine awp_cond (b := (decide ((i : Int) < ((W.length : Nat) : Int)))) (by kernel_rfl) (fun c3 => ?_) (fun c3 => ?_)
  ·
    try simp only [bs] at c3
    have hil : i < W.length := by omega
    have hst := flat_step W i hil
    have hfn := flat_le W (i + 1)
    have hsl2 := congrArg List.length hst
    simp only [List.length_append] at hsl2
    have hwy := hA.way _ (getD_mem (d := []) hil)
    refine awp_skip ?_
    refine awp_seq ?_
    refine awp_block ?_
    refine awp_run_seq [2, 5, 7, 9, 10, 11] [102, 5005] [((0 : Int) ≤ (i : Int)), ((i : Int) < ((W.length : Nat) : Int))] ⟨37, [(2, .one (.ptr 102 0 0)), (5, .one (.rw 5005 0 o.length)), (7, .one (.ro (.ints .i64 (List.getD W i [])))), (9, .one (.rs (.rows W))), (10, .one (.int .i64 ((W.length : Nat) : Int))), (11, .one (.int .i64 (i : Int)))], [(102, .box 1 4 [(.int .i64 n), (.int .i64 s), (.int .i64 t), (.ro (.arcs es))]), (5005, .flat (.ints .i64 o))]⟩ hT (by kernel_rfl) ⟨(by omega), (by omega), trivial⟩ ?_
    refine awp_seq ?_
    refine awp_seq (awp_region ?_)
    refine aops_run 7 [2, 5, 7, 9, 10, 11, 16, 17, 19, 21] [102, 5005] [(0 < 1), (0 < 1), (0 < 1)] ⟨37, [(2, .one (.ptr 102 0 0)), (5, .one (.rw 5005 0 o.length)), (7, .one (.ro (.ints .i64 (List.getD W i [])))), (9, .one (.rs (.rows W))), (10, .one (.int .i64 ((W.length : Nat) : Int))), (11, .one (.int .i64 (i : Int))), (16, .one (.ro (.arcs es))), (17, .one (.ro (.ints .i64 (List.getD W i [])))), (19, .one (.int .i64 s)), (21, .one (.int .i64 t))], [(102, .box 1 4 [(.int .i64 n), (.int .i64 s), (.int .i64 t), (.ro (.arcs es))]), (5005, .flat (.ints .i64 o))]⟩ hT (by kernel_rfl) (by kernel_rfl) ⟨(by decide), (by decide), (by decide), trivial⟩ ?_
    refine aops_pure false ⟨true, [], 94, [.one (.ro (.arcs es)), .one (.ro (.ints .i64 (List.getD W i []))), .one (.int .i64 s), .one (.int .i64 t)], []⟩ [.one (.ro (.arcs es)), .one (.ro (.ints .i64 (List.getD W i []))), .one (.int .i64 s), .one (.int .i64 t)] (.one (.bool (isWay es (List.getD W i []) s t))) ⟨37, [(2, .one (.ptr 102 0 0)), (5, .one (.rw 5005 0 o.length)), (7, .one (.ro (.ints .i64 (List.getD W i [])))), (9, .one (.rs (.rows W))), (10, .one (.int .i64 ((W.length : Nat) : Int))), (11, .one (.int .i64 (i : Int))), (16, .one (.ro (.arcs es))), (17, .one (.ro (.ints .i64 (List.getD W i [])))), (19, .one (.int .i64 s)), (21, .one (.int .i64 t)), (22, .one (.bool (isWay es (List.getD W i []) s t)))], [(102, .box 1 4 [(.int .i64 n), (.int .i64 s), (.int .i64 t), (.ro (.arcs es))]), (5005, .flat (.ints .i64 o))]⟩ (by kernel_rfl) (by kernel_rfl) (fun _ => trivial) rfl (fun _ => ref_isWay es (List.getD W i []) s t) ?_
    refine aops_run 1 [2, 5, 7, 9, 10, 11, 23] [102, 5005] [] ⟨37, [(2, .one (.ptr 102 0 0)), (5, .one (.rw 5005 0 o.length)), (7, .one (.ro (.ints .i64 (List.getD W i [])))), (9, .one (.rs (.rows W))), (10, .one (.int .i64 ((W.length : Nat) : Int))), (11, .one (.int .i64 (i : Int))), (23, .one (.bool (!(isWay es (List.getD W i []) s t))))], [(102, .box 1 4 [(.int .i64 n), (.int .i64 s), (.int .i64 t), (.ro (.arcs es))]), (5005, .flat (.ints .i64 o))]⟩ hT (by kernel_rfl) (by kernel_rfl) trivial ?_
    refine aops_end_seq (by kernel_rfl) ?_
    refine awp_cond (b := (!(isWay es (List.getD W i []) s t))) (by kernel_rfl) (fun c5 => ?_) (fun c5 => ?_)
    ·
      try simp only [bs] at c5
      exfalso; rw [hwy] at c5; cases c5
    ·
      try simp only [bs] at c5
      refine awp_skip ?_
      refine awp_run [2, 5, 9, 10, 11] [102, 5005] [(o.length = o.length), ((o.length + (List.length (List.getD W i []))) * 8 ≤ 140737488355328), ((o.length + (List.length (List.getD W i []))) ≤ 9223372036854775807)] ⟨37, [(2, .one (.ptr 102 0 0)), (5, .one (.rw 5005 0 (o.length + (List.length (List.getD W i []))))), (9, .one (.rs (.rows W))), (10, .one (.int .i64 ((W.length : Nat) : Int))), (11, .one (.int .i64 (i : Int)))], [(102, .box 1 4 [(.int .i64 n), (.int .i64 s), (.int .i64 t), (.ro (.arcs es))]), (5005, .flat (.ints .i64 (o ++ (List.getD W i []))))]⟩ hT (by kernel_rfl) ⟨(by omega), (by omega), (by omega), trivial⟩ ?_
      refine awp_run [2, 5, 9, 10, 11] [102, 5005] [(-9223372036854775808 ≤ (((i + 1) : Nat) : Int) ∧ (((i + 1) : Nat) : Int) ≤ 9223372036854775807)] ⟨37, [(2, .one (.ptr 102 0 0)), (5, .one (.rw 5005 0 (o.length + (List.length (List.getD W i []))))), (9, .one (.rs (.rows W))), (10, .one (.int .i64 ((W.length : Nat) : Int))), (11, .one (.int .i64 (((i + 1) : Nat) : Int)))], [(102, .box 1 4 [(.int .i64 n), (.int .i64 s), (.int .i64 t), (.ro (.arcs es))]), (5005, .flat (.ints .i64 (o ++ (List.getD W i []))))]⟩ hT (by kernel_rfl) ⟨(by omega), trivial⟩ ?_
      refine loop_end _ ?_ ⟨(i + 1), (o ++ (List.getD W i [])), ⟨(by omega), (by rw [hst, ho]), rfl⟩, (by first | (simp only [lens]; done) | (simp only [Nat.zero_add]; done) | simp only [lens, Nat.zero_add])⟩
      omega
  ·
    try simp only [bs] at c3
    refine awp_exit ?_
    refine awp_run_seq [5, 8] [5005] [] ⟨37, [(5, .one (.rw 5005 0 o.length)), (8, .one (.int .i64 ((o.length : Nat) : Int)))], [(5005, .flat (.ints .i64 o))]⟩ hT (by kernel_rfl) trivial ?_
    refine awp_seq (awp_region ?_)
    refine aops_run 1 [5, 8, 30] [5005] [] ⟨37, [(5, .one (.rw 5005 0 o.length)), (8, .one (.int .i64 ((o.length : Nat) : Int))), (30, .one (.rw 5005 0 o.length))], [(5005, .flat (.ints .i64 o))]⟩ hT (by kernel_rfl) (by kernel_rfl) trivial ?_
    refine aops_call [(1, 5005)] [] false ⟨true, [], 93, [.one (.rw 1 0 o.length)], [(1, .flat (.ints .i64 o))]⟩ [.one (.rw 1 0 o.length)] (sm := ⟨37, [(5, .one (.rw 5005 0 o.length)), (8, .one (.int .i64 ((o.length : Nat) : Int))), (30, .one (.rw 5005 0 o.length)), (31, .whn false (.one .any))], [(5005, .flat (.ints .i64 o))]⟩) (by kernel_rfl) (by kernel_rfl) (by decide) (fun _ => trivial) rfl (fun _ => sort_is 1 o (by first | omega | (simp; omega))) (fun _ v Hr hv => ?_) (fun h => by cases h)
    obtain ⟨rfl, rfl⟩ := hv
    refine ⟨⟨37, [(5, .one (.rw 5005 0 o.length)), (8, .one (.int .i64 ((o.length : Nat) : Int))), (30, .one (.rw 5005 0 o.length)), (31, .tup [])], [(5005, .flat (.ints .i64 (sorted o)))]⟩, by kernel_rfl, ?_⟩
    refine aops_cut [5, 8] [5005] ⟨37, [(5, .one (.rw 5005 0 o.length)), (8, .one (.int .i64 ((o.length : Nat) : Int)))], [(5005, .flat (.ints .i64 (sorted o)))]⟩ (by kernel_rfl) ?_
    refine aops_end_seq (by kernel_rfl) ?_
    have hnd : o.Nodup := by rw [ho, List.take_of_length_le (by omega)]; exact hA.nd
    have hsl := sorted_len o
    have hcs := sorted_strict hnd
    refine awp_weak (awk_seal 5005 (s' := ⟨37, [(5, .one (.ro (.ints .i64 (List.take o.length (sorted o))))), (8, .one (.int .i64 ((o.length : Nat) : Int)))], []⟩) (by kernel_rfl)) ?_
    rw [show (List.take o.length (sorted o)) = (sorted o) from List.take_of_length_le (by first | omega | simp)]
    refine awp_seq (awp_region ?_)
    refine aops_run 1 [8, 32] [] [] ⟨37, [(8, .one (.int .i64 ((o.length : Nat) : Int))), (32, .one (.ro (.ints .i64 (sorted o))))], []⟩ hT (by kernel_rfl) (by kernel_rfl) trivial ?_
    refine aops_pure false ⟨true, [], 45, [.one (.ro (.ints .i64 (sorted o)))], []⟩ [.one (.ro (.ints .i64 (sorted o)))] (.one (.ro (.ints .i64 (sorted o)))) ⟨37, [(8, .one (.int .i64 ((o.length : Nat) : Int))), (32, .one (.ro (.ints .i64 (sorted o)))), (33, .one (.ro (.ints .i64 (sorted o))))], []⟩ (by kernel_rfl) (by kernel_rfl) (fun _ => trivial) rfl (fun _ => compact_ints (sorted o) hcs (by first | omega | (simp only [sorted_len]; omega))) ?_
    refine aops_run 4 [4] [] [] ⟨37, [(4, .one (.bool (decide ((((List.length (sorted o)) : Nat) : Int) = ((o.length : Nat) : Int)))))], []⟩ hT (by kernel_rfl) (by kernel_rfl) trivial ?_
    refine aops_end_seq (by kernel_rfl) ?_
    refine awp_ret ?_
    refine kRet.ret _ [] [] (.one (.bool (decide ((((List.length (sorted o)) : Nat) : Int) = ((o.length : Nat) : Int))))) [] (by kernel_rfl) trivial ?_
    exact ⟨congrArg (fun x1 => (.one (.bool x1) : AV)) (show (decide ((((List.length (sorted o)) : Nat) : Int) = ((o.length : Nat) : Int))) = true from by simp [sorted_len]), rfl⟩
end Go.Ab
