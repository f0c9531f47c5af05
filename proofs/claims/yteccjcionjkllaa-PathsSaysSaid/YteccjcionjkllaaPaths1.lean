/- Of ways that have no arc in common. -/
import Derived.Test.YteccjcionjkllaaTab
import Derived.Test.YteccjcionjkllaaSplit2
import Derived.Test.YteccjcionjkllaaCut1
import Derived.Test.YteccjcionjkllaaMost2
import Derived.Test.YteccjcionjkllaaF2
import Derived.Test.YteccjcionjkllaaPlPaths
set_option maxRecDepth 100000
namespace Go.Ab
open Go Go.Proofs
theorem paths_units (n s t : Int) (es : List Arc) (hle : es.length ≤ 60) : ACall Try.prog 66 [.agg [(.int .i64 n), (.int .i64 s), (.int .i64 t), (.ro (.arcs es))]] [] (fun ov oh => ov = .agg [(.int .i64 n), (.int .i64 s), (.int .i64 t), (.ro (.arcs (units es)))] ∧ oh = []) := by
  refine acall_intro hT Try.func66 rfl (by kernel_rfl) rfl (by kernel_rfl) ?_
  refine awp_run_seq [1, 2] [101, 102] [] ⟨32, [(1, .one (.ptr 101 0 0)), (2, .one (.ptr 102 0 0))], [(101, .box 1 4 [(.int .i64 n), (.int .i64 s), (.int .i64 t), (.ro (.arcs es))]), (102, .box 1 4 [(.int .i64 0), (.int .i64 0), (.int .i64 0), .nils])]⟩ hT (by kernel_rfl) trivial ?_
  refine awp_run_seq [1, 2, 3] [101, 102, 103] [(0 < 1), (0 < 1), (0 < 1), (0 < 1)] ⟨32, [(1, .one (.ptr 101 0 0)), (2, .one (.ptr 102 0 0)), (3, .one (.ptr 103 0 0))], [(101, .box 1 4 [(.int .i64 n), (.int .i64 s), (.int .i64 t), (.ro (.arcs es))]), (102, .box 1 4 [(.int .i64 0), (.int .i64 0), (.int .i64 0), .nils]), (103, .box 1 4 [(.int .i64 n), (.int .i64 s), (.int .i64 t), .nils])]⟩ hT (by kernel_rfl) ⟨(by decide), (by decide), (by decide), (by decide), trivial⟩ ?_
  refine awp_seq ?_
  refine awp_run_seq [2, 3, 14, 15, 16] [102, 103] [(0 < 1)] ⟨32, [(2, .one (.ptr 102 0 0)), (3, .one (.ptr 103 0 0)), (14, .one (.ro (.arcs es))), (15, .one (.int .i64 ((es.length : Nat) : Int))), (16, .one (.int .i64 0))], [(102, .box 1 4 [(.int .i64 0), (.int .i64 0), (.int .i64 0), .nils]), (103, .box 1 4 [(.int .i64 n), (.int .i64 s), (.int .i64 t), .nils])]⟩ hT (by kernel_rfl) ⟨(by decide), trivial⟩ ?_
  refine awp_block ?_
  refine awp_weak (awk_empty 6303 (.flat (.arcs [])) rfl (by decide) _) ?_
  refine awp_weak (awk_boxcell 103 3 1 4 [(.int .i64 n), (.int .i64 s), (.int .i64 t), .nils] .nils (.rw 6303 0 0) _ (by kernel_rfl) rfl (wkv_nils (o := .flat (.arcs [])) (by kernel_rfl))) ?_
  refine awp_loop (I := fun κ σ => ∃ (i : Nat) (b : List Arc), ((i ≤ es.length) ∧ (b = units (es.take i)) ∧ es.length - i = κ) ∧ σ = ⟨32, [(2, .one (.ptr 102 0 0)), (3, .one (.ptr 103 0 0)), (14, .one (.ro (.arcs es))), (15, .one (.int .i64 ((es.length : Nat) : Int))), (16, .one (.int .i64 ((i : Nat) : Int)))], [(102, .box 1 4 [(.int .i64 0), (.int .i64 0), (.int .i64 0), .nils]), (103, .box 1 4 [(.int .i64 n), (.int .i64 s), (.int .i64 t), (.rw 6303 0 b.length)]), (6303, .flat (.arcs b))]⟩) _ ⟨0, [], ⟨(by omega), (by rfl), rfl⟩, (by kernel_rfl)⟩ ?_
  rintro κ _ ⟨i, b, ⟨hi, hb, rfl⟩, rfl⟩
  have hbl : b.length = i := by rw [hb, units_len]; simp; omega
  refine awp_run_seq [2, 3, 14, 15, 16, 17] [102, 103, 6303] [] ⟨32, [(2, .one (.ptr 102 0 0)), (3, .one (.ptr 103 0 0)), (14, .one (.ro (.arcs es))), (15, .one (.int .i64 ((es.length : Nat) : Int))), (16, .one (.int .i64 ((i : Nat) : Int))), (17, .one (.bool (decide (((i : Nat) : Int) < ((es.length : Nat) : Int)))))], [(102, .box 1 4 [(.int .i64 0), (.int .i64 0), (.int .i64 0), .nils]), (103, .box 1 4 [(.int .i64 n), (.int .i64 s), (.int .i64 t), (.rw 6303 0 b.length)]), (6303, .flat (.arcs b))]⟩ hT (by kernel_rfl) trivial ?_
  refine awp_seq ?_
  refine awp_cond (b := (decide (((i : Nat) : Int) < ((es.length : Nat) : Int)))) (by kernel_rfl) (fun c3 => ?_) (fun c3 => ?_)
  · -- yes 3
    try simp only [bs] at c3
    refine awp_skip ?_
    refine awp_seq ?_
    refine awp_block ?_
    refine awp_run_seq [2, 3, 5, 14, 15, 16] [102, 103, 105, 6303] [((0 : Int) ≤ ((i : Nat) : Int)), (((i : Nat) : Int) < ((es.length : Nat) : Int)), (0 < 1)] ⟨32, [(2, .one (.ptr 102 0 0)), (3, .one (.ptr 103 0 0)), (5, .one (.ptr 105 0 0)), (14, .one (.ro (.arcs es))), (15, .one (.int .i64 ((es.length : Nat) : Int))), (16, .one (.int .i64 ((i : Nat) : Int)))], [(102, .box 1 4 [(.int .i64 0), (.int .i64 0), (.int .i64 0), .nils]), (103, .box 1 4 [(.int .i64 n), (.int .i64 s), (.int .i64 t), (.rw 6303 0 b.length)]), (105, .box 1 3 [(.int .i64 ((List.getD es i default).src)), (.int .i64 ((List.getD es i default).dst)), (.int .i64 ((List.getD es i default).cap))]), (6303, .flat (.arcs b))]⟩ hT (by kernel_rfl) ⟨(by first | omega | (simp only [lens]; omega) | (simp only [Bool.cond_decide]; omega) | (simp only [nadd_eq]; omega)), (by first | omega | (simp only [lens]; omega) | (simp only [Bool.cond_decide]; omega) | (simp only [nadd_eq]; omega)), (by decide), trivial⟩ ?_
    refine awp_region ?_
    refine aops_run 11 [2, 3, 14, 15, 16] [102, 103, 6303] [(0 < 1), (0 < 1), (0 < 1), (b.length = b.length), ((b.length + 1) * 24 ≤ 140737488355328), ((b.length + 1) ≤ 9223372036854775807), (0 < 1)] ⟨32, [(2, .one (.ptr 102 0 0)), (3, .one (.ptr 103 0 0)), (14, .one (.ro (.arcs es))), (15, .one (.int .i64 ((es.length : Nat) : Int))), (16, .one (.int .i64 ((i : Nat) : Int)))], [(102, .box 1 4 [(.int .i64 0), (.int .i64 0), (.int .i64 0), .nils]), (103, .box 1 4 [(.int .i64 n), (.int .i64 s), (.int .i64 t), (.rw 6303 0 (b.length + 1))]), (6303, .flat (.arcs (b ++ [⟨((List.getD es i default).src), ((List.getD es i default).dst), 1⟩])))]⟩ hT (by kernel_rfl) (by kernel_rfl) ⟨(by decide), (by decide), (by decide), (by first | omega | (simp only [lens]; omega) | (simp only [Bool.cond_decide]; omega) | (simp only [nadd_eq]; omega)), (by first | omega | (simp only [lens]; omega) | (simp only [Bool.cond_decide]; omega) | (simp only [nadd_eq]; omega)), (by first | omega | (simp only [lens]; omega) | (simp only [Bool.cond_decide]; omega) | (simp only [nadd_eq]; omega)), (by decide), trivial⟩ ?_
    refine aops_end (by kernel_rfl) ?_
    refine awp_run [2, 3, 14, 15, 16] [102, 103, 6303] [(-9223372036854775808 ≤ (((i + 1) : Nat) : Int) ∧ (((i + 1) : Nat) : Int) ≤ 9223372036854775807)] ⟨32, [(2, .one (.ptr 102 0 0)), (3, .one (.ptr 103 0 0)), (14, .one (.ro (.arcs es))), (15, .one (.int .i64 ((es.length : Nat) : Int))), (16, .one (.int .i64 (((i + 1) : Nat) : Int)))], [(102, .box 1 4 [(.int .i64 0), (.int .i64 0), (.int .i64 0), .nils]), (103, .box 1 4 [(.int .i64 n), (.int .i64 s), (.int .i64 t), (.rw 6303 0 (b.length + 1))]), (6303, .flat (.arcs (b ++ [⟨((List.getD es i default).src), ((List.getD es i default).dst), 1⟩])))]⟩ hT (by kernel_rfl) ⟨(by first | omega | (simp only [lens]; omega) | (simp only [Bool.cond_decide]; omega) | (simp only [nadd_eq]; omega)), trivial⟩ ?_
    refine loop_end _ ?_ ⟨(i + 1), (b ++ [⟨((List.getD es i default).src), ((List.getD es i default).dst), 1⟩]), ⟨(by omega), (by rw [hb, take_getD es default i (by omega), units, units, List.map_append]; rfl), rfl⟩, (by first | (simp only [lens]; done) | (simp only [Nat.zero_add]; done) | simp only [lens, Nat.zero_add])⟩
    omega
  · -- no 3
    try simp only [bs] at c3
    have hfin : b = units es := by rw [hb, List.take_of_length_le (by omega)]
    refine awp_exit ?_
    refine awp_weak (awk_seal 6303 (s' := ⟨32, [(2, .one (.ptr 102 0 0)), (3, .one (.ptr 103 0 0)), (14, .one (.ro (.arcs es))), (15, .one (.int .i64 ((es.length : Nat) : Int))), (16, .one (.int .i64 ((i : Nat) : Int))), (17, .one (.bool (decide (((i : Nat) : Int) < ((es.length : Nat) : Int)))))], [(102, .box 1 4 [(.int .i64 0), (.int .i64 0), (.int .i64 0), .nils]), (103, .box 1 4 [(.int .i64 n), (.int .i64 s), (.int .i64 t), (.ro (.arcs (List.take b.length b)))])]⟩) (by kernel_rfl)) ?_
    rw [show (List.take b.length b) = b from List.take_of_length_le (by first | omega | simp)]
    refine awp_run_seq [2] [102] [(0 < 1), (0 < 1)] ⟨32, [(2, .one (.ptr 102 0 0))], [(102, .box 1 4 [(.int .i64 n), (.int .i64 s), (.int .i64 t), (.ro (.arcs b))])]⟩ hT (by kernel_rfl) ⟨(by decide), (by decide), trivial⟩ ?_
    refine awp_ret ?_
    refine kRet.ret _ [] [(0 < 1)] (.agg [(.int .i64 n), (.int .i64 s), (.int .i64 t), (.ro (.arcs b))]) [] (by kernel_rfl) ⟨(by decide), trivial⟩ ?_
    exact ⟨congrArg (fun x1 => (.agg [(.int .i64 n), (.int .i64 s), (.int .i64 t), (.ro (.arcs x1))] : AV)) (show b = (units es) from by exact hfin), rfl⟩

theorem ref_units (n s t : Int) (es : List Arc) (hle : es.length ≤ 60) : ACall Try.prog 42 [.agg [(.int .i64 n), (.int .i64 s), (.int .i64 t), (.ro (.arcs es))]] [] (fun ov oh => ov = .agg [(.int .i64 n), (.int .i64 s), (.int .i64 t), (.ro (.arcs (units es)))] ∧ oh = []) := by
  refine acall_intro hT Try.func42 rfl (by kernel_rfl) rfl (by kernel_rfl) ?_
  refine awp_run_seq [1, 2] [101, 102] [] ⟨28, [(1, .one (.ptr 101 0 0)), (2, .one (.ptr 102 0 0))], [(101, .box 1 4 [(.int .i64 n), (.int .i64 s), (.int .i64 t), (.ro (.arcs es))]), (102, .box 1 4 [(.int .i64 0), (.int .i64 0), (.int .i64 0), .nils])]⟩ hT (by kernel_rfl) trivial ?_
  -- 11 of 12 operations in any order; 1 orders of the rest
  refine awp_seq (awp_calm2 [(8, ⟨[.one (.ro (.arcs es))], .one (.rw 9001 0 es.length), [(9001, .flat (.arcs es))], [(9001, 113)]⟩)] false [[], [0], [], [2], [], [4], [], [6], [6, 7], [0, 1, 2, 3, 4, 5, 6, 7, 8], [], [0, 1, 2, 3, 4, 5, 6, 7, 8, 9, 10]] 11 [2, 3] [102, 103, 113] [(0, []), (1, [(0 < 1)]), (2, []), (3, [(0 < 1)]), (4, []), (5, [(0 < 1)]), (6, []), (7, [(0 < 1)]), (8, [(AllP [] ∧ [.one (.ro (.arcs es))] = ([.one (.ro (.arcs es))] : List AV) ∧ ACall Try.prog 27 [.one (.ro (.arcs es))] [] (fun ov oh => ov = .one (.rw 9001 0 es.length) ∧ oh = [(9001, .flat (.arcs es))]))]), (9, []), (10, [])] [(11, [(0 < 1)])] 1 ⟨28, [(2, .one (.ptr 102 0 0)), (3, .one (.ptr 103 0 0))], [(102, .box 1 4 [(.int .i64 0), (.int .i64 0), (.int .i64 0), .nils]), (103, .box 1 4 [(.int .i64 n), (.int .i64 s), (.int .i64 t), (.rw 113 0 es.length)]), (113, .flat (.arcs es))]⟩ (by kernel_rfl) (by kernel_rfl) hT (by kernel_rfl) (by kernel_rfl) ⟨trivial, ⟨(by decide), trivial⟩, trivial, ⟨(by decide), trivial⟩, trivial, ⟨(by decide), trivial⟩, trivial, ⟨(by decide), trivial⟩, ⟨⟨trivial, rfl, clone_arcs es (by first | omega | (simp; omega))⟩, trivial⟩, trivial, trivial, trivial⟩ ⟨⟨(by decide), trivial⟩, trivial⟩ ?_)
  refine awp_seq ?_
  refine awp_run_seq [2, 3, 17, 18] [102, 103, 113] [(0 < 1)] ⟨28, [(2, .one (.ptr 102 0 0)), (3, .one (.ptr 103 0 0)), (17, .one (.int .i64 ((es.length : Nat) : Int))), (18, .one (.int .i64 0))], [(102, .box 1 4 [(.int .i64 0), (.int .i64 0), (.int .i64 0), .nils]), (103, .box 1 4 [(.int .i64 n), (.int .i64 s), (.int .i64 t), (.rw 113 0 es.length)]), (113, .flat (.arcs es))]⟩ hT (by kernel_rfl) ⟨(by decide), trivial⟩ ?_
  refine awp_block ?_
  refine awp_loop (I := fun κ σ => ∃ (k : Nat) (b : List Arc), ((k ≤ es.length) ∧ (b = (es.take k).map unitA ++ es.drop k) ∧ es.length - k = κ) ∧ σ = ⟨28, [(2, .one (.ptr 102 0 0)), (3, .one (.ptr 103 0 0)), (17, .one (.int .i64 ((es.length : Nat) : Int))), (18, .one (.int .i64 ((k : Nat) : Int)))], [(102, .box 1 4 [(.int .i64 0), (.int .i64 0), (.int .i64 0), .nils]), (103, .box 1 4 [(.int .i64 n), (.int .i64 s), (.int .i64 t), (.rw 113 0 es.length)]), (113, .flat (.arcs b))]⟩) _ ⟨0, es, ⟨(by omega), (by simp), rfl⟩, (by kernel_rfl)⟩ ?_
  rintro κ _ ⟨k, b, ⟨hk, hb, rfl⟩, rfl⟩
  have hbl : b.length = es.length := by rw [hb]; simp; omega
  refine awp_run_seq [2, 3, 17, 18, 19] [102, 103, 113] [] ⟨28, [(2, .one (.ptr 102 0 0)), (3, .one (.ptr 103 0 0)), (17, .one (.int .i64 ((es.length : Nat) : Int))), (18, .one (.int .i64 ((k : Nat) : Int))), (19, .one (.bool (decide (((k : Nat) : Int) < ((es.length : Nat) : Int)))))], [(102, .box 1 4 [(.int .i64 0), (.int .i64 0), (.int .i64 0), .nils]), (103, .box 1 4 [(.int .i64 n), (.int .i64 s), (.int .i64 t), (.rw 113 0 es.length)]), (113, .flat (.arcs b))]⟩ hT (by kernel_rfl) trivial ?_
  refine awp_seq ?_
  refine awp_cond (b := (decide (((k : Nat) : Int) < ((es.length : Nat) : Int)))) (by kernel_rfl) (fun c3 => ?_) (fun c3 => ?_)
  · -- yes 3
    try simp only [bs] at c3
    have hg : b.getD k default = es.getD k default := by rw [hb]; exact mid_get unitA es default k (by omega)
    refine awp_skip ?_
    refine awp_seq ?_
    refine awp_block ?_
    refine awp_run_seq [2, 3, 4, 17, 18] [102, 103, 113] [] ⟨28, [(2, .one (.ptr 102 0 0)), (3, .one (.ptr 103 0 0)), (4, .one (.int .i64 ((k : Nat) : Int))), (17, .one (.int .i64 ((es.length : Nat) : Int))), (18, .one (.int .i64 ((k : Nat) : Int)))], [(102, .box 1 4 [(.int .i64 0), (.int .i64 0), (.int .i64 0), .nils]), (103, .box 1 4 [(.int .i64 n), (.int .i64 s), (.int .i64 t), (.rw 113 0 es.length)]), (113, .flat (.arcs b))]⟩ hT (by kernel_rfl) trivial ?_
    refine awp_run [2, 3, 17, 18] [102, 103, 113] [(0 < 1), ((0 : Int) ≤ ((k : Nat) : Int)), (((k : Nat) : Int) < ((es.length : Nat) : Int)), (k < b.length)] ⟨28, [(2, .one (.ptr 102 0 0)), (3, .one (.ptr 103 0 0)), (17, .one (.int .i64 ((es.length : Nat) : Int))), (18, .one (.int .i64 ((k : Nat) : Int)))], [(102, .box 1 4 [(.int .i64 0), (.int .i64 0), (.int .i64 0), .nils]), (103, .box 1 4 [(.int .i64 n), (.int .i64 s), (.int .i64 t), (.rw 113 0 es.length)]), (113, .flat (.arcs (List.set b k (⟨((List.getD b k default).src), ((List.getD b k default).dst), 1⟩))))]⟩ hT (by kernel_rfl) ⟨(by decide), (by first | omega | (simp only [lens]; omega) | (simp only [Bool.cond_decide]; omega) | (simp only [nadd_eq]; omega)), (by first | omega | (simp only [lens]; omega) | (simp only [Bool.cond_decide]; omega) | (simp only [nadd_eq]; omega)), (by first | omega | (simp only [lens]; omega) | (simp only [Bool.cond_decide]; omega) | (simp only [nadd_eq]; omega)), trivial⟩ ?_
    refine awp_run [2, 3, 17, 18] [102, 103, 113] [(-9223372036854775808 ≤ (((k + 1) : Nat) : Int) ∧ (((k + 1) : Nat) : Int) ≤ 9223372036854775807)] ⟨28, [(2, .one (.ptr 102 0 0)), (3, .one (.ptr 103 0 0)), (17, .one (.int .i64 ((es.length : Nat) : Int))), (18, .one (.int .i64 (((k + 1) : Nat) : Int)))], [(102, .box 1 4 [(.int .i64 0), (.int .i64 0), (.int .i64 0), .nils]), (103, .box 1 4 [(.int .i64 n), (.int .i64 s), (.int .i64 t), (.rw 113 0 es.length)]), (113, .flat (.arcs (List.set b k (⟨((List.getD b k default).src), ((List.getD b k default).dst), 1⟩))))]⟩ hT (by kernel_rfl) ⟨(by first | omega | (simp only [lens]; omega) | (simp only [Bool.cond_decide]; omega) | (simp only [nadd_eq]; omega)), trivial⟩ ?_
    refine loop_end _ ?_ ⟨(k + 1), (List.set b k (⟨((List.getD b k default).src), ((List.getD b k default).dst), 1⟩)), ⟨(by omega), (by rw [hg, hb]; exact mid_set unitA es default k (by omega)), rfl⟩, (by kernel_rfl)⟩
    omega
  · -- no 3
    try simp only [bs] at c3
    have hfin : b = units es := by rw [hb, List.take_of_length_le (by omega), List.drop_of_length_le (by omega), List.append_nil]; rfl
    refine awp_exit ?_
    refine awp_weak (awk_seal 113 (s' := ⟨28, [(2, .one (.ptr 102 0 0)), (3, .one (.ptr 103 0 0)), (17, .one (.int .i64 ((es.length : Nat) : Int))), (18, .one (.int .i64 ((k : Nat) : Int))), (19, .one (.bool (decide (((k : Nat) : Int) < ((es.length : Nat) : Int)))))], [(102, .box 1 4 [(.int .i64 0), (.int .i64 0), (.int .i64 0), .nils]), (103, .box 1 4 [(.int .i64 n), (.int .i64 s), (.int .i64 t), (.ro (.arcs (List.take es.length b)))])]⟩) (by kernel_rfl)) ?_
    rw [show (List.take es.length b) = b from List.take_of_length_le (by first | omega | simp)]
    refine awp_run_seq [2] [102] [(0 < 1), (0 < 1)] ⟨28, [(2, .one (.ptr 102 0 0))], [(102, .box 1 4 [(.int .i64 n), (.int .i64 s), (.int .i64 t), (.ro (.arcs b))])]⟩ hT (by kernel_rfl) ⟨(by decide), (by decide), trivial⟩ ?_
    refine awp_ret ?_
    refine kRet.ret _ [] [(0 < 1)] (.agg [(.int .i64 n), (.int .i64 s), (.int .i64 t), (.ro (.arcs b))]) [] (by kernel_rfl) ⟨(by decide), trivial⟩ ?_
    exact ⟨congrArg (fun x1 => (.agg [(.int .i64 n), (.int .i64 s), (.int .i64 t), (.ro (.arcs x1))] : AV)) (show b = (units es) from by exact hfin), rfl⟩

theorem paths_apart (n s t : Int) (es : List Arc) : ACall Try.prog 41 [.agg [(.int .i64 n), (.int .i64 s), (.int .i64 t), (.ro (.arcs es))]] [] (fun ov oh => ∃ (W : List (List Int)) (e : Int), (ApRes n s t es W e) ∧ ov = .tup [(false, [(.rs (.rows W))]), (false, [(.int .i64 e)])] ∧ oh = []) := by
  refine acall_intro hT Try.func41 rfl (by kernel_rfl) rfl (by kernel_rfl) ?_
  refine awp_run_seq [1] [101] [] ⟨48, [(1, .one (.ptr 101 0 0))], [(101, .box 1 4 [(.int .i64 n), (.int .i64 s), (.int .i64 t), (.ro (.arcs es))])]⟩ hT (by kernel_rfl) trivial ?_
  refine awp_seq ?_
  refine awp_seq (awp_region ?_)
  refine aops_run 1 [1, 15] [101] [(0 < 1)] ⟨48, [(1, .one (.ptr 101 0 0)), (15, .agg [(.int .i64 n), (.int .i64 s), (.int .i64 t), (.ro (.arcs es))])], [(101, .box 1 4 [(.int .i64 n), (.int .i64 s), (.int .i64 t), (.ro (.arcs es))])]⟩ hT (by kernel_rfl) (by kernel_rfl) ⟨(by decide), trivial⟩ ?_
  refine aops_pure false ⟨true, [], 65, [.agg [(.int .i64 n), (.int .i64 s), (.int .i64 t), (.ro (.arcs es))]], []⟩ [.agg [(.int .i64 n), (.int .i64 s), (.int .i64 t), (.ro (.arcs es))]] (.one (.int .i64 (netErr n s t es))) ⟨48, [(1, .one (.ptr 101 0 0)), (15, .agg [(.int .i64 n), (.int .i64 s), (.int .i64 t), (.ro (.arcs es))]), (16, .one (.int .i64 (netErr n s t es)))], [(101, .box 1 4 [(.int .i64 n), (.int .i64 s), (.int .i64 t), (.ro (.arcs es))])]⟩ (by kernel_rfl) (by kernel_rfl) (fun _ => trivial) rfl (fun _ => graph_CheckNet n s t es) ?_
  refine aops_run 1 [1, 4] [101] [] ⟨48, [(1, .one (.ptr 101 0 0)), (4, .one (.int .i64 (netErr n s t es)))], [(101, .box 1 4 [(.int .i64 n), (.int .i64 s), (.int .i64 t), (.ro (.arcs es))])]⟩ hT (by kernel_rfl) (by kernel_rfl) trivial ?_
  refine aops_end_seq (by kernel_rfl) ?_
  refine awp_run_seq [1, 4, 18] [101] [] ⟨48, [(1, .one (.ptr 101 0 0)), (4, .one (.int .i64 (netErr n s t es))), (18, .one (.bool (decide ((netErr n s t es) ≠ 0))))], [(101, .box 1 4 [(.int .i64 n), (.int .i64 s), (.int .i64 t), (.ro (.arcs es))])]⟩ hT (by kernel_rfl) trivial ?_
  refine awp_cond (b := (decide ((netErr n s t es) ≠ 0))) (by kernel_rfl) (fun c2 => ?_) (fun c2 => ?_)
  · -- yes 2
    try simp only [bs] at c2
    refine awp_run_seq [2, 3] [] [] ⟨48, [(2, .one .nils), (3, .one (.int .i64 (netErr n s t es)))], []⟩ hT (by kernel_rfl) trivial ?_
    refine awp_weak (awk_slot 2 (.one .nils) (.one (.rs (.rows []))) _ (by kernel_rfl) (.one (wkv_nil1 rfl))) ?_
    refine awp_ret ?_
    refine kRet.ret _ [] [] (.tup [(false, [(.rs (.rows []))]), (false, [(.int .i64 (netErr n s t es))])]) [] (by kernel_rfl) trivial ?_
    exact ⟨[], (netErr n s t es), (by exact .inl ⟨c2, rfl, rfl⟩), (by kernel_rfl), (by kernel_rfl)⟩
  · -- no 2
    try simp only [bs] at c2
    have hE : netErr n s t es = 0 := by omega
    have hok := netErr_ok hE
    have h1 := hok.n1
    have h2 := hok.n2
    have h3 := hok.len
    have h4 := hok.s0
    have h5 := hok.s1
    have h6 := hok.t0
    have h7 := hok.t1
    have hoku := hok.units
    have hEU := hoku.err
    have hGu := hoku.toGOk
    refine awp_skip ?_
    refine awp_seq (awp_region ?_)
    refine aops_run 1 [20] [] [(0 < 1)] ⟨48, [(20, .agg [(.int .i64 n), (.int .i64 s), (.int .i64 t), (.ro (.arcs es))])], []⟩ hT (by kernel_rfl) (by kernel_rfl) ⟨(by decide), trivial⟩ ?_
    refine aops_pure false ⟨true, [], 66, [.agg [(.int .i64 n), (.int .i64 s), (.int .i64 t), (.ro (.arcs es))]], []⟩ [.agg [(.int .i64 n), (.int .i64 s), (.int .i64 t), (.ro (.arcs es))]] (.agg [(.int .i64 n), (.int .i64 s), (.int .i64 t), (.ro (.arcs (units es)))]) ⟨48, [(20, .agg [(.int .i64 n), (.int .i64 s), (.int .i64 t), (.ro (.arcs es))]), (21, .agg [(.int .i64 n), (.int .i64 s), (.int .i64 t), (.ro (.arcs (units es)))])], []⟩ (by kernel_rfl) (by kernel_rfl) (fun _ => trivial) rfl (fun _ => paths_units n s t es (by omega)) ?_
    refine aops_run 2 [5] [105] [(0 < 1)] ⟨48, [(5, .one (.ptr 105 0 0))], [(105, .box 1 4 [(.int .i64 n), (.int .i64 s), (.int .i64 t), (.ro (.arcs (units es)))])]⟩ hT (by kernel_rfl) (by kernel_rfl) ⟨(by decide), trivial⟩ ?_
    refine aops_end_seq (by kernel_rfl) ?_
    refine awp_seq (awp_region ?_)
    refine aops_run 1 [5, 23] [105] [(0 < 1)] ⟨48, [(5, .one (.ptr 105 0 0)), (23, .agg [(.int .i64 n), (.int .i64 s), (.int .i64 t), (.ro (.arcs (units es)))])], [(105, .box 1 4 [(.int .i64 n), (.int .i64 s), (.int .i64 t), (.ro (.arcs (units es)))])]⟩ hT (by kernel_rfl) (by kernel_rfl) ⟨(by decide), trivial⟩ ?_
    refine aops_call [] [(9001, 124)] false ⟨true, [], 15, [.agg [(.int .i64 n), (.int .i64 s), (.int .i64 t), (.ro (.arcs (units es)))]], []⟩ [.agg [(.int .i64 n), (.int .i64 s), (.int .i64 t), (.ro (.arcs (units es)))]] (sm := ⟨48, [(5, .one (.ptr 105 0 0)), (23, .agg [(.int .i64 n), (.int .i64 s), (.int .i64 t), (.ro (.arcs (units es)))]), (24, .whn false (.one .any))], [(105, .box 1 4 [(.int .i64 n), (.int .i64 s), (.int .i64 t), (.ro (.arcs (units es)))])]⟩) (by kernel_rfl) (by kernel_rfl) (by decide) (fun _ => trivial) rfl (fun _ => most_of n s t (units es)) (fun _ v Hr hv => ?_) (fun h => by cases h)
    obtain ⟨g5, v5, hm5, rfl, rfl⟩ := hv
    refine ⟨⟨48, [(5, .one (.ptr 105 0 0)), (23, .agg [(.int .i64 n), (.int .i64 s), (.int .i64 t), (.ro (.arcs (units es)))]), (24, .tup [(false, [(.rw 124 0 g5.length)]), (false, [(.int .i64 v5)]), (false, [(.int .i64 (netErr n s t (units es)))])])], [(105, .box 1 4 [(.int .i64 n), (.int .i64 s), (.int .i64 t), (.ro (.arcs (units es)))]), (124, .flat (.ints .i64 g5))]⟩, by kernel_rfl, ?_⟩
    refine aops_run 7 [5, 6] [105, 124] [] ⟨48, [(5, .one (.ptr 105 0 0)), (6, .one (.rw 124 0 g5.length))], [(105, .box 1 4 [(.int .i64 n), (.int .i64 s), (.int .i64 t), (.ro (.arcs (units es)))]), (124, .flat (.ints .i64 g5))]⟩ hT (by kernel_rfl) (by kernel_rfl) trivial ?_
    refine aops_end_seq (by kernel_rfl) ?_
    refine awp_weak (awk_seal 124 (s' := ⟨48, [(5, .one (.ptr 105 0 0)), (6, .one (.ro (.ints .i64 (List.take g5.length g5))))], [(105, .box 1 4 [(.int .i64 n), (.int .i64 s), (.int .i64 t), (.ro (.arcs (units es)))])]⟩) (by kernel_rfl)) ?_
    rw [show (List.take g5.length g5) = g5 from List.take_of_length_le (by first | omega | simp)]
    refine awp_seq (awp_region ?_)
    refine aops_run 2 [29, 30] [] [(0 < 1)] ⟨48, [(29, .agg [(.int .i64 n), (.int .i64 s), (.int .i64 t), (.ro (.arcs (units es)))]), (30, .one (.ro (.ints .i64 g5)))], []⟩ hT (by kernel_rfl) (by kernel_rfl) ⟨(by decide), trivial⟩ ?_
    refine aops_call [] [] false ⟨true, [], 16, [.agg [(.int .i64 n), (.int .i64 s), (.int .i64 t), (.ro (.arcs (units es)))], .one (.ro (.ints .i64 g5))], []⟩ [.agg [(.int .i64 n), (.int .i64 s), (.int .i64 t), (.ro (.arcs (units es)))], .one (.ro (.ints .i64 g5))] (sm := ⟨48, [(29, .agg [(.int .i64 n), (.int .i64 s), (.int .i64 t), (.ro (.arcs (units es)))]), (30, .one (.ro (.ints .i64 g5))), (31, .whn false (.one .any))], []⟩) (by kernel_rfl) (by kernel_rfl) (by decide) (fun _ => trivial) rfl (fun _ => flow_split n s t (units es) g5) (fun _ v Hr hv => ?_) (fun h => by cases h)
    obtain ⟨ways, rounds, e1, hso, rfl, rfl⟩ := hv
    refine ⟨⟨48, [(29, .agg [(.int .i64 n), (.int .i64 s), (.int .i64 t), (.ro (.arcs (units es)))]), (30, .one (.ro (.ints .i64 g5))), (31, .tup [(false, [(.rs (.pieces ways))]), (false, [(.rs (.pieces rounds))]), (false, [(.int .i64 e1)])])], []⟩, by kernel_rfl, ?_⟩
    refine aops_run 7 [9] [] [] ⟨48, [(9, .one (.rs (.pieces ways)))], []⟩ hT (by kernel_rfl) (by kernel_rfl) trivial ?_
    refine aops_end_seq (by kernel_rfl) ?_
    have hmo : FlOk n s t (units es) g5 ∧ gone (units es) g5 s = v5 ∧ v5 = (parted n s t (units es)).1 := by rcases hm5 with ⟨q, _⟩ | ⟨_, q1, q2, q3⟩; exact absurd hEU q; exact ⟨q1, q2, q3⟩
    have hA := apart_of hoku hmo.1 hmo.2.1 hmo.2.2 hso
    have hcap := hmo.1.bound s
    refine awp_run_seq [9, 12] [] [] ⟨48, [(9, .one (.rs (.pieces ways))), (12, .one .nils)], []⟩ hT (by kernel_rfl) trivial ?_
    refine awp_seq ?_
    refine awp_run_seq [12, 35, 36, 37] [] [] ⟨48, [(12, .one .nils), (35, .one (.rs (.pieces ways))), (36, .one (.int .i64 ((ways.length : Nat) : Int))), (37, .one (.int .i64 0))], []⟩ hT (by kernel_rfl) trivial ?_
    refine awp_block ?_
    refine awp_weak (awk_empty 5012 (.recs (.rows [])) rfl (by decide) _) ?_
    refine awp_weak (awk_slot 12 (.one .nils) (.one (.rw 5012 0 0)) _ (by kernel_rfl) (.one (wkv_nils (o := .recs (.rows [])) (by kernel_rfl)))) ?_
    refine awp_loop (I := fun κ σ => ∃ (i : Nat) (o : List (List Int)), ((i ≤ ways.length) ∧ (o = (ways.take i).map fun p => p.2) ∧ ways.length - i = κ) ∧ σ = ⟨48, [(12, .one (.rw 5012 0 o.length)), (35, .one (.rs (.pieces ways))), (36, .one (.int .i64 ((ways.length : Nat) : Int))), (37, .one (.int .i64 ((i : Nat) : Int)))], [(5012, .recs (.rows o))]⟩) _ ⟨0, [], ⟨(by omega), (by rfl), rfl⟩, (by kernel_rfl)⟩ ?_
    rintro κ _ ⟨i, o, ⟨hi, ho, rfl⟩, rfl⟩
    have hol : o.length = i := by rw [ho]; simp; omega
    refine awp_run_seq [12, 35, 36, 37, 38] [5012] [] ⟨48, [(12, .one (.rw 5012 0 o.length)), (35, .one (.rs (.pieces ways))), (36, .one (.int .i64 ((ways.length : Nat) : Int))), (37, .one (.int .i64 ((i : Nat) : Int))), (38, .one (.bool (decide (((i : Nat) : Int) < ((ways.length : Nat) : Int)))))], [(5012, .recs (.rows o))]⟩ hT (by kernel_rfl) trivial ?_
    refine awp_seq ?_
    refine awp_cond (b := (decide (((i : Nat) : Int) < ((ways.length : Nat) : Int)))) (by kernel_rfl) (fun c9 => ?_) (fun c9 => ?_)
    · -- yes 9
      try simp only [bs] at c9
      refine awp_skip ?_
      refine awp_seq ?_
      refine awp_block ?_
      refine awp_run_seq [12, 14, 35, 36, 37] [114, 5012] [((0 : Int) ≤ ((i : Nat) : Int)), (((i : Nat) : Int) < ((ways.length : Nat) : Int)), (0 < 1)] ⟨48, [(12, .one (.rw 5012 0 o.length)), (14, .one (.ptr 114 0 0)), (35, .one (.rs (.pieces ways))), (36, .one (.int .i64 ((ways.length : Nat) : Int))), (37, .one (.int .i64 ((i : Nat) : Int)))], [(114, .box 1 2 [(.int .i64 ((List.getD ways i (0, [])).1)), (.ro (.ints .i64 ((List.getD ways i (0, [])).2)))]), (5012, .recs (.rows o))]⟩ hT (by kernel_rfl) ⟨(by first | omega | (simp only [lens]; omega) | (simp only [Bool.cond_decide]; omega) | (simp only [nadd_eq]; omega)), (by first | omega | (simp only [lens]; omega) | (simp only [Bool.cond_decide]; omega) | (simp only [nadd_eq]; omega)), (by decide), trivial⟩ ?_
      refine awp_run [12, 35, 36, 37] [5012] [(0 < 1), (o.length = o.length), ((o.length + 1) * 24 ≤ 140737488355328), ((o.length + 1) ≤ 9223372036854775807)] ⟨48, [(12, .one (.rw 5012 0 (o.length + 1))), (35, .one (.rs (.pieces ways))), (36, .one (.int .i64 ((ways.length : Nat) : Int))), (37, .one (.int .i64 ((i : Nat) : Int)))], [(5012, .recs (.rows (o ++ [((List.getD ways i (0, [])).2)])))]⟩ hT (by kernel_rfl) ⟨(by decide), (by first | omega | (simp only [lens]; omega) | (simp only [Bool.cond_decide]; omega) | (simp only [nadd_eq]; omega)), (by first | omega | (simp only [lens]; omega) | (simp only [Bool.cond_decide]; omega) | (simp only [nadd_eq]; omega)), (by first | omega | (simp only [lens]; omega) | (simp only [Bool.cond_decide]; omega) | (simp only [nadd_eq]; omega)), trivial⟩ ?_
      refine awp_run [12, 35, 36, 37] [5012] [(-9223372036854775808 ≤ (((i + 1) : Nat) : Int) ∧ (((i + 1) : Nat) : Int) ≤ 9223372036854775807)] ⟨48, [(12, .one (.rw 5012 0 (o.length + 1))), (35, .one (.rs (.pieces ways))), (36, .one (.int .i64 ((ways.length : Nat) : Int))), (37, .one (.int .i64 (((i + 1) : Nat) : Int)))], [(5012, .recs (.rows (o ++ [((List.getD ways i (0, [])).2)])))]⟩ hT (by kernel_rfl) ⟨(by first | omega | (simp only [lens]; omega) | (simp only [Bool.cond_decide]; omega) | (simp only [nadd_eq]; omega)), trivial⟩ ?_
      refine loop_end _ ?_ ⟨(i + 1), (o ++ [((List.getD ways i (0, [])).2)]), ⟨(by omega), (by rw [ho, take_getD ways (0, []) i (by omega), List.map_append]; rfl), rfl⟩, (by first | (simp only [lens]; done) | (simp only [Nat.zero_add]; done) | simp only [lens, Nat.zero_add])⟩
      omega
    · -- no 9
      try simp only [bs] at c9
      have hfin : o = ways.map fun p => p.2 := by rw [ho, List.take_of_length_le (by omega)]
      refine awp_exit ?_
      refine awp_weak (awk_seal 5012 (s' := ⟨48, [(12, .one (.rs (.rows (List.take o.length o)))), (35, .one (.rs (.pieces ways))), (36, .one (.int .i64 ((ways.length : Nat) : Int))), (37, .one (.int .i64 ((i : Nat) : Int))), (38, .one (.bool (decide (((i : Nat) : Int) < ((ways.length : Nat) : Int)))))], []⟩) (by kernel_rfl)) ?_
      rw [show (List.take o.length o) = o from List.take_of_length_le (by first | omega | simp)]
      refine awp_run_seq [2, 3] [] [] ⟨48, [(2, .one (.rs (.rows o))), (3, .one (.int .i64 0))], []⟩ hT (by kernel_rfl) trivial ?_
      refine awp_ret ?_
      refine kRet.ret _ [] [] (.tup [(false, [(.rs (.rows o))]), (false, [(.int .i64 0)])]) [] (by kernel_rfl) trivial ?_
      exact ⟨o, 0, (by refine .inr ⟨hE, rfl, ?_⟩; rw [hfin]; exact ⟨hA.1, by rw [List.length_map]; exact hA.2⟩), (by kernel_rfl), (by kernel_rfl)⟩

theorem paths_bar (n s t : Int) (es : List Arc) : ACall Try.prog 13 [.agg [(.int .i64 n), (.int .i64 s), (.int .i64 t), (.ro (.arcs es))]] [] (fun ov oh => ov = .tup [(false, [(.ro (.ints .i64 (okL (netErr n s t es) (barTo es (parted n s t (units es)).2.1 es.length))))]), (false, [(.int .i64 (netErr n s t es))])] ∧ oh = []) := by
  refine acall_intro hT Try.func13 rfl (by kernel_rfl) rfl (by kernel_rfl) ?_
  refine awp_run_seq [1] [101] [] ⟨51, [(1, .one (.ptr 101 0 0))], [(101, .box 1 4 [(.int .i64 n), (.int .i64 s), (.int .i64 t), (.ro (.arcs es))])]⟩ hT (by kernel_rfl) trivial ?_
  refine awp_seq ?_
  refine awp_seq (awp_region ?_)
  refine aops_run 1 [1, 11] [101] [(0 < 1)] ⟨51, [(1, .one (.ptr 101 0 0)), (11, .agg [(.int .i64 n), (.int .i64 s), (.int .i64 t), (.ro (.arcs es))])], [(101, .box 1 4 [(.int .i64 n), (.int .i64 s), (.int .i64 t), (.ro (.arcs es))])]⟩ hT (by kernel_rfl) (by kernel_rfl) ⟨(by decide), trivial⟩ ?_
  refine aops_pure false ⟨true, [], 65, [.agg [(.int .i64 n), (.int .i64 s), (.int .i64 t), (.ro (.arcs es))]], []⟩ [.agg [(.int .i64 n), (.int .i64 s), (.int .i64 t), (.ro (.arcs es))]] (.one (.int .i64 (netErr n s t es))) ⟨51, [(1, .one (.ptr 101 0 0)), (11, .agg [(.int .i64 n), (.int .i64 s), (.int .i64 t), (.ro (.arcs es))]), (12, .one (.int .i64 (netErr n s t es)))], [(101, .box 1 4 [(.int .i64 n), (.int .i64 s), (.int .i64 t), (.ro (.arcs es))])]⟩ (by kernel_rfl) (by kernel_rfl) (fun _ => trivial) rfl (fun _ => graph_CheckNet n s t es) ?_
  refine aops_run 1 [1, 4] [101] [] ⟨51, [(1, .one (.ptr 101 0 0)), (4, .one (.int .i64 (netErr n s t es)))], [(101, .box 1 4 [(.int .i64 n), (.int .i64 s), (.int .i64 t), (.ro (.arcs es))])]⟩ hT (by kernel_rfl) (by kernel_rfl) trivial ?_
  refine aops_end_seq (by kernel_rfl) ?_
  refine awp_run_seq [1, 4, 14] [101] [] ⟨51, [(1, .one (.ptr 101 0 0)), (4, .one (.int .i64 (netErr n s t es))), (14, .one (.bool (decide ((netErr n s t es) ≠ 0))))], [(101, .box 1 4 [(.int .i64 n), (.int .i64 s), (.int .i64 t), (.ro (.arcs es))])]⟩ hT (by kernel_rfl) trivial ?_
  refine awp_cond (b := (decide ((netErr n s t es) ≠ 0))) (by kernel_rfl) (fun c2 => ?_) (fun c2 => ?_)
  · -- yes 2
    try simp only [bs] at c2
    refine awp_run_seq [2, 3] [] [] ⟨51, [(2, .one .nils), (3, .one (.int .i64 (netErr n s t es)))], []⟩ hT (by kernel_rfl) trivial ?_
    refine awp_weak (awk_slot 2 (.one .nils) (.one (.ro (.ints .i64 []))) _ (by kernel_rfl) (.one (wkv_nil0 rfl))) ?_
    refine awp_ret ?_
    refine kRet.ret _ [] [] (.tup [(false, [(.ro (.ints .i64 []))]), (false, [(.int .i64 (netErr n s t es))])]) [] (by kernel_rfl) trivial ?_
    exact ⟨congrArg (fun x1 => (.tup [(false, [(.ro (.ints .i64 x1))]), (false, [(.int .i64 (netErr n s t es))])] : AV)) (show [] = (okL (netErr n s t es) (barTo es (parted n s t (units es)).2.1 es.length)) from by first | exact hE.symm | exact (okL_no _ c2).symm), rfl⟩
  · -- no 2
    try simp only [bs] at c2
    have hE : netErr n s t es = 0 := by omega
    have hok := netErr_ok hE
    have h1 := hok.n1
    have h2 := hok.n2
    have h3 := hok.len
    have h4 := hok.s0
    have h5 := hok.s1
    have h6 := hok.t0
    have h7 := hok.t1
    have hoku := hok.units
    have hEU := hoku.err
    have hGu := hoku.toGOk
    have hlow := (MinCut.low hoku).1
    have hz0 := hlow.1.1
    have hz1 : (parted n s t (units es)).2.1 ≤ 65535 := by have := hlow.1.2.1; have := pow_le12 (n := n.toNat) (by omega); omega
    refine awp_skip ?_
    refine awp_seq (awp_region ?_)
    refine aops_run 1 [1, 17] [101] [(0 < 1)] ⟨51, [(1, .one (.ptr 101 0 0)), (17, .agg [(.int .i64 n), (.int .i64 s), (.int .i64 t), (.ro (.arcs es))])], [(101, .box 1 4 [(.int .i64 n), (.int .i64 s), (.int .i64 t), (.ro (.arcs es))])]⟩ hT (by kernel_rfl) (by kernel_rfl) ⟨(by decide), trivial⟩ ?_
    refine aops_pure false ⟨true, [], 66, [.agg [(.int .i64 n), (.int .i64 s), (.int .i64 t), (.ro (.arcs es))]], []⟩ [.agg [(.int .i64 n), (.int .i64 s), (.int .i64 t), (.ro (.arcs es))]] (.agg [(.int .i64 n), (.int .i64 s), (.int .i64 t), (.ro (.arcs (units es)))]) ⟨51, [(1, .one (.ptr 101 0 0)), (17, .agg [(.int .i64 n), (.int .i64 s), (.int .i64 t), (.ro (.arcs es))]), (18, .agg [(.int .i64 n), (.int .i64 s), (.int .i64 t), (.ro (.arcs (units es)))])], [(101, .box 1 4 [(.int .i64 n), (.int .i64 s), (.int .i64 t), (.ro (.arcs es))])]⟩ (by kernel_rfl) (by kernel_rfl) (fun _ => trivial) rfl (fun _ => paths_units n s t es (by omega)) ?_
    refine aops_pure false ⟨true, [], 55, [.agg [(.int .i64 n), (.int .i64 s), (.int .i64 t), (.ro (.arcs (units es)))]], []⟩ [.agg [(.int .i64 n), (.int .i64 s), (.int .i64 t), (.ro (.arcs (units es)))]] (.tup [(false, [(.int .u16 (okI (netErr n s t (units es)) (parted n s t (units es)).2.1))]), (false, [(.int .i64 (okI (netErr n s t (units es)) (parted n s t (units es)).1))]), (false, [(.int .i64 (netErr n s t (units es)))])]) ⟨51, [(1, .one (.ptr 101 0 0)), (17, .agg [(.int .i64 n), (.int .i64 s), (.int .i64 t), (.ro (.arcs es))]), (18, .agg [(.int .i64 n), (.int .i64 s), (.int .i64 t), (.ro (.arcs (units es)))]), (19, .tup [(false, [(.int .u16 (okI (netErr n s t (units es)) (parted n s t (units es)).2.1))]), (false, [(.int .i64 (okI (netErr n s t (units es)) (parted n s t (units es)).1))]), (false, [(.int .i64 (netErr n s t (units es)))])])], [(101, .box 1 4 [(.int .i64 n), (.int .i64 s), (.int .i64 t), (.ro (.arcs es))])]⟩ (by kernel_rfl) (by kernel_rfl) (fun _ => trivial) rfl (fun _ => cut_least n s t (units es)) ?_
    refine aops_run 7 [1, 5] [101] [] ⟨51, [(1, .one (.ptr 101 0 0)), (5, .one (.int .u16 (okI (netErr n s t (units es)) (parted n s t (units es)).2.1)))], [(101, .box 1 4 [(.int .i64 n), (.int .i64 s), (.int .i64 t), (.ro (.arcs es))])]⟩ hT (by kernel_rfl) (by kernel_rfl) trivial ?_
    refine aops_end_seq (by kernel_rfl) ?_
    rw [show (okI (netErr n s t (units es)) (parted n s t (units es)).2.1) = (parted n s t (units es)).2.1 from by exact okI_ok _ hEU]
    refine awp_run_seq [1, 5, 8] [101] [] ⟨51, [(1, .one (.ptr 101 0 0)), (5, .one (.int .u16 ((parted n s t (units es)).2.1))), (8, .one .nils)], [(101, .box 1 4 [(.int .i64 n), (.int .i64 s), (.int .i64 t), (.ro (.arcs es))])]⟩ hT (by kernel_rfl) trivial ?_
    refine awp_seq ?_
    refine awp_run_seq [5, 8, 24, 25, 26] [] [(0 < 1)] ⟨51, [(5, .one (.int .u16 ((parted n s t (units es)).2.1))), (8, .one .nils), (24, .one (.ro (.arcs es))), (25, .one (.int .i64 ((es.length : Nat) : Int))), (26, .one (.int .i64 0))], []⟩ hT (by kernel_rfl) ⟨(by decide), trivial⟩ ?_
    refine awp_block ?_
    refine awp_weak (awk_empty 5008 (.flat (.ints .i64 [])) rfl (by decide) _) ?_
    refine awp_weak (awk_slot 8 (.one .nils) (.one (.rw 5008 0 0)) _ (by kernel_rfl) (.one (wkv_nils (o := .flat (.ints .i64 [])) (by kernel_rfl)))) ?_
    refine awp_loop (I := fun κ σ => ∃ (k : Nat) (b : List Int), ((k ≤ es.length) ∧ (b = barTo es (parted n s t (units es)).2.1 k) ∧ es.length - k = κ) ∧ σ = ⟨51, [(5, .one (.int .u16 ((parted n s t (units es)).2.1))), (8, .one (.rw 5008 0 b.length)), (24, .one (.ro (.arcs es))), (25, .one (.int .i64 ((es.length : Nat) : Int))), (26, .one (.int .i64 ((k : Nat) : Int)))], [(5008, .flat (.ints .i64 b))]⟩) _ ⟨0, [], ⟨(by omega), (by rfl), rfl⟩, (by kernel_rfl)⟩ ?_
    rintro κ _ ⟨k, b, ⟨hk, hb, rfl⟩, rfl⟩
    have hbl : b.length ≤ k := by rw [hb]; exact barTo_le _ _ _
    refine awp_run_seq [5, 8, 24, 25, 26, 27] [5008] [] ⟨51, [(5, .one (.int .u16 ((parted n s t (units es)).2.1))), (8, .one (.rw 5008 0 b.length)), (24, .one (.ro (.arcs es))), (25, .one (.int .i64 ((es.length : Nat) : Int))), (26, .one (.int .i64 ((k : Nat) : Int))), (27, .one (.bool (decide (((k : Nat) : Int) < ((es.length : Nat) : Int)))))], [(5008, .flat (.ints .i64 b))]⟩ hT (by kernel_rfl) trivial ?_
    refine awp_seq ?_
    refine awp_cond (b := (decide (((k : Nat) : Int) < ((es.length : Nat) : Int)))) (by kernel_rfl) (fun c7 => ?_) (fun c7 => ?_)
    · -- yes 7
      try simp only [bs] at c7
      have hkl : k < es.length := by omega
      obtain ⟨a1, a2, a3, a4, a5, a6⟩ := hok.at_ hkl
      have hq1 := shr_in (es.getD k default).src hz0 hz1
      have hq2 := shr_in (es.getD k default).dst hz0 hz1
      refine awp_skip ?_
      refine awp_seq ?_
      refine awp_block ?_
      refine awp_run_seq [5, 8, 9, 10, 24, 25, 26] [110, 5008] [((0 : Int) ≤ ((k : Nat) : Int)), (((k : Nat) : Int) < ((es.length : Nat) : Int)), (0 < 1)] ⟨51, [(5, .one (.int .u16 ((parted n s t (units es)).2.1))), (8, .one (.rw 5008 0 b.length)), (9, .one (.int .i64 ((k : Nat) : Int))), (10, .one (.ptr 110 0 0)), (24, .one (.ro (.arcs es))), (25, .one (.int .i64 ((es.length : Nat) : Int))), (26, .one (.int .i64 ((k : Nat) : Int)))], [(110, .box 1 3 [(.int .i64 ((List.getD es k default).src)), (.int .i64 ((List.getD es k default).dst)), (.int .i64 ((List.getD es k default).cap))]), (5008, .flat (.ints .i64 b))]⟩ hT (by kernel_rfl) ⟨(by first | omega | (simp only [lens]; omega) | (simp only [Bool.cond_decide]; omega) | (simp only [nadd_eq]; omega)), (by first | omega | (simp only [lens]; omega) | (simp only [Bool.cond_decide]; omega) | (simp only [nadd_eq]; omega)), (by decide), trivial⟩ ?_
      refine awp_run_seq [5, 8, 9, 24, 25, 26, 44] [5008] [(0 < 1), ((0 : Int) ≤ ((List.getD es k default).src)), (((List.getD es k default).src) ≤ 16), ((0 : Int) ≤ ((parted n s t (units es)).2.1 / 2 ^ (Int.toNat ((List.getD es k default).src))) ∧ (0 ≤ ((parted n s t (units es)).2.1 / 2 ^ (Int.toNat ((List.getD es k default).src))) ∧ ((parted n s t (units es)).2.1 / 2 ^ (Int.toNat ((List.getD es k default).src))) ≤ 65535)), ((0 : Int) ≤ 1 ∧ (0 ≤ (1 : Int) ∧ (1 : Int) ≤ 65535)), ((decide ((iand ((parted n s t (units es)).2.1 / 2 ^ (Int.toNat ((List.getD es k default).src))) 1) = 1)) = true → ((decide ((iand ((parted n s t (units es)).2.1 / 2 ^ (Int.toNat ((List.getD es k default).src))) 1) = 1)) = true → (decide ((iand ((parted n s t (units es)).2.1 / 2 ^ (Int.toNat ((List.getD es k default).src))) 1) = 1)) = true)), ((decide ((iand ((parted n s t (units es)).2.1 / 2 ^ (Int.toNat ((List.getD es k default).src))) 1) = 1)) = true → (0 < 1)), ((decide ((iand ((parted n s t (units es)).2.1 / 2 ^ (Int.toNat ((List.getD es k default).src))) 1) = 1)) = true → ((decide ((iand ((parted n s t (units es)).2.1 / 2 ^ (Int.toNat ((List.getD es k default).src))) 1) = 1)) = true → (decide ((iand ((parted n s t (units es)).2.1 / 2 ^ (Int.toNat ((List.getD es k default).src))) 1) = 1)) = true)), ((decide ((iand ((parted n s t (units es)).2.1 / 2 ^ (Int.toNat ((List.getD es k default).src))) 1) = 1)) = true → ((decide ((iand ((parted n s t (units es)).2.1 / 2 ^ (Int.toNat ((List.getD es k default).src))) 1) = 1)) = true → (decide ((iand ((parted n s t (units es)).2.1 / 2 ^ (Int.toNat ((List.getD es k default).src))) 1) = 1)) = true)), ((decide ((iand ((parted n s t (units es)).2.1 / 2 ^ (Int.toNat ((List.getD es k default).src))) 1) = 1)) = true → ((0 : Int) ≤ ((List.getD es k default).dst))), ((decide ((iand ((parted n s t (units es)).2.1 / 2 ^ (Int.toNat ((List.getD es k default).src))) 1) = 1)) = true → (((List.getD es k default).dst) ≤ 16)), ((decide ((iand ((parted n s t (units es)).2.1 / 2 ^ (Int.toNat ((List.getD es k default).src))) 1) = 1)) = true → ((decide ((iand ((parted n s t (units es)).2.1 / 2 ^ (Int.toNat ((List.getD es k default).src))) 1) = 1)) = true → (decide ((iand ((parted n s t (units es)).2.1 / 2 ^ (Int.toNat ((List.getD es k default).src))) 1) = 1)) = true)), ((decide ((iand ((parted n s t (units es)).2.1 / 2 ^ (Int.toNat ((List.getD es k default).src))) 1) = 1)) = true → ((0 : Int) ≤ ((parted n s t (units es)).2.1 / 2 ^ (Int.toNat ((List.getD es k default).dst))) ∧ (0 ≤ ((parted n s t (units es)).2.1 / 2 ^ (Int.toNat ((List.getD es k default).dst))) ∧ ((parted n s t (units es)).2.1 / 2 ^ (Int.toNat ((List.getD es k default).dst))) ≤ 65535))), ((decide ((iand ((parted n s t (units es)).2.1 / 2 ^ (Int.toNat ((List.getD es k default).src))) 1) = 1)) = true → ((0 : Int) ≤ 1 ∧ (0 ≤ (1 : Int) ∧ (1 : Int) ≤ 65535))), ((decide ((iand ((parted n s t (units es)).2.1 / 2 ^ (Int.toNat ((List.getD es k default).src))) 1) = 1)) = true → ((decide ((iand ((parted n s t (units es)).2.1 / 2 ^ (Int.toNat ((List.getD es k default).src))) 1) = 1)) = true → (decide ((iand ((parted n s t (units es)).2.1 / 2 ^ (Int.toNat ((List.getD es k default).src))) 1) = 1)) = true)), ((decide ((iand ((parted n s t (units es)).2.1 / 2 ^ (Int.toNat ((List.getD es k default).src))) 1) = 1)) = true → (decide ((iand ((parted n s t (units es)).2.1 / 2 ^ (Int.toNat ((List.getD es k default).src))) 1) = 1)) = true)] ⟨51, [(5, .one (.int .u16 ((parted n s t (units es)).2.1))), (8, .one (.rw 5008 0 b.length)), (9, .one (.int .i64 ((k : Nat) : Int))), (24, .one (.ro (.arcs es))), (25, .one (.int .i64 ((es.length : Nat) : Int))), (26, .one (.int .i64 ((k : Nat) : Int))), (44, .one (.bool ((decide ((iand ((parted n s t (units es)).2.1 / 2 ^ (Int.toNat ((List.getD es k default).src))) 1) = 1)) && (decide ((iand ((parted n s t (units es)).2.1 / 2 ^ (Int.toNat ((List.getD es k default).dst))) 1) = 0)))))], [(5008, .flat (.ints .i64 b))]⟩ hT (by kernel_rfl) ⟨(by decide), (by first | omega | (simp only [lens]; omega) | (simp only [Bool.cond_decide]; omega) | (simp only [nadd_eq]; omega)), (by first | omega | (simp only [lens]; omega) | (simp only [Bool.cond_decide]; omega) | (simp only [nadd_eq]; omega)), (by first | omega | (simp only [lens]; omega) | (simp only [Bool.cond_decide]; omega) | (simp only [nadd_eq]; omega)), (by first | omega | (simp only [lens]; omega) | (simp only [Bool.cond_decide]; omega) | (simp only [nadd_eq]; omega)), (by intro hg; first | exact hg | skip; (try simp only [bs] at hg ⊢); first | exact hg | first | omega | (simp only [lens]; omega) | (simp only [Bool.cond_decide]; omega) | (simp only [nadd_eq]; omega) | grind), (by intro hg; first | exact hg | skip; (try simp only [bs] at hg); first | exact hg | first | omega | (simp only [lens]; omega) | (simp only [Bool.cond_decide]; omega) | (simp only [nadd_eq]; omega) | grind), (by intro hg; first | exact hg | skip; (try simp only [bs] at hg ⊢); first | exact hg | first | omega | (simp only [lens]; omega) | (simp only [Bool.cond_decide]; omega) | (simp only [nadd_eq]; omega) | grind), (by intro hg; first | exact hg | skip; (try simp only [bs] at hg ⊢); first | exact hg | first | omega | (simp only [lens]; omega) | (simp only [Bool.cond_decide]; omega) | (simp only [nadd_eq]; omega) | grind), (by intro hg; first | exact hg | skip; (try simp only [bs] at hg); first | exact hg | first | omega | (simp only [lens]; omega) | (simp only [Bool.cond_decide]; omega) | (simp only [nadd_eq]; omega) | grind), (by intro hg; first | exact hg | skip; (try simp only [bs] at hg); first | exact hg | first | omega | (simp only [lens]; omega) | (simp only [Bool.cond_decide]; omega) | (simp only [nadd_eq]; omega) | grind), (by intro hg; first | exact hg | skip; (try simp only [bs] at hg ⊢); first | exact hg | first | omega | (simp only [lens]; omega) | (simp only [Bool.cond_decide]; omega) | (simp only [nadd_eq]; omega) | grind), (by intro hg; first | exact hg | skip; (try simp only [bs] at hg); first | exact hg | first | omega | (simp only [lens]; omega) | (simp only [Bool.cond_decide]; omega) | (simp only [nadd_eq]; omega) | grind), (by intro hg; first | exact hg | skip; (try simp only [bs] at hg); first | exact hg | first | omega | (simp only [lens]; omega) | (simp only [Bool.cond_decide]; omega) | (simp only [nadd_eq]; omega) | grind), (by intro hg; first | exact hg | skip; (try simp only [bs] at hg ⊢); first | exact hg | first | omega | (simp only [lens]; omega) | (simp only [Bool.cond_decide]; omega) | (simp only [nadd_eq]; omega) | grind), (fun h => h), trivial⟩ ?_
      refine awp_cond (b := ((decide ((iand ((parted n s t (units es)).2.1 / 2 ^ (Int.toNat ((List.getD es k default).src))) 1) = 1)) && (decide ((iand ((parted n s t (units es)).2.1 / 2 ^ (Int.toNat ((List.getD es k default).dst))) 1) = 0)))) (by kernel_rfl) (fun c9 => ?_) (fun c9 => ?_)
      · -- yes 9
        try simp only [bs] at c9
        have hbn := barTo_yes (z := (parted n s t (units es)).2.1) (show bit (parted n s t (units es)).2.1 (es.getD k default).src = 1 ∧ bit (parted n s t (units es)).2.1 (es.getD k default).dst = 0 from c9)
        refine awp_run [5, 8, 24, 25, 26] [5008] [(b.length = b.length), ((b.length + 1) * 8 ≤ 140737488355328), ((b.length + 1) ≤ 9223372036854775807)] ⟨51, [(5, .one (.int .u16 ((parted n s t (units es)).2.1))), (8, .one (.rw 5008 0 (b.length + 1))), (24, .one (.ro (.arcs es))), (25, .one (.int .i64 ((es.length : Nat) : Int))), (26, .one (.int .i64 ((k : Nat) : Int)))], [(5008, .flat (.ints .i64 (b ++ [((k : Nat) : Int)])))]⟩ hT (by kernel_rfl) ⟨(by first | omega | (simp only [lens]; omega) | (simp only [Bool.cond_decide]; omega) | (simp only [nadd_eq]; omega)), (by first | omega | (simp only [lens]; omega) | (simp only [Bool.cond_decide]; omega) | (simp only [nadd_eq]; omega)), (by first | omega | (simp only [lens]; omega) | (simp only [Bool.cond_decide]; omega) | (simp only [nadd_eq]; omega)), trivial⟩ ?_
        refine awp_run [5, 8, 24, 25, 26] [5008] [(-9223372036854775808 ≤ (((k + 1) : Nat) : Int) ∧ (((k + 1) : Nat) : Int) ≤ 9223372036854775807)] ⟨51, [(5, .one (.int .u16 ((parted n s t (units es)).2.1))), (8, .one (.rw 5008 0 (b.length + 1))), (24, .one (.ro (.arcs es))), (25, .one (.int .i64 ((es.length : Nat) : Int))), (26, .one (.int .i64 (((k + 1) : Nat) : Int)))], [(5008, .flat (.ints .i64 (b ++ [((k : Nat) : Int)])))]⟩ hT (by kernel_rfl) ⟨(by first | omega | (simp only [lens]; omega) | (simp only [Bool.cond_decide]; omega) | (simp only [nadd_eq]; omega)), trivial⟩ ?_
        refine loop_end _ ?_ ⟨(k + 1), (b ++ [((k : Nat) : Int)]), ⟨(by omega), (by rw [hbn, hb]), rfl⟩, (by first | (simp only [lens]; done) | (simp only [Nat.zero_add]; done) | simp only [lens, Nat.zero_add])⟩
        omega
      · -- no 9
        try simp only [bs] at c9
        have hbn := barTo_no (z := (parted n s t (units es)).2.1) (show ¬ (bit (parted n s t (units es)).2.1 (es.getD k default).src = 1 ∧ bit (parted n s t (units es)).2.1 (es.getD k default).dst = 0) from fun q => by simp only [bit] at q; rcases c9 with c | c; exact c q.1; exact c q.2)
        refine awp_skip ?_
        refine awp_run [5, 8, 24, 25, 26] [5008] [(-9223372036854775808 ≤ (((k + 1) : Nat) : Int) ∧ (((k + 1) : Nat) : Int) ≤ 9223372036854775807)] ⟨51, [(5, .one (.int .u16 ((parted n s t (units es)).2.1))), (8, .one (.rw 5008 0 b.length)), (24, .one (.ro (.arcs es))), (25, .one (.int .i64 ((es.length : Nat) : Int))), (26, .one (.int .i64 (((k + 1) : Nat) : Int)))], [(5008, .flat (.ints .i64 b))]⟩ hT (by kernel_rfl) ⟨(by first | omega | (simp only [lens]; omega) | (simp only [Bool.cond_decide]; omega) | (simp only [nadd_eq]; omega)), trivial⟩ ?_
        refine loop_end _ ?_ ⟨(k + 1), b, ⟨(by omega), (by rw [hbn, hb]), rfl⟩, (by kernel_rfl)⟩
        omega
    · -- no 7
      try simp only [bs] at c7
      have hfin : b = (barTo es (parted n s t (units es)).2.1 es.length) := by rw [hb, show k = es.length by omega]
      refine awp_exit ?_
      refine awp_weak (awk_seal 5008 (s' := ⟨51, [(5, .one (.int .u16 ((parted n s t (units es)).2.1))), (8, .one (.ro (.ints .i64 (List.take b.length b)))), (24, .one (.ro (.arcs es))), (25, .one (.int .i64 ((es.length : Nat) : Int))), (26, .one (.int .i64 ((k : Nat) : Int))), (27, .one (.bool (decide (((k : Nat) : Int) < ((es.length : Nat) : Int)))))], []⟩) (by kernel_rfl)) ?_
      rw [show (List.take b.length b) = b from List.take_of_length_le (by first | omega | simp)]
      refine awp_run_seq [2, 3] [] [] ⟨51, [(2, .one (.ro (.ints .i64 b))), (3, .one (.int .i64 0))], []⟩ hT (by kernel_rfl) trivial ?_
      refine awp_ret ?_
      refine kRet.ret _ [] [] (.tup [(false, [(.ro (.ints .i64 b))]), (false, [(.int .i64 0)])]) [] (by kernel_rfl) trivial ?_
      exact ⟨by first | rw [show (okL (netErr n s t es) (barTo es (parted n s t (units es)).2.1 es.length)) = b from Eq.symm (by first | exact hE.symm | (rw [okL_ok _ hE]; exact hfin)), show (netErr n s t es) = 0 from Eq.symm (by first | exact hE.symm | (rw [okL_ok _ hE]; exact hfin))] | rw [show (okL (netErr n s t es) (barTo es (parted n s t (units es)).2.1 es.length)) = b from Eq.symm (by first | exact hE.symm | (rw [okL_ok _ hE]; exact hfin))] | rw [show (netErr n s t es) = 0 from Eq.symm (by first | exact hE.symm | (rw [okL_ok _ hE]; exact hfin))], rfl⟩

end Go.Ab
