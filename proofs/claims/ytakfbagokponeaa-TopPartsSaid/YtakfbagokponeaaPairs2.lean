/- Of pairs of nodes: what parts them. -/
import Derived.Test.YtakfbagokponeaaTab
import Derived.Test.YtakfbagokponeaaCut1
import Derived.Test.YtakfbagokponeaaG1
set_option maxRecDepth 100000
namespace Go.Ab
open Go Go.Proofs
theorem pairs_check (n : Int) (es : List Arc) : ACall Try.prog 109 [.agg [(.int .i64 n), (.ro (.arcs es))]] [] (fun ov oh => ov = .one (.int .i64 (pairErr n es)) ∧ oh = []) := by
  refine acall_intro hT Try.func109 rfl (by kernel_rfl) rfl (by kernel_rfl) ?_
  refine awp_run_seq [1] [101] [] ⟨13, [(1, .one (.ptr 101 0 0))], [(101, .box 1 2 [(.int .i64 n), (.ro (.arcs es))])]⟩ hT (by kernel_rfl) trivial ?_
  refine awp_seq ?_
  refine awp_seq (awp_region ?_)
  refine aops_run 1 [1, 4] [101] [(0 < 1)] ⟨13, [(1, .one (.ptr 101 0 0)), (4, .agg [(.int .i64 n), (.ro (.arcs es))])], [(101, .box 1 2 [(.int .i64 n), (.ro (.arcs es))])]⟩ hT (by kernel_rfl) (by kernel_rfl) ⟨(by decide), trivial⟩ ?_
  refine aops_pure false ⟨true, [], 116, [.agg [(.int .i64 n), (.ro (.arcs es))]], []⟩ [.agg [(.int .i64 n), (.ro (.arcs es))]] (.one (.int .i64 (graphErr n es 0))) ⟨13, [(1, .one (.ptr 101 0 0)), (4, .agg [(.int .i64 n), (.ro (.arcs es))]), (5, .one (.int .i64 (graphErr n es 0)))], [(101, .box 1 2 [(.int .i64 n), (.ro (.arcs es))])]⟩ (by kernel_rfl) (by kernel_rfl) (fun _ => trivial) rfl (fun _ => graph_Check n es) ?_
  refine aops_run 1 [1, 3] [101] [] ⟨13, [(1, .one (.ptr 101 0 0)), (3, .one (.int .i64 (graphErr n es 0)))], [(101, .box 1 2 [(.int .i64 n), (.ro (.arcs es))])]⟩ hT (by kernel_rfl) (by kernel_rfl) trivial ?_
  refine aops_end_seq (by kernel_rfl) ?_
  refine awp_run_seq [1, 3, 7] [101] [] ⟨13, [(1, .one (.ptr 101 0 0)), (3, .one (.int .i64 (graphErr n es 0))), (7, .one (.bool (decide ((graphErr n es 0) ≠ 0))))], [(101, .box 1 2 [(.int .i64 n), (.ro (.arcs es))])]⟩ hT (by kernel_rfl) trivial ?_
  refine awp_cond (b := (decide ((graphErr n es 0) ≠ 0))) (by kernel_rfl) (fun c2 => ?_) (fun c2 => ?_)
  ·
    try simp only [bs] at c2
    refine awp_run_seq [2] [] [] ⟨13, [(2, .one (.int .i64 (graphErr n es 0)))], []⟩ hT (by kernel_rfl) trivial ?_
    refine awp_ret ?_
    refine kRet.ret _ [] [] (.one (.int .i64 (graphErr n es 0))) [] (by kernel_rfl) trivial ?_
    exact ⟨congrArg (fun x1 => (.one (.int .i64 x1) : AV)) (show (graphErr n es 0) = (pairErr n es) from by exact (if_pos c2).symm), rfl⟩
  ·
    try simp only [bs] at c2
    refine awp_skip ?_
    refine awp_seq ?_
    refine awp_run_seq [12] [] [(0 < 1)] ⟨13, [(12, .one (.bool (decide ((30 : Int) < ((es.length : Nat) : Int)))))], []⟩ hT (by kernel_rfl) ⟨(by decide), trivial⟩ ?_
    refine awp_cond (b := (decide ((30 : Int) < ((es.length : Nat) : Int)))) (by kernel_rfl) (fun c4 => ?_) (fun c4 => ?_)
    ·
      try simp only [bs] at c4
      refine awp_run_seq [2] [] [] ⟨13, [(2, .one (.int .i64 2))], []⟩ hT (by kernel_rfl) trivial ?_
      refine awp_ret ?_
      refine kRet.ret _ [] [] (.one (.int .i64 2)) [] (by kernel_rfl) trivial ?_
      exact ⟨congrArg (fun x1 => (.one (.int .i64 x1) : AV)) (show 2 = (pairErr n es) from by rw [pairErr, if_neg (by omega), if_pos (by omega)]), rfl⟩
    ·
      try simp only [bs] at c4
      refine awp_skip ?_
      refine awp_run_seq [2] [] [] ⟨13, [(2, .one (.int .i64 0))], []⟩ hT (by kernel_rfl) trivial ?_
      refine awp_ret ?_
      refine kRet.ret _ [] [] (.one (.int .i64 0)) [] (by kernel_rfl) trivial ?_
      exact ⟨congrArg (fun x1 => (.one (.int .i64 x1) : AV)) (show 0 = (pairErr n es) from by rw [pairErr, if_neg (by omega), if_neg (by omega)]), rfl⟩
theorem pairs_both (n s t : Int) (es : List Arc) (hl : es.length ≤ 30) : ACall Try.prog 111 [.agg [(.int .i64 n), (.ro (.arcs es))], .one (.int .i64 s), .one (.int .i64 t)] [] (fun ov oh => ov = .agg [(.int .i64 n), (.int .i64 s), (.int .i64 t), (.ro (.arcs (inter es)))] ∧ oh = []) := by
  refine acall_intro hT Try.func111 rfl (by kernel_rfl) rfl (by kernel_rfl) ?_
  refine awp_run_seq [1, 2, 3, 6] [103, 106] [] ⟨37, [(1, .one (.int .i64 s)), (2, .one (.int .i64 t)), (3, .one (.ptr 103 0 0)), (6, .one (.ptr 106 0 0))], [(103, .box 1 2 [(.int .i64 n), (.ro (.arcs es))]), (106, .box 1 4 [(.int .i64 0), (.int .i64 0), (.int .i64 0), .nils])]⟩ hT (by kernel_rfl) trivial ?_
  refine awp_run_seq [3, 6, 7] [103, 106, 107] [(0 < 1), (0 < 1)] ⟨37, [(3, .one (.ptr 103 0 0)), (6, .one (.ptr 106 0 0)), (7, .one (.ptr 107 0 0))], [(103, .box 1 2 [(.int .i64 n), (.ro (.arcs es))]), (106, .box 1 4 [(.int .i64 0), (.int .i64 0), (.int .i64 0), .nils]), (107, .box 1 4 [(.int .i64 n), (.int .i64 s), (.int .i64 t), .nils])]⟩ hT (by kernel_rfl) ⟨(by decide), (by decide), trivial⟩ ?_
  refine awp_seq ?_
  refine awp_run_seq [6, 7, 16, 17, 18] [106, 107] [(0 < 1)] ⟨37, [(6, .one (.ptr 106 0 0)), (7, .one (.ptr 107 0 0)), (16, .one (.ro (.arcs es))), (17, .one (.int .i64 ((es.length : Nat) : Int))), (18, .one (.int .i64 0))], [(106, .box 1 4 [(.int .i64 0), (.int .i64 0), (.int .i64 0), .nils]), (107, .box 1 4 [(.int .i64 n), (.int .i64 s), (.int .i64 t), .nils])]⟩ hT (by kernel_rfl) ⟨(by decide), trivial⟩ ?_
  refine awp_block ?_
  refine awp_weak (awk_empty 6703 (.flat (.arcs [])) rfl (by decide) _) ?_
  refine awp_weak (awk_boxcell 107 3 1 4 [(.int .i64 n), (.int .i64 s), (.int .i64 t), .nils] .nils (.rw 6703 0 0) _ (by kernel_rfl) rfl (wkv_nils (o := .flat (.arcs [])) (by kernel_rfl))) ?_
  refine awp_loop (I := fun κ σ => ∃ (i : Nat) (b : List Arc), ((i ≤ es.length) ∧ (b = inter (es.take i)) ∧ es.length - i = κ) ∧ σ = ⟨37, [(6, .one (.ptr 106 0 0)), (7, .one (.ptr 107 0 0)), (16, .one (.ro (.arcs es))), (17, .one (.int .i64 ((es.length : Nat) : Int))), (18, .one (.int .i64 (i : Int)))], [(106, .box 1 4 [(.int .i64 0), (.int .i64 0), (.int .i64 0), .nils]), (107, .box 1 4 [(.int .i64 n), (.int .i64 s), (.int .i64 t), (.rw 6703 0 b.length)]), (6703, .flat (.arcs b))]⟩) _ ⟨0, [], ⟨(by omega), (by rfl), rfl⟩, (by kernel_rfl)⟩ ?_
  rintro κ _ ⟨i, b, ⟨hi, hb, rfl⟩, rfl⟩
  have hbl : b.length ≤ 60 := by rw [hb, inter_len]; simp; omega
  refine awp_run_seq [6, 7, 16, 17, 18, 19] [106, 107, 6703] [] ⟨37, [(6, .one (.ptr 106 0 0)), (7, .one (.ptr 107 0 0)), (16, .one (.ro (.arcs es))), (17, .one (.int .i64 ((es.length : Nat) : Int))), (18, .one (.int .i64 (i : Int))), (19, .one (.bool (decide ((i : Int) < ((es.length : Nat) : Int)))))], [(106, .box 1 4 [(.int .i64 0), (.int .i64 0), (.int .i64 0), .nils]), (107, .box 1 4 [(.int .i64 n), (.int .i64 s), (.int .i64 t), (.rw 6703 0 b.length)]), (6703, .flat (.arcs b))]⟩ hT (by kernel_rfl) trivial ?_
  refine awp_seq ?_
  refine awp_cond (b := (decide ((i : Int) < ((es.length : Nat) : Int)))) (by kernel_rfl) (fun c3 => ?_) (fun c3 => ?_)
  ·
    try simp only [bs] at c3
    refine awp_skip ?_
    refine awp_seq ?_
    refine awp_block ?_
    refine awp_run_seq [6, 7, 9, 16, 17, 18] [106, 107, 109, 6703] [((0 : Int) ≤ (i : Int)), ((i : Int) < ((es.length : Nat) : Int)), (0 < 1)] ⟨37, [(6, .one (.ptr 106 0 0)), (7, .one (.ptr 107 0 0)), (9, .one (.ptr 109 0 0)), (16, .one (.ro (.arcs es))), (17, .one (.int .i64 ((es.length : Nat) : Int))), (18, .one (.int .i64 (i : Int)))], [(106, .box 1 4 [(.int .i64 0), (.int .i64 0), (.int .i64 0), .nils]), (107, .box 1 4 [(.int .i64 n), (.int .i64 s), (.int .i64 t), (.rw 6703 0 b.length)]), (109, .box 1 3 [(.int .i64 ((List.getD es i default).src)), (.int .i64 ((List.getD es i default).dst)), (.int .i64 ((List.getD es i default).cap))]), (6703, .flat (.arcs b))]⟩ hT (by kernel_rfl) ⟨(by omega), (by omega), (by decide), trivial⟩ ?_
    refine awp_region ?_
    refine aops_run 14 [6, 7, 16, 17, 18] [106, 107, 6703] [(0 < 1), (0 < 1), (0 < 1), (0 < 1), (0 < 1), (b.length = b.length), ((b.length + 2) * 24 ≤ 140737488355328), ((b.length + 2) ≤ 9223372036854775807), (0 < 1)] ⟨37, [(6, .one (.ptr 106 0 0)), (7, .one (.ptr 107 0 0)), (16, .one (.ro (.arcs es))), (17, .one (.int .i64 ((es.length : Nat) : Int))), (18, .one (.int .i64 (i : Int)))], [(106, .box 1 4 [(.int .i64 0), (.int .i64 0), (.int .i64 0), .nils]), (107, .box 1 4 [(.int .i64 n), (.int .i64 s), (.int .i64 t), (.rw 6703 0 (b.length + 2))]), (6703, .flat (.arcs (b ++ [⟨((List.getD es i default).src), ((List.getD es i default).dst), ((List.getD es i default).cap)⟩, ⟨((List.getD es i default).dst), ((List.getD es i default).src), ((List.getD es i default).cap)⟩])))]⟩ hT (by kernel_rfl) (by kernel_rfl) ⟨(by decide), (by decide), (by decide), (by decide), (by decide), (by omega), (by omega), (by omega), (by decide), trivial⟩ ?_
    refine aops_end (by kernel_rfl) ?_
    refine awp_run [6, 7, 16, 17, 18] [106, 107, 6703] [(-9223372036854775808 ≤ (((i + 1) : Nat) : Int) ∧ (((i + 1) : Nat) : Int) ≤ 9223372036854775807)] ⟨37, [(6, .one (.ptr 106 0 0)), (7, .one (.ptr 107 0 0)), (16, .one (.ro (.arcs es))), (17, .one (.int .i64 ((es.length : Nat) : Int))), (18, .one (.int .i64 (((i + 1) : Nat) : Int)))], [(106, .box 1 4 [(.int .i64 0), (.int .i64 0), (.int .i64 0), .nils]), (107, .box 1 4 [(.int .i64 n), (.int .i64 s), (.int .i64 t), (.rw 6703 0 (b.length + 2))]), (6703, .flat (.arcs (b ++ [⟨((List.getD es i default).src), ((List.getD es i default).dst), ((List.getD es i default).cap)⟩, ⟨((List.getD es i default).dst), ((List.getD es i default).src), ((List.getD es i default).cap)⟩])))]⟩ hT (by kernel_rfl) ⟨(by omega), trivial⟩ ?_
    refine loop_end _ ?_ ⟨(i + 1), (b ++ [⟨((List.getD es i default).src), ((List.getD es i default).dst), ((List.getD es i default).cap)⟩, ⟨((List.getD es i default).dst), ((List.getD es i default).src), ((List.getD es i default).cap)⟩]), ⟨(by omega), (by rw [hb, take_getD es default i (by omega), inter_snoc]; rfl), rfl⟩, (by first | (simp only [lens]; done) | (simp only [Nat.zero_add]; done) | simp only [lens, Nat.zero_add])⟩
    omega
  ·
    try simp only [bs] at c3
    have hfin : b = inter es := by rw [hb, List.take_of_length_le (by omega)]
    refine awp_exit ?_
    refine awp_run_seq [6] [106, 6703] [(0 < 1), (0 < 1)] ⟨37, [(6, .one (.ptr 106 0 0))], [(106, .box 1 4 [(.int .i64 n), (.int .i64 s), (.int .i64 t), (.rw 6703 0 b.length)]), (6703, .flat (.arcs b))]⟩ hT (by kernel_rfl) ⟨(by decide), (by decide), trivial⟩ ?_
    refine awp_weak (awk_seal 6703 (s' := ⟨37, [(6, .one (.ptr 106 0 0))], [(106, .box 1 4 [(.int .i64 n), (.int .i64 s), (.int .i64 t), (.ro (.arcs (List.take b.length b)))])]⟩) (by kernel_rfl)) ?_
    rw [show (List.take b.length b) = b from List.take_of_length_le (by first | omega | simp)]
    refine awp_ret ?_
    refine kRet.ret _ [] [(0 < 1)] (.agg [(.int .i64 n), (.int .i64 s), (.int .i64 t), (.ro (.arcs b))]) [] (by kernel_rfl) ⟨(by decide), trivial⟩ ?_
    exact ⟨congrArg (fun x1 => (.agg [(.int .i64 n), (.int .i64 s), (.int .i64 t), (.ro (.arcs x1))] : AV)) (show b = (inter es) from by exact hfin), rfl⟩
end Go.Ab
