/- Of graphs whose arcs go both ways. -/
import Derived.Test.YtcmaffldmodacaaTab
import Derived.Test.YtcmaffldmodacaaG1
import Derived.Test.YtcmaffldmodacaaF2
set_option maxRecDepth 100000
namespace Go.Ab
open Go Go.Proofs
theorem ref_both (n : Int) (es : List Arc) (hl : es.length ≤ 60) : ACall Try.prog 37 [.agg [(.int .i64 n), (.ro (.arcs es))]] [] (fun ov oh => ov = .agg [(.int .i64 n), (.ro (.arcs (bothA es)))] ∧ oh = []) := by
  refine acall_intro hT Try.func37 rfl (by kernel_rfl) rfl (by kernel_rfl) ?_
  refine awp_run_seq [1, 2] [101, 102] [] ⟨33, [(1, .one (.ptr 101 0 0)), (2, .one (.ptr 102 0 0))], [(101, .box 1 2 [(.int .i64 n), (.ro (.arcs es))]), (102, .box 1 2 [(.int .i64 0), .nils])]⟩ hT (by kernel_rfl) trivial ?_
  refine awp_seq (awp_calm2 [(4, ⟨[.one (.ro (.arcs es))], .one (.rw 9001 0 es.length), [(9001, .flat (.arcs es))], [(9001, 110)]⟩)] false [[], [0], [], [2], [2, 3], [0, 1, 2, 3, 4], [], [0, 1, 2, 3, 4, 5, 6]] 7 [1, 2, 3] [101, 102, 103, 110] [(0, []), (1, [(0 < 1)]), (2, []), (3, [(0 < 1)]), (4, [(AllP [] ∧ [.one (.ro (.arcs es))] = ([.one (.ro (.arcs es))] : List AV) ∧ ACall Try.prog 61 [.one (.ro (.arcs es))] [] (fun ov oh => ov = .one (.rw 9001 0 es.length) ∧ oh = [(9001, .flat (.arcs es))]))]), (5, []), (6, [])] [(7, [(0 < 1)])] 1 ⟨33, [(1, .one (.ptr 101 0 0)), (2, .one (.ptr 102 0 0)), (3, .one (.ptr 103 0 0))], [(101, .box 1 2 [(.int .i64 n), (.ro (.arcs es))]), (102, .box 1 2 [(.int .i64 0), .nils]), (103, .box 1 2 [(.int .i64 n), (.rw 110 0 es.length)]), (110, .flat (.arcs es))]⟩ (by kernel_rfl) (by kernel_rfl) hT (by kernel_rfl) (by kernel_rfl) ⟨trivial, ⟨(by decide), trivial⟩, trivial, ⟨(by decide), trivial⟩, ⟨⟨trivial, rfl, clone_arcs es (by first | omega | (simp; omega))⟩, trivial⟩, trivial, trivial, trivial⟩ ⟨⟨(by decide), trivial⟩, trivial⟩ ?_)
  refine awp_seq ?_
  refine awp_run_seq [2, 3, 13, 14, 15] [102, 103, 110] [(0 < 1)] ⟨33, [(2, .one (.ptr 102 0 0)), (3, .one (.ptr 103 0 0)), (13, .one (.ro (.arcs es))), (14, .one (.int .i64 ((es.length : Nat) : Int))), (15, .one (.int .i64 0))], [(102, .box 1 2 [(.int .i64 0), .nils]), (103, .box 1 2 [(.int .i64 n), (.rw 110 0 es.length)]), (110, .flat (.arcs es))]⟩ hT (by kernel_rfl) ⟨(by decide), trivial⟩ ?_
  refine awp_block ?_
  refine awp_loop (I := fun κ σ => ∃ (i : Nat) (b : List Arc), ((i ≤ es.length) ∧ (b = es ++ (es.take i).map backA) ∧ es.length - i = κ) ∧ σ = ⟨33, [(2, .one (.ptr 102 0 0)), (3, .one (.ptr 103 0 0)), (13, .one (.ro (.arcs es))), (14, .one (.int .i64 ((es.length : Nat) : Int))), (15, .one (.int .i64 (i : Int)))], [(102, .box 1 2 [(.int .i64 0), .nils]), (103, .box 1 2 [(.int .i64 n), (.rw 110 0 b.length)]), (110, .flat (.arcs b))]⟩) _ ⟨0, es, ⟨(by omega), (by simp), rfl⟩, (by kernel_rfl)⟩ ?_
  rintro κ _ ⟨i, b, ⟨hi, hb, rfl⟩, rfl⟩
  have hbl : b.length ≤ 120 := by rw [hb]; simp; omega
  refine awp_run_seq [2, 3, 13, 14, 15, 16] [102, 103, 110] [] ⟨33, [(2, .one (.ptr 102 0 0)), (3, .one (.ptr 103 0 0)), (13, .one (.ro (.arcs es))), (14, .one (.int .i64 ((es.length : Nat) : Int))), (15, .one (.int .i64 (i : Int))), (16, .one (.bool (decide ((i : Int) < ((es.length : Nat) : Int)))))], [(102, .box 1 2 [(.int .i64 0), .nils]), (103, .box 1 2 [(.int .i64 n), (.rw 110 0 b.length)]), (110, .flat (.arcs b))]⟩ hT (by kernel_rfl) trivial ?_
  refine awp_seq ?_
  refine awp_cond (b := (decide ((i : Int) < ((es.length : Nat) : Int)))) (by kernel_rfl) (fun c3 => ?_) (fun c3 => ?_)
  ·
    try simp only [bs] at c3
    refine awp_skip ?_
    refine awp_seq ?_
    refine awp_block ?_
    refine awp_run_seq [2, 3, 5, 13, 14, 15] [102, 103, 105, 110] [((0 : Int) ≤ (i : Int)), ((i : Int) < ((es.length : Nat) : Int)), (0 < 1)] ⟨33, [(2, .one (.ptr 102 0 0)), (3, .one (.ptr 103 0 0)), (5, .one (.ptr 105 0 0)), (13, .one (.ro (.arcs es))), (14, .one (.int .i64 ((es.length : Nat) : Int))), (15, .one (.int .i64 (i : Int)))], [(102, .box 1 2 [(.int .i64 0), .nils]), (103, .box 1 2 [(.int .i64 n), (.rw 110 0 b.length)]), (105, .box 1 3 [(.int .i64 ((List.getD es i default).src)), (.int .i64 ((List.getD es i default).dst)), (.int .i64 ((List.getD es i default).cap))]), (110, .flat (.arcs b))]⟩ hT (by kernel_rfl) ⟨(by omega), (by omega), (by decide), trivial⟩ ?_
    refine awp_region ?_
    refine aops_run 13 [2, 3, 13, 14, 15] [102, 103, 110] [(0 < 1), (0 < 1), (0 < 1), (0 < 1), (b.length = b.length), ((b.length + 1) * 24 ≤ 140737488355328), ((b.length + 1) ≤ 9223372036854775807), (0 < 1)] ⟨33, [(2, .one (.ptr 102 0 0)), (3, .one (.ptr 103 0 0)), (13, .one (.ro (.arcs es))), (14, .one (.int .i64 ((es.length : Nat) : Int))), (15, .one (.int .i64 (i : Int)))], [(102, .box 1 2 [(.int .i64 0), .nils]), (103, .box 1 2 [(.int .i64 n), (.rw 110 0 (b.length + 1))]), (110, .flat (.arcs (b ++ [⟨((List.getD es i default).dst), ((List.getD es i default).src), ((List.getD es i default).cap)⟩])))]⟩ hT (by kernel_rfl) (by kernel_rfl) ⟨(by decide), (by decide), (by decide), (by decide), (by omega), (by omega), (by omega), (by decide), trivial⟩ ?_
    refine aops_end (by kernel_rfl) ?_
    refine awp_run [2, 3, 13, 14, 15] [102, 103, 110] [(-9223372036854775808 ≤ (((i + 1) : Nat) : Int) ∧ (((i + 1) : Nat) : Int) ≤ 9223372036854775807)] ⟨33, [(2, .one (.ptr 102 0 0)), (3, .one (.ptr 103 0 0)), (13, .one (.ro (.arcs es))), (14, .one (.int .i64 ((es.length : Nat) : Int))), (15, .one (.int .i64 (((i + 1) : Nat) : Int)))], [(102, .box 1 2 [(.int .i64 0), .nils]), (103, .box 1 2 [(.int .i64 n), (.rw 110 0 (b.length + 1))]), (110, .flat (.arcs (b ++ [⟨((List.getD es i default).dst), ((List.getD es i default).src), ((List.getD es i default).cap)⟩])))]⟩ hT (by kernel_rfl) ⟨(by omega), trivial⟩ ?_
    refine loop_end _ ?_ ⟨(i + 1), (b ++ [⟨((List.getD es i default).dst), ((List.getD es i default).src), ((List.getD es i default).cap)⟩]), ⟨(by omega), (by rw [hb, take_getD es default i (by omega), List.map_append, List.append_assoc]; rfl), rfl⟩, (by first | (simp only [lens]; done) | (simp only [Nat.zero_add]; done) | simp only [lens, Nat.zero_add])⟩
    omega
  ·
    try simp only [bs] at c3
    have hfin : b = bothA es := by rw [hb, List.take_of_length_le (by omega)]; rfl
    refine awp_exit ?_
    refine awp_run_seq [2] [102, 110] [(0 < 1), (0 < 1)] ⟨33, [(2, .one (.ptr 102 0 0))], [(102, .box 1 2 [(.int .i64 n), (.rw 110 0 b.length)]), (110, .flat (.arcs b))]⟩ hT (by kernel_rfl) ⟨(by decide), (by decide), trivial⟩ ?_
    refine awp_weak (awk_seal 110 (s' := ⟨33, [(2, .one (.ptr 102 0 0))], [(102, .box 1 2 [(.int .i64 n), (.ro (.arcs (List.take b.length b)))])]⟩) (by kernel_rfl)) ?_
    rw [show (List.take b.length b) = b from List.take_of_length_le (by first | omega | simp)]
    refine awp_ret ?_
    refine kRet.ret _ [] [(0 < 1)] (.agg [(.int .i64 n), (.ro (.arcs b))]) [] (by kernel_rfl) ⟨(by decide), trivial⟩ ?_
    exact ⟨congrArg (fun x1 => (.agg [(.int .i64 n), (.ro (.arcs x1))] : AV)) (show b = (bothA es) from by exact hfin), rfl⟩
end Go.Ab
