/- Of graphs and nets: the checks, in the program and in the reference. -/
import Derived.Test.YtbapkmkhhgkenaaTab
import Derived.Test.YtbapkmkhhgkenaaF1
import Derived.Test.YtbapkmkhhgkenaaPlGraph
set_option maxRecDepth 100000
namespace Go.Ab
open Go Go.Proofs
theorem graph_check (n least : Int) (es : List Arc) : ACall Try.prog 81 [.agg [(.int .i64 n), (.ro (.arcs es))], .one (.int .i64 least)] [] (fun ov oh => ov = .one (.int .i64 (graphErr n es least)) ∧ oh = []) := by
  refine acall_intro hT Try.func81 rfl (by kernel_rfl) rfl (by kernel_rfl) ?_
  refine awp_run_seq [1, 2] [102] [] ⟨58, [(1, .one (.int .i64 least)), (2, .one (.ptr 102 0 0))], [(102, .box 1 2 [(.int .i64 n), (.ro (.arcs es))])]⟩ hT (by kernel_rfl) trivial ?_
  refine awp_seq ?_
  refine awp_run_seq [1, 2, 14] [102] [(0 < 1), ((!(decide (n < 1))) = true → ((!(decide (n < 1))) = true → (!(decide (n < 1))) = true)), ((!(decide (n < 1))) = true → (0 < 1)), ((!(decide (n < 1))) = true → ((!(decide (n < 1))) = true → (!(decide (n < 1))) = true)), ((!(decide (n < 1))) = true → (!(decide (n < 1))) = true)] ⟨58, [(1, .one (.int .i64 least)), (2, .one (.ptr 102 0 0)), (14, .one (.bool ((decide (n < 1)) || (decide ((12 : Int) < n)))))], [(102, .box 1 2 [(.int .i64 n), (.ro (.arcs es))])]⟩ hT (by kernel_rfl) ⟨(by decide), (by intro hg; first | exact hg | skip; (try simp only [bs] at hg ⊢); first | exact hg | first | omega | (simp only [lens]; omega) | grind), (by intro hg; first | exact hg | skip; (try simp only [bs] at hg); first | exact hg | first | omega | (simp only [lens]; omega) | grind), (by intro hg; first | exact hg | skip; (try simp only [bs] at hg ⊢); first | exact hg | first | omega | (simp only [lens]; omega) | grind), (fun h => h), trivial⟩ ?_
  refine awp_cond (b := ((decide (n < 1)) || (decide ((12 : Int) < n)))) (by kernel_rfl) (fun c1 => ?_) (fun c1 => ?_)
  · -- yes 1
    simp only [bs] at c1
    refine awp_run_seq [4] [] [] ⟨58, [(4, .one (.int .i64 1))], []⟩ hT (by kernel_rfl) trivial ?_
    refine awp_ret ?_
    refine kRet.ret _ [] [] (.one (.int .i64 1)) [] (by kernel_rfl) trivial ?_
    exact ⟨congrArg (fun x1 => (.one (.int .i64 x1) : AV)) (show 1 = (graphErr n es least) from by rw [graphErr, if_pos (by omega)]), rfl⟩
  · -- no 1
    simp only [bs] at c1
    refine awp_skip ?_
    refine awp_seq ?_
    refine awp_run_seq [1, 2, 18] [102] [(0 < 1)] ⟨58, [(1, .one (.int .i64 least)), (2, .one (.ptr 102 0 0)), (18, .one (.bool (decide ((60 : Int) < ((es.length : Nat) : Int)))))], [(102, .box 1 2 [(.int .i64 n), (.ro (.arcs es))])]⟩ hT (by kernel_rfl) ⟨(by decide), trivial⟩ ?_
    refine awp_cond (b := (decide ((60 : Int) < ((es.length : Nat) : Int)))) (by kernel_rfl) (fun c3 => ?_) (fun c3 => ?_)
    · -- yes 3
      simp only [bs] at c3
      refine awp_run_seq [4] [] [] ⟨58, [(4, .one (.int .i64 2))], []⟩ hT (by kernel_rfl) trivial ?_
      refine awp_ret ?_
      refine kRet.ret _ [] [] (.one (.int .i64 2)) [] (by kernel_rfl) trivial ?_
      exact ⟨congrArg (fun x1 => (.one (.int .i64 x1) : AV)) (show 2 = (graphErr n es least) from by rw [graphErr, if_neg (by omega), if_pos (by omega)]), rfl⟩
    · -- no 3
      simp only [bs] at c3
      refine awp_skip ?_
      refine awp_seq ?_
      refine awp_run_seq [1, 2, 20, 21, 22] [102] [(0 < 1)] ⟨58, [(1, .one (.int .i64 least)), (2, .one (.ptr 102 0 0)), (20, .one (.ro (.arcs es))), (21, .one (.int .i64 ((es.length : Nat) : Int))), (22, .one (.int .i64 0))], [(102, .box 1 2 [(.int .i64 n), (.ro (.arcs es))])]⟩ hT (by kernel_rfl) ⟨(by decide), trivial⟩ ?_
      refine awp_block ?_
      refine awp_loop (I := fun κ σ => ∃ (i : Nat), ((i ≤ es.length) ∧ (arcsErr n least (es.drop i) = arcsErr n least es) ∧ es.length - i = κ) ∧ σ = ⟨58, [(1, .one (.int .i64 least)), (2, .one (.ptr 102 0 0)), (20, .one (.ro (.arcs es))), (21, .one (.int .i64 ((es.length : Nat) : Int))), (22, .one (.int .i64 ((i : Nat) : Int)))], [(102, .box 1 2 [(.int .i64 n), (.ro (.arcs es))])]⟩) _ ⟨0, ⟨(by omega), (by rfl), rfl⟩, (by kernel_rfl)⟩ ?_
      rintro κ _ ⟨i, ⟨hi, he, rfl⟩, rfl⟩
      refine awp_run_seq [1, 2, 20, 21, 22, 23] [102] [] ⟨58, [(1, .one (.int .i64 least)), (2, .one (.ptr 102 0 0)), (20, .one (.ro (.arcs es))), (21, .one (.int .i64 ((es.length : Nat) : Int))), (22, .one (.int .i64 ((i : Nat) : Int))), (23, .one (.bool (decide (((i : Nat) : Int) < ((es.length : Nat) : Int)))))], [(102, .box 1 2 [(.int .i64 n), (.ro (.arcs es))])]⟩ hT (by kernel_rfl) trivial ?_
      refine awp_seq ?_
      refine awp_cond (b := (decide (((i : Nat) : Int) < ((es.length : Nat) : Int)))) (by kernel_rfl) (fun c6 => ?_) (fun c6 => ?_)
      · -- yes 6
        simp only [bs] at c6
        refine awp_skip ?_
        refine awp_seq ?_
        refine awp_block ?_
        refine awp_run_seq [1, 2, 6, 20, 21, 22] [102, 106] [((0 : Int) ≤ ((i : Nat) : Int)), (((i : Nat) : Int) < ((es.length : Nat) : Int)), (0 < 1)] ⟨58, [(1, .one (.int .i64 least)), (2, .one (.ptr 102 0 0)), (6, .one (.ptr 106 0 0)), (20, .one (.ro (.arcs es))), (21, .one (.int .i64 ((es.length : Nat) : Int))), (22, .one (.int .i64 ((i : Nat) : Int)))], [(102, .box 1 2 [(.int .i64 n), (.ro (.arcs es))]), (106, .box 1 3 [(.int .i64 ((List.getD es i default).src)), (.int .i64 ((List.getD es i default).dst)), (.int .i64 ((List.getD es i default).cap))])]⟩ hT (by kernel_rfl) ⟨(by first | omega | (simp only [lens]; omega)), (by first | omega | (simp only [lens]; omega)), (by decide), trivial⟩ ?_
        refine awp_seq ?_
        refine awp_run_seq [1, 2, 6, 20, 21, 22, 47] [102, 106] [(0 < 1), ((!(decide (((List.getD es i default).src) < 0))) = true → ((!(decide (((List.getD es i default).src) < 0))) = true → (!(decide (((List.getD es i default).src) < 0))) = true)), ((!(decide (((List.getD es i default).src) < 0))) = true → (0 < 1)), ((!(decide (((List.getD es i default).src) < 0))) = true → ((!(decide (((List.getD es i default).src) < 0))) = true → (!(decide (((List.getD es i default).src) < 0))) = true)), ((!(decide (((List.getD es i default).src) < 0))) = true → (0 < 1)), ((!(decide (((List.getD es i default).src) < 0))) = true → ((!(decide (((List.getD es i default).src) < 0))) = true → (!(decide (((List.getD es i default).src) < 0))) = true)), ((!(decide (((List.getD es i default).src) < 0))) = true → ((!(decide (((List.getD es i default).src) < 0))) = true → (!(decide (((List.getD es i default).src) < 0))) = true)), ((!(decide (((List.getD es i default).src) < 0))) = true → (!(decide (((List.getD es i default).src) < 0))) = true), ((!((decide (((List.getD es i default).src) < 0)) || (decide (n ≤ ((List.getD es i default).src))))) = true → ((!((decide (((List.getD es i default).src) < 0)) || (decide (n ≤ ((List.getD es i default).src))))) = true → (!((decide (((List.getD es i default).src) < 0)) || (decide (n ≤ ((List.getD es i default).src))))) = true)), ((!((decide (((List.getD es i default).src) < 0)) || (decide (n ≤ ((List.getD es i default).src))))) = true → (0 < 1)), ((!((decide (((List.getD es i default).src) < 0)) || (decide (n ≤ ((List.getD es i default).src))))) = true → ((!((decide (((List.getD es i default).src) < 0)) || (decide (n ≤ ((List.getD es i default).src))))) = true → (!((decide (((List.getD es i default).src) < 0)) || (decide (n ≤ ((List.getD es i default).src))))) = true)), ((!((decide (((List.getD es i default).src) < 0)) || (decide (n ≤ ((List.getD es i default).src))))) = true → (!((decide (((List.getD es i default).src) < 0)) || (decide (n ≤ ((List.getD es i default).src))))) = true), ((!(((decide (((List.getD es i default).src) < 0)) || (decide (n ≤ ((List.getD es i default).src)))) || (decide (((List.getD es i default).dst) < 0)))) = true → ((!(((decide (((List.getD es i default).src) < 0)) || (decide (n ≤ ((List.getD es i default).src)))) || (decide (((List.getD es i default).dst) < 0)))) = true → (!(((decide (((List.getD es i default).src) < 0)) || (decide (n ≤ ((List.getD es i default).src)))) || (decide (((List.getD es i default).dst) < 0)))) = true)), ((!(((decide (((List.getD es i default).src) < 0)) || (decide (n ≤ ((List.getD es i default).src)))) || (decide (((List.getD es i default).dst) < 0)))) = true → (0 < 1)), ((!(((decide (((List.getD es i default).src) < 0)) || (decide (n ≤ ((List.getD es i default).src)))) || (decide (((List.getD es i default).dst) < 0)))) = true → ((!(((decide (((List.getD es i default).src) < 0)) || (decide (n ≤ ((List.getD es i default).src)))) || (decide (((List.getD es i default).dst) < 0)))) = true → (!(((decide (((List.getD es i default).src) < 0)) || (decide (n ≤ ((List.getD es i default).src)))) || (decide (((List.getD es i default).dst) < 0)))) = true)), ((!(((decide (((List.getD es i default).src) < 0)) || (decide (n ≤ ((List.getD es i default).src)))) || (decide (((List.getD es i default).dst) < 0)))) = true → (0 < 1)), ((!(((decide (((List.getD es i default).src) < 0)) || (decide (n ≤ ((List.getD es i default).src)))) || (decide (((List.getD es i default).dst) < 0)))) = true → ((!(((decide (((List.getD es i default).src) < 0)) || (decide (n ≤ ((List.getD es i default).src)))) || (decide (((List.getD es i default).dst) < 0)))) = true → (!(((decide (((List.getD es i default).src) < 0)) || (decide (n ≤ ((List.getD es i default).src)))) || (decide (((List.getD es i default).dst) < 0)))) = true)), ((!(((decide (((List.getD es i default).src) < 0)) || (decide (n ≤ ((List.getD es i default).src)))) || (decide (((List.getD es i default).dst) < 0)))) = true → ((!(((decide (((List.getD es i default).src) < 0)) || (decide (n ≤ ((List.getD es i default).src)))) || (decide (((List.getD es i default).dst) < 0)))) = true → (!(((decide (((List.getD es i default).src) < 0)) || (decide (n ≤ ((List.getD es i default).src)))) || (decide (((List.getD es i default).dst) < 0)))) = true)), ((!(((decide (((List.getD es i default).src) < 0)) || (decide (n ≤ ((List.getD es i default).src)))) || (decide (((List.getD es i default).dst) < 0)))) = true → (!(((decide (((List.getD es i default).src) < 0)) || (decide (n ≤ ((List.getD es i default).src)))) || (decide (((List.getD es i default).dst) < 0)))) = true)] ⟨58, [(1, .one (.int .i64 least)), (2, .one (.ptr 102 0 0)), (6, .one (.ptr 106 0 0)), (20, .one (.ro (.arcs es))), (21, .one (.int .i64 ((es.length : Nat) : Int))), (22, .one (.int .i64 ((i : Nat) : Int))), (47, .one (.bool ((((decide (((List.getD es i default).src) < 0)) || (decide (n ≤ ((List.getD es i default).src)))) || (decide (((List.getD es i default).dst) < 0))) || (decide (n ≤ ((List.getD es i default).dst))))))], [(102, .box 1 2 [(.int .i64 n), (.ro (.arcs es))]), (106, .box 1 3 [(.int .i64 ((List.getD es i default).src)), (.int .i64 ((List.getD es i default).dst)), (.int .i64 ((List.getD es i default).cap))])]⟩ hT (by kernel_rfl) ⟨(by decide), (by intro hg; first | exact hg | skip; (try simp only [bs] at hg ⊢); first | exact hg | first | omega | (simp only [lens]; omega) | grind), (by intro hg; first | exact hg | skip; (try simp only [bs] at hg); first | exact hg | first | omega | (simp only [lens]; omega) | grind), (by intro hg; first | exact hg | skip; (try simp only [bs] at hg ⊢); first | exact hg | first | omega | (simp only [lens]; omega) | grind), (by intro hg; first | exact hg | skip; (try simp only [bs] at hg); first | exact hg | first | omega | (simp only [lens]; omega) | grind), (by intro hg; first | exact hg | skip; (try simp only [bs] at hg ⊢); first | exact hg | first | omega | (simp only [lens]; omega) | grind), (by intro hg; first | exact hg | skip; (try simp only [bs] at hg ⊢); first | exact hg | first | omega | (simp only [lens]; omega) | grind), (fun h => h), (by intro hg; first | exact hg | skip; (try simp only [bs] at hg ⊢); first | exact hg | first | omega | (simp only [lens]; omega) | grind), (by intro hg; first | exact hg | skip; (try simp only [bs] at hg); first | exact hg | first | omega | (simp only [lens]; omega) | grind), (by intro hg; first | exact hg | skip; (try simp only [bs] at hg ⊢); first | exact hg | first | omega | (simp only [lens]; omega) | grind), (fun h => h), (by intro hg; first | exact hg | skip; (try simp only [bs] at hg ⊢); first | exact hg | first | omega | (simp only [lens]; omega) | grind), (by intro hg; first | exact hg | skip; (try simp only [bs] at hg); first | exact hg | first | omega | (simp only [lens]; omega) | grind), (by intro hg; first | exact hg | skip; (try simp only [bs] at hg ⊢); first | exact hg | first | omega | (simp only [lens]; omega) | grind), (by intro hg; first | exact hg | skip; (try simp only [bs] at hg); first | exact hg | first | omega | (simp only [lens]; omega) | grind), (by intro hg; first | exact hg | skip; (try simp only [bs] at hg ⊢); first | exact hg | first | omega | (simp only [lens]; omega) | grind), (by intro hg; first | exact hg | skip; (try simp only [bs] at hg ⊢); first | exact hg | first | omega | (simp only [lens]; omega) | grind), (fun h => h), trivial⟩ ?_
        refine awp_cond (b := ((((decide (((List.getD es i default).src) < 0)) || (decide (n ≤ ((List.getD es i default).src)))) || (decide (((List.getD es i default).dst) < 0))) || (decide (n ≤ ((List.getD es i default).dst))))) (by kernel_rfl) (fun c8 => ?_) (fun c8 => ?_)
        · -- yes 8
          simp only [bs] at c8
          refine awp_run_seq [4] [] [] ⟨58, [(4, .one (.int .i64 4))], []⟩ hT (by kernel_rfl) trivial ?_
          refine awp_ret ?_
          refine kRet.ret _ [] [] (.one (.int .i64 4)) [] (by kernel_rfl) trivial ?_
          exact ⟨congrArg (fun x1 => (.one (.int .i64 x1) : AV)) (show 4 = (graphErr n es least) from by rw [graphErr, if_neg (by omega), if_neg (by omega), ← he, drop_getD es default i (by omega), arcsErr, if_pos (by omega)]), rfl⟩
        · -- no 8
          simp only [bs] at c8
          refine awp_skip ?_
          refine awp_run_seq [1, 2, 20, 21, 22, 56] [102] [(0 < 1), ((!(decide (((List.getD es i default).cap) < least))) = true → ((!(decide (((List.getD es i default).cap) < least))) = true → (!(decide (((List.getD es i default).cap) < least))) = true)), ((!(decide (((List.getD es i default).cap) < least))) = true → (0 < 1)), ((!(decide (((List.getD es i default).cap) < least))) = true → ((!(decide (((List.getD es i default).cap) < least))) = true → (!(decide (((List.getD es i default).cap) < least))) = true)), ((!(decide (((List.getD es i default).cap) < least))) = true → (!(decide (((List.getD es i default).cap) < least))) = true)] ⟨58, [(1, .one (.int .i64 least)), (2, .one (.ptr 102 0 0)), (20, .one (.ro (.arcs es))), (21, .one (.int .i64 ((es.length : Nat) : Int))), (22, .one (.int .i64 ((i : Nat) : Int))), (56, .one (.bool ((decide (((List.getD es i default).cap) < least)) || (decide ((10000 : Int) < ((List.getD es i default).cap))))))], [(102, .box 1 2 [(.int .i64 n), (.ro (.arcs es))])]⟩ hT (by kernel_rfl) ⟨(by decide), (by intro hg; first | exact hg | skip; (try simp only [bs] at hg ⊢); first | exact hg | first | omega | (simp only [lens]; omega) | grind), (by intro hg; first | exact hg | skip; (try simp only [bs] at hg); first | exact hg | first | omega | (simp only [lens]; omega) | grind), (by intro hg; first | exact hg | skip; (try simp only [bs] at hg ⊢); first | exact hg | first | omega | (simp only [lens]; omega) | grind), (fun h => h), trivial⟩ ?_
          refine awp_cond (b := ((decide (((List.getD es i default).cap) < least)) || (decide ((10000 : Int) < ((List.getD es i default).cap))))) (by kernel_rfl) (fun c10 => ?_) (fun c10 => ?_)
          · -- yes 10
            simp only [bs] at c10
            refine awp_run_seq [4] [] [] ⟨58, [(4, .one (.int .i64 1))], []⟩ hT (by kernel_rfl) trivial ?_
            refine awp_ret ?_
            refine kRet.ret _ [] [] (.one (.int .i64 1)) [] (by kernel_rfl) trivial ?_
            exact ⟨congrArg (fun x1 => (.one (.int .i64 x1) : AV)) (show 1 = (graphErr n es least) from by rw [graphErr, if_neg (by omega), if_neg (by omega), ← he, drop_getD es default i (by omega), arcsErr, if_neg (by omega), if_pos (by omega)]), rfl⟩
          · -- no 10
            simp only [bs] at c10
            refine awp_skip ?_
            refine awp_run [1, 2, 20, 21, 22] [102] [(-9223372036854775808 ≤ (((i + 1) : Nat) : Int) ∧ (((i + 1) : Nat) : Int) ≤ 9223372036854775807)] ⟨58, [(1, .one (.int .i64 least)), (2, .one (.ptr 102 0 0)), (20, .one (.ro (.arcs es))), (21, .one (.int .i64 ((es.length : Nat) : Int))), (22, .one (.int .i64 (((i + 1) : Nat) : Int)))], [(102, .box 1 2 [(.int .i64 n), (.ro (.arcs es))])]⟩ hT (by kernel_rfl) ⟨(by first | omega | (simp only [lens]; omega)), trivial⟩ ?_
            refine loop_end _ ?_ ⟨(i + 1), ⟨(by omega), (by rw [← he, drop_getD es default i (by omega), arcsErr, if_neg (by omega), if_neg (by omega)]), rfl⟩, (by kernel_rfl)⟩
            omega
      · -- no 6
        simp only [bs] at c6
        refine awp_exit ?_
        refine awp_run_seq [4] [] [] ⟨58, [(4, .one (.int .i64 0))], []⟩ hT (by kernel_rfl) trivial ?_
        refine awp_ret ?_
        refine kRet.ret _ [] [] (.one (.int .i64 0)) [] (by kernel_rfl) trivial ?_
        exact ⟨congrArg (fun x1 => (.one (.int .i64 x1) : AV)) (show 0 = (graphErr n es least) from by rw [graphErr, if_neg (by omega), if_neg (by omega), ← he, List.drop_of_length_le (by omega)]; rfl), rfl⟩

theorem ref_graphErr (n least : Int) (es : List Arc) : ACall Try.prog 32 [.agg [(.int .i64 n), (.ro (.arcs es))], .one (.int .i64 least)] [] (fun ov oh => ov = .one (.int .i64 (graphErr n es least)) ∧ oh = []) := by
  refine acall_intro hT Try.func32 rfl (by kernel_rfl) rfl (by kernel_rfl) ?_
  refine awp_run_seq [1, 2] [102] [] ⟨54, [(1, .one (.int .i64 least)), (2, .one (.ptr 102 0 0))], [(102, .box 1 2 [(.int .i64 n), (.ro (.arcs es))])]⟩ hT (by kernel_rfl) trivial ?_
  refine awp_seq ?_
  refine awp_block ?_
  refine awp_run_seq [1, 2, 7] [102] [(0 < 1), ((!(decide (n ≤ 0))) = true → ((!(decide (n ≤ 0))) = true → (!(decide (n ≤ 0))) = true)), ((!(decide (n ≤ 0))) = true → (0 < 1)), ((!(decide (n ≤ 0))) = true → ((!(decide (n ≤ 0))) = true → (!(decide (n ≤ 0))) = true)), ((!(decide (n ≤ 0))) = true → (!(decide (n ≤ 0))) = true)] ⟨54, [(1, .one (.int .i64 least)), (2, .one (.ptr 102 0 0)), (7, .one (.bool ((decide (n ≤ 0)) || (decide ((13 : Int) ≤ n)))))], [(102, .box 1 2 [(.int .i64 n), (.ro (.arcs es))])]⟩ hT (by kernel_rfl) ⟨(by decide), (by intro hg; first | exact hg | skip; (try simp only [bs] at hg ⊢); first | exact hg | first | omega | (simp only [lens]; omega) | grind), (by intro hg; first | exact hg | skip; (try simp only [bs] at hg); first | exact hg | first | omega | (simp only [lens]; omega) | grind), (by intro hg; first | exact hg | skip; (try simp only [bs] at hg ⊢); first | exact hg | first | omega | (simp only [lens]; omega) | grind), (fun h => h), trivial⟩ ?_
  refine awp_cond (b := ((decide (n ≤ 0)) || (decide ((13 : Int) ≤ n)))) (by kernel_rfl) (fun c1 => ?_) (fun c1 => ?_)
  · -- yes 1
    simp only [bs] at c1
    refine awp_run_seq [4] [] [] ⟨54, [(4, .one (.int .i64 1))], []⟩ hT (by kernel_rfl) trivial ?_
    refine awp_ret ?_
    refine kRet.ret _ [] [] (.one (.int .i64 1)) [] (by kernel_rfl) trivial ?_
    exact ⟨congrArg (fun x1 => (.one (.int .i64 x1) : AV)) (show 1 = (graphErr n es least) from by rw [graphErr, if_pos (by omega)]), rfl⟩
  · -- no 1
    simp only [bs] at c1
    refine awp_run_seq [1, 2, 16] [102] [(0 < 1)] ⟨54, [(1, .one (.int .i64 least)), (2, .one (.ptr 102 0 0)), (16, .one (.bool (decide ((60 : Int) < ((es.length : Nat) : Int)))))], [(102, .box 1 2 [(.int .i64 n), (.ro (.arcs es))])]⟩ hT (by kernel_rfl) ⟨(by decide), trivial⟩ ?_
    refine awp_cond (b := (decide ((60 : Int) < ((es.length : Nat) : Int)))) (by kernel_rfl) (fun c3 => ?_) (fun c3 => ?_)
    · -- yes 3
      simp only [bs] at c3
      refine awp_run_seq [4] [] [] ⟨54, [(4, .one (.int .i64 2))], []⟩ hT (by kernel_rfl) trivial ?_
      refine awp_ret ?_
      refine kRet.ret _ [] [] (.one (.int .i64 2)) [] (by kernel_rfl) trivial ?_
      exact ⟨congrArg (fun x1 => (.one (.int .i64 x1) : AV)) (show 2 = (graphErr n es least) from by rw [graphErr, if_neg (by omega), if_pos (by omega)]), rfl⟩
    · -- no 3
      simp only [bs] at c3
      refine awp_skip ?_
      refine awp_seq ?_
      refine awp_run_seq [1, 2, 22, 23, 24] [102] [(0 < 1)] ⟨54, [(1, .one (.int .i64 least)), (2, .one (.ptr 102 0 0)), (22, .one (.ro (.arcs es))), (23, .one (.int .i64 ((es.length : Nat) : Int))), (24, .one (.int .i64 0))], [(102, .box 1 2 [(.int .i64 n), (.ro (.arcs es))])]⟩ hT (by kernel_rfl) ⟨(by decide), trivial⟩ ?_
      refine awp_block ?_
      refine awp_loop (I := fun κ σ => ∃ (i : Nat), ((i ≤ es.length) ∧ (arcsErr n least (es.drop i) = arcsErr n least es) ∧ es.length - i = κ) ∧ σ = ⟨54, [(1, .one (.int .i64 least)), (2, .one (.ptr 102 0 0)), (22, .one (.ro (.arcs es))), (23, .one (.int .i64 ((es.length : Nat) : Int))), (24, .one (.int .i64 ((i : Nat) : Int)))], [(102, .box 1 2 [(.int .i64 n), (.ro (.arcs es))])]⟩) _ ⟨0, ⟨(by omega), (by rfl), rfl⟩, (by kernel_rfl)⟩ ?_
      rintro κ _ ⟨i, ⟨hi, he, rfl⟩, rfl⟩
      refine awp_run_seq [1, 2, 22, 23, 24, 25] [102] [] ⟨54, [(1, .one (.int .i64 least)), (2, .one (.ptr 102 0 0)), (22, .one (.ro (.arcs es))), (23, .one (.int .i64 ((es.length : Nat) : Int))), (24, .one (.int .i64 ((i : Nat) : Int))), (25, .one (.bool (decide (((i : Nat) : Int) < ((es.length : Nat) : Int)))))], [(102, .box 1 2 [(.int .i64 n), (.ro (.arcs es))])]⟩ hT (by kernel_rfl) trivial ?_
      refine awp_seq ?_
      refine awp_cond (b := (decide (((i : Nat) : Int) < ((es.length : Nat) : Int)))) (by kernel_rfl) (fun c6 => ?_) (fun c6 => ?_)
      · -- yes 6
        simp only [bs] at c6
        refine awp_skip ?_
        refine awp_seq ?_
        refine awp_block ?_
        refine awp_run_seq [1, 2, 6, 22, 23, 24] [102, 106] [((0 : Int) ≤ ((i : Nat) : Int)), (((i : Nat) : Int) < ((es.length : Nat) : Int)), (0 < 1)] ⟨54, [(1, .one (.int .i64 least)), (2, .one (.ptr 102 0 0)), (6, .one (.ptr 106 0 0)), (22, .one (.ro (.arcs es))), (23, .one (.int .i64 ((es.length : Nat) : Int))), (24, .one (.int .i64 ((i : Nat) : Int)))], [(102, .box 1 2 [(.int .i64 n), (.ro (.arcs es))]), (106, .box 1 3 [(.int .i64 ((List.getD es i default).src)), (.int .i64 ((List.getD es i default).dst)), (.int .i64 ((List.getD es i default).cap))])]⟩ hT (by kernel_rfl) ⟨(by first | omega | (simp only [lens]; omega)), (by first | omega | (simp only [lens]; omega)), (by decide), trivial⟩ ?_
        refine awp_seq ?_
        refine awp_run_seq [1, 2, 6, 22, 23, 24, 43] [102, 106] [(0 < 1), (0 < 1), ((!(decide ((min ((List.getD es i default).src) ((List.getD es i default).dst)) < 0))) = true → ((!(decide ((min ((List.getD es i default).src) ((List.getD es i default).dst)) < 0))) = true → (!(decide ((min ((List.getD es i default).src) ((List.getD es i default).dst)) < 0))) = true)), ((!(decide ((min ((List.getD es i default).src) ((List.getD es i default).dst)) < 0))) = true → (0 < 1)), ((!(decide ((min ((List.getD es i default).src) ((List.getD es i default).dst)) < 0))) = true → ((!(decide ((min ((List.getD es i default).src) ((List.getD es i default).dst)) < 0))) = true → (!(decide ((min ((List.getD es i default).src) ((List.getD es i default).dst)) < 0))) = true)), ((!(decide ((min ((List.getD es i default).src) ((List.getD es i default).dst)) < 0))) = true → (0 < 1)), ((!(decide ((min ((List.getD es i default).src) ((List.getD es i default).dst)) < 0))) = true → ((!(decide ((min ((List.getD es i default).src) ((List.getD es i default).dst)) < 0))) = true → (!(decide ((min ((List.getD es i default).src) ((List.getD es i default).dst)) < 0))) = true)), ((!(decide ((min ((List.getD es i default).src) ((List.getD es i default).dst)) < 0))) = true → ((!(decide ((min ((List.getD es i default).src) ((List.getD es i default).dst)) < 0))) = true → (!(decide ((min ((List.getD es i default).src) ((List.getD es i default).dst)) < 0))) = true)), ((!(decide ((min ((List.getD es i default).src) ((List.getD es i default).dst)) < 0))) = true → ((!(decide ((min ((List.getD es i default).src) ((List.getD es i default).dst)) < 0))) = true → (!(decide ((min ((List.getD es i default).src) ((List.getD es i default).dst)) < 0))) = true)), ((!(decide ((min ((List.getD es i default).src) ((List.getD es i default).dst)) < 0))) = true → (0 < 1)), ((!(decide ((min ((List.getD es i default).src) ((List.getD es i default).dst)) < 0))) = true → ((!(decide ((min ((List.getD es i default).src) ((List.getD es i default).dst)) < 0))) = true → (!(decide ((min ((List.getD es i default).src) ((List.getD es i default).dst)) < 0))) = true)), ((!(decide ((min ((List.getD es i default).src) ((List.getD es i default).dst)) < 0))) = true → ((!(decide ((min ((List.getD es i default).src) ((List.getD es i default).dst)) < 0))) = true → (!(decide ((min ((List.getD es i default).src) ((List.getD es i default).dst)) < 0))) = true)), ((!(decide ((min ((List.getD es i default).src) ((List.getD es i default).dst)) < 0))) = true → (!(decide ((min ((List.getD es i default).src) ((List.getD es i default).dst)) < 0))) = true)] ⟨54, [(1, .one (.int .i64 least)), (2, .one (.ptr 102 0 0)), (6, .one (.ptr 106 0 0)), (22, .one (.ro (.arcs es))), (23, .one (.int .i64 ((es.length : Nat) : Int))), (24, .one (.int .i64 ((i : Nat) : Int))), (43, .one (.bool ((decide ((min ((List.getD es i default).src) ((List.getD es i default).dst)) < 0)) || (decide (n ≤ (max ((List.getD es i default).src) ((List.getD es i default).dst)))))))], [(102, .box 1 2 [(.int .i64 n), (.ro (.arcs es))]), (106, .box 1 3 [(.int .i64 ((List.getD es i default).src)), (.int .i64 ((List.getD es i default).dst)), (.int .i64 ((List.getD es i default).cap))])]⟩ hT (by kernel_rfl) ⟨(by decide), (by decide), (by intro hg; first | exact hg | skip; (try simp only [bs] at hg ⊢); first | exact hg | first | omega | (simp only [lens]; omega) | grind), (by intro hg; first | exact hg | skip; (try simp only [bs] at hg); first | exact hg | first | omega | (simp only [lens]; omega) | grind), (by intro hg; first | exact hg | skip; (try simp only [bs] at hg ⊢); first | exact hg | first | omega | (simp only [lens]; omega) | grind), (by intro hg; first | exact hg | skip; (try simp only [bs] at hg); first | exact hg | first | omega | (simp only [lens]; omega) | grind), (by intro hg; first | exact hg | skip; (try simp only [bs] at hg ⊢); first | exact hg | first | omega | (simp only [lens]; omega) | grind), (by intro hg; first | exact hg | skip; (try simp only [bs] at hg ⊢); first | exact hg | first | omega | (simp only [lens]; omega) | grind), (by intro hg; first | exact hg | skip; (try simp only [bs] at hg ⊢); first | exact hg | first | omega | (simp only [lens]; omega) | grind), (by intro hg; first | exact hg | skip; (try simp only [bs] at hg); first | exact hg | first | omega | (simp only [lens]; omega) | grind), (by intro hg; first | exact hg | skip; (try simp only [bs] at hg ⊢); first | exact hg | first | omega | (simp only [lens]; omega) | grind), (by intro hg; first | exact hg | skip; (try simp only [bs] at hg ⊢); first | exact hg | first | omega | (simp only [lens]; omega) | grind), (fun h => h), trivial⟩ ?_
        refine awp_cond (b := ((decide ((min ((List.getD es i default).src) ((List.getD es i default).dst)) < 0)) || (decide (n ≤ (max ((List.getD es i default).src) ((List.getD es i default).dst)))))) (by kernel_rfl) (fun c8 => ?_) (fun c8 => ?_)
        · -- yes 8
          simp only [bs] at c8
          refine awp_run_seq [4] [] [] ⟨54, [(4, .one (.int .i64 4))], []⟩ hT (by kernel_rfl) trivial ?_
          refine awp_ret ?_
          refine kRet.ret _ [] [] (.one (.int .i64 4)) [] (by kernel_rfl) trivial ?_
          exact ⟨congrArg (fun x1 => (.one (.int .i64 x1) : AV)) (show 4 = (graphErr n es least) from by rw [graphErr, if_neg (by omega), if_neg (by omega), ← he, drop_getD es default i (by omega), arcsErr, if_pos (by omega)]), rfl⟩
        · -- no 8
          simp only [bs] at c8
          refine awp_skip ?_
          refine awp_run_seq [1, 2, 22, 23, 24, 52] [102] [(0 < 1), ((!(decide (((List.getD es i default).cap) < least))) = true → ((!(decide (((List.getD es i default).cap) < least))) = true → (!(decide (((List.getD es i default).cap) < least))) = true)), ((!(decide (((List.getD es i default).cap) < least))) = true → (0 < 1)), ((!(decide (((List.getD es i default).cap) < least))) = true → ((!(decide (((List.getD es i default).cap) < least))) = true → (!(decide (((List.getD es i default).cap) < least))) = true)), ((!(decide (((List.getD es i default).cap) < least))) = true → (!(decide (((List.getD es i default).cap) < least))) = true)] ⟨54, [(1, .one (.int .i64 least)), (2, .one (.ptr 102 0 0)), (22, .one (.ro (.arcs es))), (23, .one (.int .i64 ((es.length : Nat) : Int))), (24, .one (.int .i64 ((i : Nat) : Int))), (52, .one (.bool ((decide (((List.getD es i default).cap) < least)) || (decide ((10000 : Int) < ((List.getD es i default).cap))))))], [(102, .box 1 2 [(.int .i64 n), (.ro (.arcs es))])]⟩ hT (by kernel_rfl) ⟨(by decide), (by intro hg; first | exact hg | skip; (try simp only [bs] at hg ⊢); first | exact hg | first | omega | (simp only [lens]; omega) | grind), (by intro hg; first | exact hg | skip; (try simp only [bs] at hg); first | exact hg | first | omega | (simp only [lens]; omega) | grind), (by intro hg; first | exact hg | skip; (try simp only [bs] at hg ⊢); first | exact hg | first | omega | (simp only [lens]; omega) | grind), (fun h => h), trivial⟩ ?_
          refine awp_cond (b := ((decide (((List.getD es i default).cap) < least)) || (decide ((10000 : Int) < ((List.getD es i default).cap))))) (by kernel_rfl) (fun c10 => ?_) (fun c10 => ?_)
          · -- yes 10
            simp only [bs] at c10
            refine awp_run_seq [4] [] [] ⟨54, [(4, .one (.int .i64 1))], []⟩ hT (by kernel_rfl) trivial ?_
            refine awp_ret ?_
            refine kRet.ret _ [] [] (.one (.int .i64 1)) [] (by kernel_rfl) trivial ?_
            exact ⟨congrArg (fun x1 => (.one (.int .i64 x1) : AV)) (show 1 = (graphErr n es least) from by rw [graphErr, if_neg (by omega), if_neg (by omega), ← he, drop_getD es default i (by omega), arcsErr, if_neg (by omega), if_pos (by omega)]), rfl⟩
          · -- no 10
            simp only [bs] at c10
            refine awp_skip ?_
            refine awp_run [1, 2, 22, 23, 24] [102] [(-9223372036854775808 ≤ (((i + 1) : Nat) : Int) ∧ (((i + 1) : Nat) : Int) ≤ 9223372036854775807)] ⟨54, [(1, .one (.int .i64 least)), (2, .one (.ptr 102 0 0)), (22, .one (.ro (.arcs es))), (23, .one (.int .i64 ((es.length : Nat) : Int))), (24, .one (.int .i64 (((i + 1) : Nat) : Int)))], [(102, .box 1 2 [(.int .i64 n), (.ro (.arcs es))])]⟩ hT (by kernel_rfl) ⟨(by first | omega | (simp only [lens]; omega)), trivial⟩ ?_
            refine loop_end _ ?_ ⟨(i + 1), ⟨(by omega), (by rw [← he, drop_getD es default i (by omega), arcsErr, if_neg (by omega), if_neg (by omega)]), rfl⟩, (by kernel_rfl)⟩
            omega
      · -- no 6
        simp only [bs] at c6
        refine awp_exit ?_
        refine awp_run_seq [4] [] [] ⟨54, [(4, .one (.int .i64 0))], []⟩ hT (by kernel_rfl) trivial ?_
        refine awp_ret ?_
        refine kRet.ret _ [] [] (.one (.int .i64 0)) [] (by kernel_rfl) trivial ?_
        exact ⟨congrArg (fun x1 => (.one (.int .i64 x1) : AV)) (show 0 = (graphErr n es least) from by rw [graphErr, if_neg (by omega), if_neg (by omega), ← he, List.drop_of_length_le (by omega)]; rfl), rfl⟩

theorem graph_Check (n : Int) (es : List Arc) : ACall Try.prog 31 [.agg [(.int .i64 n), (.ro (.arcs es))]] [] (fun ov oh => ov = .one (.int .i64 (graphErr n es 0)) ∧ oh = []) := by
  refine acall_intro hT Try.func31 rfl (by kernel_rfl) rfl (by kernel_rfl) ?_
  refine awp_run_seq [1] [101] [] ⟨5, [(1, .one (.ptr 101 0 0))], [(101, .box 1 2 [(.int .i64 n), (.ro (.arcs es))])]⟩ hT (by kernel_rfl) trivial ?_
  refine awp_seq (awp_region ?_)
  refine aops_run 1 [3] [] [(0 < 1)] ⟨5, [(3, .agg [(.int .i64 n), (.ro (.arcs es))])], []⟩ hT (by kernel_rfl) (by kernel_rfl) ⟨(by decide), trivial⟩ ?_
  refine aops_pure false ⟨true, [], 81, [.agg [(.int .i64 n), (.ro (.arcs es))], .one (.int .i64 0)], []⟩ [.agg [(.int .i64 n), (.ro (.arcs es))], .one (.int .i64 0)] (.one (.int .i64 (graphErr n es (0)))) ⟨5, [(3, .agg [(.int .i64 n), (.ro (.arcs es))]), (4, .one (.int .i64 (graphErr n es (0))))], []⟩ (by kernel_rfl) (by kernel_rfl) (fun _ => trivial) rfl (fun _ => graph_check n (0) es) ?_
  refine aops_run 1 [2] [] [] ⟨5, [(2, .one (.int .i64 (graphErr n es (0))))], []⟩ hT (by kernel_rfl) (by kernel_rfl) trivial ?_
  refine aops_end_seq (by kernel_rfl) ?_
  refine awp_ret ?_
  refine kRet.ret _ [] [] (.one (.int .i64 (graphErr n es (0)))) [] (by kernel_rfl) trivial ?_
  exact ⟨congrArg (fun x1 => (.one (.int .i64 x1) : AV)) (show (graphErr n es (0)) = (graphErr n es 0) from by rfl), rfl⟩

theorem graph_CheckLong (n : Int) (es : List Arc) : ACall Try.prog 33 [.agg [(.int .i64 n), (.ro (.arcs es))]] [] (fun ov oh => ov = .one (.int .i64 (graphErr n es (-10000))) ∧ oh = []) := by
  refine acall_intro hT Try.func33 rfl (by kernel_rfl) rfl (by kernel_rfl) ?_
  refine awp_run_seq [1] [101] [] ⟨5, [(1, .one (.ptr 101 0 0))], [(101, .box 1 2 [(.int .i64 n), (.ro (.arcs es))])]⟩ hT (by kernel_rfl) trivial ?_
  refine awp_seq (awp_region ?_)
  refine aops_run 1 [3] [] [(0 < 1)] ⟨5, [(3, .agg [(.int .i64 n), (.ro (.arcs es))])], []⟩ hT (by kernel_rfl) (by kernel_rfl) ⟨(by decide), trivial⟩ ?_
  refine aops_pure false ⟨true, [], 81, [.agg [(.int .i64 n), (.ro (.arcs es))], .one (.int .i64 (-10000))], []⟩ [.agg [(.int .i64 n), (.ro (.arcs es))], .one (.int .i64 (-10000))] (.one (.int .i64 (graphErr n es (-10000)))) ⟨5, [(3, .agg [(.int .i64 n), (.ro (.arcs es))]), (4, .one (.int .i64 (graphErr n es (-10000))))], []⟩ (by kernel_rfl) (by kernel_rfl) (fun _ => trivial) rfl (fun _ => graph_check n (-10000) es) ?_
  refine aops_run 1 [2] [] [] ⟨5, [(2, .one (.int .i64 (graphErr n es (-10000))))], []⟩ hT (by kernel_rfl) (by kernel_rfl) trivial ?_
  refine aops_end_seq (by kernel_rfl) ?_
  refine awp_ret ?_
  refine kRet.ret _ [] [] (.one (.int .i64 (graphErr n es (-10000)))) [] (by kernel_rfl) trivial ?_
  exact ⟨rfl, rfl⟩

theorem ref_LongErr (n : Int) (es : List Arc) : ACall Try.prog 34 [.agg [(.int .i64 n), (.ro (.arcs es))]] [] (fun ov oh => ov = .one (.int .i64 (graphErr n es (-10000))) ∧ oh = []) := by
  refine acall_intro hT Try.func34 rfl (by kernel_rfl) rfl (by kernel_rfl) ?_
  refine awp_run_seq [1] [101] [] ⟨5, [(1, .one (.ptr 101 0 0))], [(101, .box 1 2 [(.int .i64 n), (.ro (.arcs es))])]⟩ hT (by kernel_rfl) trivial ?_
  refine awp_seq (awp_region ?_)
  refine aops_run 1 [3] [] [(0 < 1)] ⟨5, [(3, .agg [(.int .i64 n), (.ro (.arcs es))])], []⟩ hT (by kernel_rfl) (by kernel_rfl) ⟨(by decide), trivial⟩ ?_
  refine aops_pure false ⟨true, [], 32, [.agg [(.int .i64 n), (.ro (.arcs es))], .one (.int .i64 (-10000))], []⟩ [.agg [(.int .i64 n), (.ro (.arcs es))], .one (.int .i64 (-10000))] (.one (.int .i64 (graphErr n es (-10000)))) ⟨5, [(3, .agg [(.int .i64 n), (.ro (.arcs es))]), (4, .one (.int .i64 (graphErr n es (-10000))))], []⟩ (by kernel_rfl) (by kernel_rfl) (fun _ => trivial) rfl (fun _ => ref_graphErr n (-10000) es) ?_
  refine aops_run 1 [2] [] [] ⟨5, [(2, .one (.int .i64 (graphErr n es (-10000))))], []⟩ hT (by kernel_rfl) (by kernel_rfl) trivial ?_
  refine aops_end_seq (by kernel_rfl) ?_
  refine awp_ret ?_
  refine kRet.ret _ [] [] (.one (.int .i64 (graphErr n es (-10000)))) [] (by kernel_rfl) trivial ?_
  exact ⟨rfl, rfl⟩

theorem graph_CheckNet (n s t : Int) (es : List Arc) : ACall Try.prog 35 [.agg [(.int .i64 n), (.int .i64 s), (.int .i64 t), (.ro (.arcs es))]] [] (fun ov oh => ov = .one (.int .i64 (netErr n s t es)) ∧ oh = []) := by
  refine acall_intro hT Try.func35 rfl (by kernel_rfl) rfl (by kernel_rfl) ?_
  refine awp_run_seq [1] [101] [] ⟨40, [(1, .one (.ptr 101 0 0))], [(101, .box 1 4 [(.int .i64 n), (.int .i64 s), (.int .i64 t), (.ro (.arcs es))])]⟩ hT (by kernel_rfl) trivial ?_
  refine awp_seq ?_
  refine awp_seq (awp_region ?_)
  refine aops_run 5 [1, 8] [101] [(0 < 1), (0 < 1)] ⟨40, [(1, .one (.ptr 101 0 0)), (8, .agg [(.int .i64 n), (.ro (.arcs es))])], [(101, .box 1 4 [(.int .i64 n), (.int .i64 s), (.int .i64 t), (.ro (.arcs es))])]⟩ hT (by kernel_rfl) (by kernel_rfl) ⟨(by decide), (by decide), trivial⟩ ?_
  refine aops_pure false ⟨true, [], 31, [.agg [(.int .i64 n), (.ro (.arcs es))]], []⟩ [.agg [(.int .i64 n), (.ro (.arcs es))]] (.one (.int .i64 (graphErr n es 0))) ⟨40, [(1, .one (.ptr 101 0 0)), (8, .agg [(.int .i64 n), (.ro (.arcs es))]), (9, .one (.int .i64 (graphErr n es 0)))], [(101, .box 1 4 [(.int .i64 n), (.int .i64 s), (.int .i64 t), (.ro (.arcs es))])]⟩ (by kernel_rfl) (by kernel_rfl) (fun _ => trivial) rfl (fun _ => graph_Check n es) ?_
  refine aops_run 1 [1, 3] [101] [] ⟨40, [(1, .one (.ptr 101 0 0)), (3, .one (.int .i64 (graphErr n es 0)))], [(101, .box 1 4 [(.int .i64 n), (.int .i64 s), (.int .i64 t), (.ro (.arcs es))])]⟩ hT (by kernel_rfl) (by kernel_rfl) trivial ?_
  refine aops_end_seq (by kernel_rfl) ?_
  refine awp_run_seq [1, 3, 11] [101] [] ⟨40, [(1, .one (.ptr 101 0 0)), (3, .one (.int .i64 (graphErr n es 0))), (11, .one (.bool (decide ((graphErr n es 0) ≠ 0))))], [(101, .box 1 4 [(.int .i64 n), (.int .i64 s), (.int .i64 t), (.ro (.arcs es))])]⟩ hT (by kernel_rfl) trivial ?_
  refine awp_cond (b := (decide ((graphErr n es 0) ≠ 0))) (by kernel_rfl) (fun c2 => ?_) (fun c2 => ?_)
  · -- yes 2
    simp only [bs] at c2
    refine awp_run_seq [2] [] [] ⟨40, [(2, .one (.int .i64 (graphErr n es 0)))], []⟩ hT (by kernel_rfl) trivial ?_
    refine awp_ret ?_
    refine kRet.ret _ [] [] (.one (.int .i64 (graphErr n es 0))) [] (by kernel_rfl) trivial ?_
    exact ⟨congrArg (fun x1 => (.one (.int .i64 x1) : AV)) (show (graphErr n es 0) = (netErr n s t es) from by rw [netErr, if_pos c2]), rfl⟩
  · -- no 2
    simp only [bs] at c2
    refine awp_skip ?_
    refine awp_seq ?_
    refine awp_run_seq [1, 34] [101] [(0 < 1), ((!(decide (s < 0))) = true → ((!(decide (s < 0))) = true → (!(decide (s < 0))) = true)), ((!(decide (s < 0))) = true → (0 < 1)), ((!(decide (s < 0))) = true → ((!(decide (s < 0))) = true → (!(decide (s < 0))) = true)), ((!(decide (s < 0))) = true → (0 < 1)), ((!(decide (s < 0))) = true → ((!(decide (s < 0))) = true → (!(decide (s < 0))) = true)), ((!(decide (s < 0))) = true → ((!(decide (s < 0))) = true → (!(decide (s < 0))) = true)), ((!(decide (s < 0))) = true → (!(decide (s < 0))) = true), ((!((decide (s < 0)) || (decide (n ≤ s)))) = true → ((!((decide (s < 0)) || (decide (n ≤ s)))) = true → (!((decide (s < 0)) || (decide (n ≤ s)))) = true)), ((!((decide (s < 0)) || (decide (n ≤ s)))) = true → (0 < 1)), ((!((decide (s < 0)) || (decide (n ≤ s)))) = true → ((!((decide (s < 0)) || (decide (n ≤ s)))) = true → (!((decide (s < 0)) || (decide (n ≤ s)))) = true)), ((!((decide (s < 0)) || (decide (n ≤ s)))) = true → (!((decide (s < 0)) || (decide (n ≤ s)))) = true), ((!(((decide (s < 0)) || (decide (n ≤ s))) || (decide (t < 0)))) = true → ((!(((decide (s < 0)) || (decide (n ≤ s))) || (decide (t < 0)))) = true → (!(((decide (s < 0)) || (decide (n ≤ s))) || (decide (t < 0)))) = true)), ((!(((decide (s < 0)) || (decide (n ≤ s))) || (decide (t < 0)))) = true → (0 < 1)), ((!(((decide (s < 0)) || (decide (n ≤ s))) || (decide (t < 0)))) = true → ((!(((decide (s < 0)) || (decide (n ≤ s))) || (decide (t < 0)))) = true → (!(((decide (s < 0)) || (decide (n ≤ s))) || (decide (t < 0)))) = true)), ((!(((decide (s < 0)) || (decide (n ≤ s))) || (decide (t < 0)))) = true → (0 < 1)), ((!(((decide (s < 0)) || (decide (n ≤ s))) || (decide (t < 0)))) = true → ((!(((decide (s < 0)) || (decide (n ≤ s))) || (decide (t < 0)))) = true → (!(((decide (s < 0)) || (decide (n ≤ s))) || (decide (t < 0)))) = true)), ((!(((decide (s < 0)) || (decide (n ≤ s))) || (decide (t < 0)))) = true → ((!(((decide (s < 0)) || (decide (n ≤ s))) || (decide (t < 0)))) = true → (!(((decide (s < 0)) || (decide (n ≤ s))) || (decide (t < 0)))) = true)), ((!(((decide (s < 0)) || (decide (n ≤ s))) || (decide (t < 0)))) = true → (!(((decide (s < 0)) || (decide (n ≤ s))) || (decide (t < 0)))) = true)] ⟨40, [(1, .one (.ptr 101 0 0)), (34, .one (.bool ((((decide (s < 0)) || (decide (n ≤ s))) || (decide (t < 0))) || (decide (n ≤ t)))))], [(101, .box 1 4 [(.int .i64 n), (.int .i64 s), (.int .i64 t), (.ro (.arcs es))])]⟩ hT (by kernel_rfl) ⟨(by decide), (by intro hg; first | exact hg | skip; (try simp only [bs] at hg ⊢); first | exact hg | first | omega | (simp only [lens]; omega) | grind), (by intro hg; first | exact hg | skip; (try simp only [bs] at hg); first | exact hg | first | omega | (simp only [lens]; omega) | grind), (by intro hg; first | exact hg | skip; (try simp only [bs] at hg ⊢); first | exact hg | first | omega | (simp only [lens]; omega) | grind), (by intro hg; first | exact hg | skip; (try simp only [bs] at hg); first | exact hg | first | omega | (simp only [lens]; omega) | grind), (by intro hg; first | exact hg | skip; (try simp only [bs] at hg ⊢); first | exact hg | first | omega | (simp only [lens]; omega) | grind), (by intro hg; first | exact hg | skip; (try simp only [bs] at hg ⊢); first | exact hg | first | omega | (simp only [lens]; omega) | grind), (fun h => h), (by intro hg; first | exact hg | skip; (try simp only [bs] at hg ⊢); first | exact hg | first | omega | (simp only [lens]; omega) | grind), (by intro hg; first | exact hg | skip; (try simp only [bs] at hg); first | exact hg | first | omega | (simp only [lens]; omega) | grind), (by intro hg; first | exact hg | skip; (try simp only [bs] at hg ⊢); first | exact hg | first | omega | (simp only [lens]; omega) | grind), (fun h => h), (by intro hg; first | exact hg | skip; (try simp only [bs] at hg ⊢); first | exact hg | first | omega | (simp only [lens]; omega) | grind), (by intro hg; first | exact hg | skip; (try simp only [bs] at hg); first | exact hg | first | omega | (simp only [lens]; omega) | grind), (by intro hg; first | exact hg | skip; (try simp only [bs] at hg ⊢); first | exact hg | first | omega | (simp only [lens]; omega) | grind), (by intro hg; first | exact hg | skip; (try simp only [bs] at hg); first | exact hg | first | omega | (simp only [lens]; omega) | grind), (by intro hg; first | exact hg | skip; (try simp only [bs] at hg ⊢); first | exact hg | first | omega | (simp only [lens]; omega) | grind), (by intro hg; first | exact hg | skip; (try simp only [bs] at hg ⊢); first | exact hg | first | omega | (simp only [lens]; omega) | grind), (fun h => h), trivial⟩ ?_
    refine awp_cond (b := ((((decide (s < 0)) || (decide (n ≤ s))) || (decide (t < 0))) || (decide (n ≤ t)))) (by kernel_rfl) (fun c4 => ?_) (fun c4 => ?_)
    · -- yes 4
      simp only [bs] at c4
      refine awp_run_seq [2] [] [] ⟨40, [(2, .one (.int .i64 4))], []⟩ hT (by kernel_rfl) trivial ?_
      refine awp_ret ?_
      refine kRet.ret _ [] [] (.one (.int .i64 4)) [] (by kernel_rfl) trivial ?_
      exact ⟨congrArg (fun x1 => (.one (.int .i64 x1) : AV)) (show 4 = (netErr n s t es) from by rw [netErr, if_neg c2, if_pos (by omega)]), rfl⟩
    · -- no 4
      simp only [bs] at c4
      refine awp_skip ?_
      refine awp_seq ?_
      refine awp_run_seq [39] [] [(0 < 1), (0 < 1)] ⟨40, [(39, .one (.bool (decide (s = t))))], []⟩ hT (by kernel_rfl) ⟨(by decide), (by decide), trivial⟩ ?_
      refine awp_cond (b := (decide (s = t))) (by kernel_rfl) (fun c6 => ?_) (fun c6 => ?_)
      · -- yes 6
        simp only [bs] at c6
        refine awp_run_seq [2] [] [] ⟨40, [(2, .one (.int .i64 3))], []⟩ hT (by kernel_rfl) trivial ?_
        refine awp_ret ?_
        refine kRet.ret _ [] [] (.one (.int .i64 3)) [] (by kernel_rfl) trivial ?_
        exact ⟨congrArg (fun x1 => (.one (.int .i64 x1) : AV)) (show 3 = (netErr n s t es) from by rw [netErr, if_neg c2, if_neg (by omega), if_pos c6]), rfl⟩
      · -- no 6
        simp only [bs] at c6
        refine awp_skip ?_
        refine awp_run_seq [2] [] [] ⟨40, [(2, .one (.int .i64 0))], []⟩ hT (by kernel_rfl) trivial ?_
        refine awp_ret ?_
        refine kRet.ret _ [] [] (.one (.int .i64 0)) [] (by kernel_rfl) trivial ?_
        exact ⟨congrArg (fun x1 => (.one (.int .i64 x1) : AV)) (show 0 = (netErr n s t es) from by rw [netErr, if_neg c2, if_neg (by omega), if_neg c6]), rfl⟩

theorem ref_NetErr (n s t : Int) (es : List Arc) : ACall Try.prog 19 [.agg [(.int .i64 n), (.int .i64 s), (.int .i64 t), (.ro (.arcs es))]] [] (fun ov oh => ov = .one (.int .i64 (netErr n s t es)) ∧ oh = []) := by
  refine acall_intro hT Try.func19 rfl (by kernel_rfl) rfl (by kernel_rfl) ?_
  refine awp_run_seq [1] [101] [] ⟨40, [(1, .one (.ptr 101 0 0))], [(101, .box 1 4 [(.int .i64 n), (.int .i64 s), (.int .i64 t), (.ro (.arcs es))])]⟩ hT (by kernel_rfl) trivial ?_
  refine awp_seq (awp_region ?_)
  refine aops_run 5 [1, 8] [101] [(0 < 1), (0 < 1)] ⟨40, [(1, .one (.ptr 101 0 0)), (8, .agg [(.int .i64 n), (.ro (.arcs es))])], [(101, .box 1 4 [(.int .i64 n), (.int .i64 s), (.int .i64 t), (.ro (.arcs es))])]⟩ hT (by kernel_rfl) (by kernel_rfl) ⟨(by decide), (by decide), trivial⟩ ?_
  refine aops_pure false ⟨true, [], 32, [.agg [(.int .i64 n), (.ro (.arcs es))], .one (.int .i64 0)], []⟩ [.agg [(.int .i64 n), (.ro (.arcs es))], .one (.int .i64 0)] (.one (.int .i64 (graphErr n es (0)))) ⟨40, [(1, .one (.ptr 101 0 0)), (8, .agg [(.int .i64 n), (.ro (.arcs es))]), (9, .one (.int .i64 (graphErr n es (0))))], [(101, .box 1 4 [(.int .i64 n), (.int .i64 s), (.int .i64 t), (.ro (.arcs es))])]⟩ (by kernel_rfl) (by kernel_rfl) (fun _ => trivial) rfl (fun _ => ref_graphErr n (0) es) ?_
  refine aops_run 1 [1, 3] [101] [] ⟨40, [(1, .one (.ptr 101 0 0)), (3, .one (.int .i64 (graphErr n es (0))))], [(101, .box 1 4 [(.int .i64 n), (.int .i64 s), (.int .i64 t), (.ro (.arcs es))])]⟩ hT (by kernel_rfl) (by kernel_rfl) trivial ?_
  refine aops_end_seq (by kernel_rfl) ?_
  refine awp_seq ?_
  refine awp_run_seq [1, 3, 29] [101] [((decide ((graphErr n es (0)) = 0)) = true → ((decide ((graphErr n es (0)) = 0)) = true → (decide ((graphErr n es (0)) = 0)) = true)), ((decide ((graphErr n es (0)) = 0)) = true → (0 < 1)), ((decide ((graphErr n es (0)) = 0)) = true → ((decide ((graphErr n es (0)) = 0)) = true → (decide ((graphErr n es (0)) = 0)) = true)), ((decide ((graphErr n es (0)) = 0)) = true → (0 < 1)), ((decide ((graphErr n es (0)) = 0)) = true → ((decide ((graphErr n es (0)) = 0)) = true → (decide ((graphErr n es (0)) = 0)) = true)), ((decide ((graphErr n es (0)) = 0)) = true → ((decide ((graphErr n es (0)) = 0)) = true → (decide ((graphErr n es (0)) = 0)) = true)), ((decide ((graphErr n es (0)) = 0)) = true → ((decide ((graphErr n es (0)) = 0)) = true → (decide ((graphErr n es (0)) = 0)) = true)), ((decide ((graphErr n es (0)) = 0)) = true → ((decide ((graphErr n es (0)) = 0)) = true → (decide ((graphErr n es (0)) = 0)) = true)), (((decide ((graphErr n es (0)) = 0)) && (!(decide ((min s t) < 0)))) = true → (((decide ((graphErr n es (0)) = 0)) && (!(decide ((min s t) < 0)))) = true → ((decide ((graphErr n es (0)) = 0)) && (!(decide ((min s t) < 0)))) = true)), (((decide ((graphErr n es (0)) = 0)) && (!(decide ((min s t) < 0)))) = true → (0 < 1)), (((decide ((graphErr n es (0)) = 0)) && (!(decide ((min s t) < 0)))) = true → (((decide ((graphErr n es (0)) = 0)) && (!(decide ((min s t) < 0)))) = true → ((decide ((graphErr n es (0)) = 0)) && (!(decide ((min s t) < 0)))) = true)), (((decide ((graphErr n es (0)) = 0)) && (!(decide ((min s t) < 0)))) = true → (0 < 1)), (((decide ((graphErr n es (0)) = 0)) && (!(decide ((min s t) < 0)))) = true → (((decide ((graphErr n es (0)) = 0)) && (!(decide ((min s t) < 0)))) = true → ((decide ((graphErr n es (0)) = 0)) && (!(decide ((min s t) < 0)))) = true)), (((decide ((graphErr n es (0)) = 0)) && (!(decide ((min s t) < 0)))) = true → (((decide ((graphErr n es (0)) = 0)) && (!(decide ((min s t) < 0)))) = true → ((decide ((graphErr n es (0)) = 0)) && (!(decide ((min s t) < 0)))) = true)), (((decide ((graphErr n es (0)) = 0)) && (!(decide ((min s t) < 0)))) = true → (((decide ((graphErr n es (0)) = 0)) && (!(decide ((min s t) < 0)))) = true → ((decide ((graphErr n es (0)) = 0)) && (!(decide ((min s t) < 0)))) = true)), (((decide ((graphErr n es (0)) = 0)) && (!(decide ((min s t) < 0)))) = true → (0 < 1)), (((decide ((graphErr n es (0)) = 0)) && (!(decide ((min s t) < 0)))) = true → (((decide ((graphErr n es (0)) = 0)) && (!(decide ((min s t) < 0)))) = true → ((decide ((graphErr n es (0)) = 0)) && (!(decide ((min s t) < 0)))) = true)), (((decide ((graphErr n es (0)) = 0)) && (!(decide ((min s t) < 0)))) = true → (((decide ((graphErr n es (0)) = 0)) && (!(decide ((min s t) < 0)))) = true → ((decide ((graphErr n es (0)) = 0)) && (!(decide ((min s t) < 0)))) = true)), ((decide ((graphErr n es (0)) = 0)) = true → ((decide ((graphErr n es (0)) = 0)) = true → (decide ((graphErr n es (0)) = 0)) = true)), ((decide ((graphErr n es (0)) = 0)) = true → (((decide ((graphErr n es (0)) = 0)) && (!(decide ((min s t) < 0)))) = true → ((decide ((graphErr n es (0)) = 0)) && (!(decide ((min s t) < 0)))) = true)), ((decide ((graphErr n es (0)) = 0)) = true → (decide ((graphErr n es (0)) = 0)) = true)] ⟨40, [(1, .one (.ptr 101 0 0)), (3, .one (.int .i64 (graphErr n es (0)))), (29, .one (.bool ((decide ((graphErr n es (0)) = 0)) && ((decide ((min s t) < 0)) || (decide (n ≤ (max s t)))))))], [(101, .box 1 4 [(.int .i64 n), (.int .i64 s), (.int .i64 t), (.ro (.arcs es))])]⟩ hT (by kernel_rfl) ⟨(by intro hg; first | exact hg | skip; (try simp only [bs] at hg ⊢); first | exact hg | first | omega | (simp only [lens]; omega) | grind), (by intro hg; first | exact hg | skip; (try simp only [bs] at hg); first | exact hg | first | omega | (simp only [lens]; omega) | grind), (by intro hg; first | exact hg | skip; (try simp only [bs] at hg ⊢); first | exact hg | first | omega | (simp only [lens]; omega) | grind), (by intro hg; first | exact hg | skip; (try simp only [bs] at hg); first | exact hg | first | omega | (simp only [lens]; omega) | grind), (by intro hg; first | exact hg | skip; (try simp only [bs] at hg ⊢); first | exact hg | first | omega | (simp only [lens]; omega) | grind), (by intro hg; first | exact hg | skip; (try simp only [bs] at hg ⊢); first | exact hg | first | omega | (simp only [lens]; omega) | grind), (by intro hg; first | exact hg | skip; (try simp only [bs] at hg ⊢); first | exact hg | first | omega | (simp only [lens]; omega) | grind), (by intro hg; first | exact hg | skip; (try simp only [bs] at hg ⊢); first | exact hg | first | omega | (simp only [lens]; omega) | grind), (by intro hg; first | exact hg | skip; (try simp only [bs] at hg ⊢); first | exact hg | first | omega | (simp only [lens]; omega) | grind), (by intro hg; first | exact hg | skip; (try simp only [bs] at hg); first | exact hg | first | omega | (simp only [lens]; omega) | grind), (by intro hg; first | exact hg | skip; (try simp only [bs] at hg ⊢); first | exact hg | first | omega | (simp only [lens]; omega) | grind), (by intro hg; first | exact hg | skip; (try simp only [bs] at hg); first | exact hg | first | omega | (simp only [lens]; omega) | grind), (by intro hg; first | exact hg | skip; (try simp only [bs] at hg ⊢); first | exact hg | first | omega | (simp only [lens]; omega) | grind), (by intro hg; first | exact hg | skip; (try simp only [bs] at hg ⊢); first | exact hg | first | omega | (simp only [lens]; omega) | grind), (by intro hg; first | exact hg | skip; (try simp only [bs] at hg ⊢); first | exact hg | first | omega | (simp only [lens]; omega) | grind), (by intro hg; first | exact hg | skip; (try simp only [bs] at hg); first | exact hg | first | omega | (simp only [lens]; omega) | grind), (by intro hg; first | exact hg | skip; (try simp only [bs] at hg ⊢); first | exact hg | first | omega | (simp only [lens]; omega) | grind), (by intro hg; first | exact hg | skip; (try simp only [bs] at hg ⊢); first | exact hg | first | omega | (simp only [lens]; omega) | grind), (by intro hg; first | exact hg | skip; (try simp only [bs] at hg ⊢); first | exact hg | first | omega | (simp only [lens]; omega) | grind), (by intro hg; first | exact hg | skip; (try simp only [bs] at hg ⊢); first | exact hg | first | omega | (simp only [lens]; omega) | grind), (fun h => h), trivial⟩ ?_
  refine awp_join_tail (fun σ => ∃ (e : Int), (e = if graphErr n es 0 ≠ 0 then graphErr n es 0 else if s < 0 ∨ n ≤ s ∨ t < 0 ∨ n ≤ t then 4 else 0) ∧ σ = ⟨40, [(1, .one (.ptr 101 0 0)), (3, .one (.int .i64 e))], [(101, .box 1 4 [(.int .i64 n), (.int .i64 s), (.int .i64 t), (.ro (.arcs es))])]⟩) ?_ ?_
  ·
    refine awp_cond (b := ((decide ((graphErr n es (0)) = 0)) && ((decide ((min s t) < 0)) || (decide (n ≤ (max s t)))))) (by kernel_rfl) (fun c2 => ?_) (fun c2 => ?_)
    · -- yes 2
      simp only [bs] at c2
      refine awp_run [1, 3] [101] [] ⟨40, [(1, .one (.ptr 101 0 0)), (3, .one (.int .i64 4))], [(101, .box 1 4 [(.int .i64 n), (.int .i64 s), (.int .i64 t), (.ro (.arcs es))])]⟩ hT (by kernel_rfl) trivial ?_
      exact jend ⟨4, (by omega), (by kernel_rfl)⟩
    · -- no 2
      simp only [bs] at c2
      refine awp_cut [1, 3] [101] ⟨40, [(1, .one (.ptr 101 0 0)), (3, .one (.int .i64 (graphErr n es (0))))], [(101, .box 1 4 [(.int .i64 n), (.int .i64 s), (.int .i64 t), (.ro (.arcs es))])]⟩ (by kernel_rfl) ?_
      refine awp_skip ?_
      exact jend ⟨(graphErr n es (0)), (by omega), (by kernel_rfl)⟩
  rintro _ ⟨e, he, rfl⟩
  refine awp_seq ?_
  refine awp_run_seq [3, 38] [] [((decide (e = 0)) = true → ((decide (e = 0)) = true → (decide (e = 0)) = true)), ((decide (e = 0)) = true → (0 < 1)), ((decide (e = 0)) = true → ((decide (e = 0)) = true → (decide (e = 0)) = true)), ((decide (e = 0)) = true → (0 < 1)), ((decide (e = 0)) = true → ((decide (e = 0)) = true → (decide (e = 0)) = true)), ((decide (e = 0)) = true → ((decide (e = 0)) = true → (decide (e = 0)) = true)), ((decide (e = 0)) = true → (decide (e = 0)) = true)] ⟨40, [(3, .one (.int .i64 e)), (38, .one (.bool ((decide (e = 0)) && (decide (s = t)))))], []⟩ hT (by kernel_rfl) ⟨(by intro hg; first | exact hg | skip; (try simp only [bs] at hg ⊢); first | exact hg | first | omega | (simp only [lens]; omega) | grind), (by intro hg; first | exact hg | skip; (try simp only [bs] at hg); first | exact hg | first | omega | (simp only [lens]; omega) | grind), (by intro hg; first | exact hg | skip; (try simp only [bs] at hg ⊢); first | exact hg | first | omega | (simp only [lens]; omega) | grind), (by intro hg; first | exact hg | skip; (try simp only [bs] at hg); first | exact hg | first | omega | (simp only [lens]; omega) | grind), (by intro hg; first | exact hg | skip; (try simp only [bs] at hg ⊢); first | exact hg | first | omega | (simp only [lens]; omega) | grind), (by intro hg; first | exact hg | skip; (try simp only [bs] at hg ⊢); first | exact hg | first | omega | (simp only [lens]; omega) | grind), (fun h => h), trivial⟩ ?_
  refine awp_join_tail (fun σ => ∃ (e2 : Int), (e2 = netErr n s t es) ∧ σ = ⟨40, [(3, .one (.int .i64 e2))], []⟩) ?_ ?_
  ·
    refine awp_cond (b := ((decide (e = 0)) && (decide (s = t)))) (by kernel_rfl) (fun c4 => ?_) (fun c4 => ?_)
    · -- yes 4
      simp only [bs] at c4
      refine awp_run [3] [] [] ⟨40, [(3, .one (.int .i64 3))], []⟩ hT (by kernel_rfl) trivial ?_
      exact jend ⟨3, (by unfold netErr; omega), (by kernel_rfl)⟩
    · -- no 4
      simp only [bs] at c4
      refine awp_cut [3] [] ⟨40, [(3, .one (.int .i64 e))], []⟩ (by kernel_rfl) ?_
      refine awp_skip ?_
      exact jend ⟨e, (by unfold netErr; omega), (by kernel_rfl)⟩
  rintro _ ⟨e2, h2, rfl⟩
  refine awp_run_seq [2] [] [] ⟨40, [(2, .one (.int .i64 e2))], []⟩ hT (by kernel_rfl) trivial ?_
  refine awp_ret ?_
  refine kRet.ret _ [] [] (.one (.int .i64 e2)) [] (by kernel_rfl) trivial ?_
  exact ⟨congrArg (fun x1 => (.one (.int .i64 x1) : AV)) (show e2 = (netErr n s t es) from by exact h2), rfl⟩

end Go.Ab
