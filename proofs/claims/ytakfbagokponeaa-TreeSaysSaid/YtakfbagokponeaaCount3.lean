/- Of trees: whether a graph is one. -/
import Derived.Test.YtakfbagokponeaaTab
import Derived.Test.YtakfbagokponeaaWays2
import Derived.Test.YtakfbagokponeaaWalk1
import Derived.Test.YtakfbagokponeaaFunI
import Derived.Test.YtakfbagokponeaaPlCount
set_option maxRecDepth 100000
namespace Go.Ab
open Go Go.Proofs
theorem tree_is1 (x : Int) : ACall Try.prog 89 [.one (.int .i64 x)] [] (fun ov oh => ov = .one (.bool (decide (x ≠ 0))) ∧ oh = []) := by
  refine acall_intro hT Try.func89 rfl (by kernel_rfl) rfl (by kernel_rfl) ?_
  refine awp_run_seq [0] [] [] ⟨5, [(0, .one (.int .i64 x))], []⟩ hT (by kernel_rfl) trivial ?_
  refine awp_run_seq [2] [] [] ⟨5, [(2, .one (.bool (decide (x ≠ 0))))], []⟩ hT (by kernel_rfl) trivial ?_
  refine awp_ret ?_
  refine kRet.ret _ [] [] (.one (.bool (decide (x ≠ 0)))) [] (by kernel_rfl) trivial ?_
  exact ⟨rfl, rfl⟩

theorem tree_is (n : Int) (es : List Arc) : ACall Try.prog 34 [.agg [(.int .i64 n), (.ro (.arcs es))]] [] (fun ov oh => ov = .tup [(false, [(.bool (decide ((graphErr n es (-10000)) = 0) && isTr n es))]), (false, [(.int .i64 (graphErr n es (-10000)))])] ∧ oh = []) := by
  refine acall_intro hT Try.func34 rfl (by kernel_rfl) rfl (by kernel_rfl) ?_
  refine awp_run_seq [1] [101] [] ⟨26, [(1, .one (.ptr 101 0 0))], [(101, .box 1 2 [(.int .i64 n), (.ro (.arcs es))])]⟩ hT (by kernel_rfl) trivial ?_
  refine awp_seq (awp_region ?_)
  refine aops_run 1 [1, 7] [101] [(0 < 1)] ⟨26, [(1, .one (.ptr 101 0 0)), (7, .agg [(.int .i64 n), (.ro (.arcs es))])], [(101, .box 1 2 [(.int .i64 n), (.ro (.arcs es))])]⟩ hT (by kernel_rfl) (by kernel_rfl) ⟨(by decide), trivial⟩ ?_
  refine aops_pure false ⟨true, [], 76, [.agg [(.int .i64 n), (.ro (.arcs es))]], []⟩ [.agg [(.int .i64 n), (.ro (.arcs es))]] (.tup [(false, [(.ro (.ints .i64 (okL (graphErr n es (-10000)) (joinedOf n es))))]), (false, [(.int .i64 (graphErr n es (-10000)))])]) ⟨26, [(1, .one (.ptr 101 0 0)), (7, .agg [(.int .i64 n), (.ro (.arcs es))]), (8, .tup [(false, [(.ro (.ints .i64 (okL (graphErr n es (-10000)) (joinedOf n es))))]), (false, [(.int .i64 (graphErr n es (-10000)))])])], [(101, .box 1 2 [(.int .i64 n), (.ro (.arcs es))])]⟩ (by kernel_rfl) (by kernel_rfl) (fun _ => trivial) rfl (fun _ => walk_parts n es) ?_
  refine aops_run 5 [1, 4, 5] [101] [] ⟨26, [(1, .one (.ptr 101 0 0)), (4, .one (.ro (.ints .i64 (okL (graphErr n es (-10000)) (joinedOf n es))))), (5, .one (.int .i64 (graphErr n es (-10000))))], [(101, .box 1 2 [(.int .i64 n), (.ro (.arcs es))])]⟩ hT (by kernel_rfl) (by kernel_rfl) trivial ?_
  refine aops_end_seq (by kernel_rfl) ?_
  refine awp_seq ?_
  refine awp_run_seq [1, 4, 5, 12] [101] [] ⟨26, [(1, .one (.ptr 101 0 0)), (4, .one (.ro (.ints .i64 (okL (graphErr n es (-10000)) (joinedOf n es))))), (5, .one (.int .i64 (graphErr n es (-10000)))), (12, .one (.bool (decide ((graphErr n es (-10000)) ≠ 0))))], [(101, .box 1 2 [(.int .i64 n), (.ro (.arcs es))])]⟩ hT (by kernel_rfl) trivial ?_
  refine awp_cond (b := (decide ((graphErr n es (-10000)) ≠ 0))) (by kernel_rfl) (fun c2 => ?_) (fun c2 => ?_)
  · -- yes 2
    try simp only [bs] at c2
    refine awp_run_seq [2, 3] [] [] ⟨26, [(2, .one (.bool false)), (3, .one (.int .i64 (graphErr n es (-10000))))], []⟩ hT (by kernel_rfl) trivial ?_
    refine awp_ret ?_
    refine kRet.ret _ [] [] (.tup [(false, [(.bool false)]), (false, [(.int .i64 (graphErr n es (-10000)))])]) [] (by kernel_rfl) trivial ?_
    exact ⟨congrArg (fun x1 => (.tup [(false, [(.bool x1)]), (false, [(.int .i64 (graphErr n es (-10000)))])] : AV)) (show false = (decide ((graphErr n es (-10000)) = 0) && isTr n es) from by rw [decide_eq_false c2]; rfl), rfl⟩
  · -- no 2
    try simp only [bs] at c2
    have hE : (graphErr n es (-10000)) = 0 := by omega
    have hG := graphErr_ok hE
    have h1 := hG.n1
    have h2 := hG.n2
    have hle := hG.len
    refine awp_skip ?_
    rw [show (okL (graphErr n es (-10000)) (joinedOf n es)) = (joinedOf n es) from okL_ok _ hE]
    refine awp_seq (awp_region ?_)
    refine aops_run 9 [21, 22] [] [(0 < 1), (0 < 1), (-9223372036854775808 ≤ (n - 1) ∧ (n - 1) ≤ 9223372036854775807)] ⟨26, [(21, .one (.bool (decide (((es.length : Nat) : Int) = (n - 1))))), (22, .whn (decide (((es.length : Nat) : Int) = (n - 1))) (.one (.ro (.ints .i64 (joinedOf n es)))))], []⟩ hT (by kernel_rfl) (by kernel_rfl) ⟨(by decide), (by decide), (by first | omega | (simp only [lens]; omega) | (simp only [Bool.cond_decide]; omega) | (simp only [nadd_eq]; omega)), trivial⟩ ?_
    refine aops_pure false ⟨(decide (((es.length : Nat) : Int) = (n - 1))), [((decide (((es.length : Nat) : Int) = (n - 1))) = true → (decide (((es.length : Nat) : Int) = (n - 1))) = true)], 88, [.one (.ro (.ints .i64 (joinedOf n es))), .one (.fn 89 [])], []⟩ [.one (.ro (.ints .i64 (joinedOf n es))), .one (.fn 89 [])] (.one (.bool (List.any (joinedOf n es) (fun p => decide (p ≠ 0))))) ⟨26, [(21, .one (.bool (decide (((es.length : Nat) : Int) = (n - 1))))), (22, .whn (decide (((es.length : Nat) : Int) = (n - 1))) (.one (.ro (.ints .i64 (joinedOf n es))))), (23, .whn (decide (((es.length : Nat) : Int) = (n - 1))) (.one (.bool (List.any (joinedOf n es) (fun p => decide (p ≠ 0))))))], []⟩ (by kernel_rfl) (by kernel_rfl) (fun _ => ⟨(fun h => h), trivial⟩) rfl (fun _ => hasf_ints_ 89 (fun p => decide (p ≠ 0)) (joinedOf n es)  (fun x hx => tree_is1 x)) ?_
    refine aops_run 4 [2, 3] [] [((decide (((es.length : Nat) : Int) = (n - 1))) = true → ((decide (((es.length : Nat) : Int) = (n - 1))) = true → (decide (((es.length : Nat) : Int) = (n - 1))) = true)), ((decide (((es.length : Nat) : Int) = (n - 1))) = true → (decide (((es.length : Nat) : Int) = (n - 1))) = true)] ⟨26, [(2, .one (.bool ((decide (((es.length : Nat) : Int) = (n - 1))) && (!(List.any (joinedOf n es) (fun p => decide (p ≠ 0))))))), (3, .one (.int .i64 0))], []⟩ hT (by kernel_rfl) (by kernel_rfl) ⟨(by intro hg; first | exact hg | skip; (try simp only [bs] at hg ⊢); first | exact hg | first | omega | (simp only [lens]; omega) | (simp only [Bool.cond_decide]; omega) | (simp only [nadd_eq]; omega) | grind), (fun h => h), trivial⟩ ?_
    refine aops_end_seq (by kernel_rfl) ?_
    refine awp_ret ?_
    refine kRet.ret _ [] [] (.tup [(false, [(.bool ((decide (((es.length : Nat) : Int) = (n - 1))) && (!(List.any (joinedOf n es) (fun p => decide (p ≠ 0))))))]), (false, [(.int .i64 0)])]) [] (by kernel_rfl) trivial ?_
    exact ⟨by first | rw [show (decide ((graphErr n es (-10000)) = 0) && isTr n es) = ((decide (((es.length : Nat) : Int) = (n - 1))) && (!(List.any (joinedOf n es) (fun p => decide (p ≠ 0))))) from Eq.symm (by rw [decide_eq_true hE, Bool.true_and]; rfl), show (graphErr n es (-10000)) = 0 from Eq.symm (by exact hE.symm)] | rw [show (decide ((graphErr n es (-10000)) = 0) && isTr n es) = ((decide (((es.length : Nat) : Int) = (n - 1))) && (!(List.any (joinedOf n es) (fun p => decide (p ≠ 0))))) from Eq.symm (by rw [decide_eq_true hE, Bool.true_and]; rfl)] | rw [show (graphErr n es (-10000)) = 0 from Eq.symm (by exact hE.symm)], rfl⟩

end Go.Ab
