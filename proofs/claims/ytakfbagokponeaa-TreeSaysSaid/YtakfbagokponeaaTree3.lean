/- Of trees: the greatest number, what a tree is, its first leaf. -/
import Derived.Test.YtakfbagokponeaaTab
import Derived.Test.YtakfbagokponeaaWays2
import Derived.Test.YtakfbagokponeaaPlTree2
set_option maxRecDepth 100000
namespace Go.Ab
open Go Go.Proofs
theorem max_ints (l : List Int) (h0 : 0 < l.length) : ACall Try.prog 67 [.one (.ro (.ints .i64 l))] [] (fun ov oh => ov = .one (.int .i64 (maxL l)) ∧ oh = []) := by
  refine acall_intro hT Try.func67 rfl (by kernel_rfl) rfl (by kernel_rfl) ?_
  refine awp_len 0 0 (.ints .i64 l) (by kernel_rfl) (fun hlen => ?_)
  simp only [C0.len, maxLen] at hlen
  refine awp_run_seq [0] [] [] ⟨25, [(0, .one (.ro (.ints .i64 l)))], []⟩ hT (by kernel_rfl) trivial ?_
  refine awp_seq ?_
  refine awp_run_seq [0, 7] [] [] ⟨25, [(0, .one (.ro (.ints .i64 l))), (7, .one (.bool (decide (((l.length : Nat) : Int) < 1))))], []⟩ hT (by kernel_rfl) trivial ?_
  refine awp_cond (b := (decide (((l.length : Nat) : Int) < 1))) (by kernel_rfl) (fun c1 => ?_) (fun c1 => ?_)
  · -- yes 1
    try simp only [bs] at c1
    exfalso; omega
  · -- no 1
    try simp only [bs] at c1
    refine awp_skip ?_
    refine awp_run_seq [0, 3] [] [((0 : Int) ≤ (0 : Int)), ((0 : Int) < ((l.length : Nat) : Int))] ⟨25, [(0, .one (.ro (.ints .i64 l))), (3, .one (.int .i64 (List.getD l 0 0)))], []⟩ hT (by kernel_rfl) ⟨(by first | omega | (simp only [lens]; omega) | (simp only [Bool.cond_decide]; omega) | (simp only [nadd_eq]; omega)), (by first | omega | (simp only [lens]; omega) | (simp only [Bool.cond_decide]; omega) | (simp only [nadd_eq]; omega)), trivial⟩ ?_
    refine awp_seq ?_
    refine awp_run_seq [0, 3, 4] [] [] ⟨25, [(0, .one (.ro (.ints .i64 l))), (3, .one (.int .i64 (List.getD l 0 0))), (4, .one (.int .i64 1))], []⟩ hT (by kernel_rfl) trivial ?_
    refine awp_block ?_
    refine awp_loop (I := fun κ σ => ∃ (i : Nat) (m : Int), ((1 ≤ i) ∧ (i ≤ l.length) ∧ (m = maxL (l.take i)) ∧ l.length - i = κ) ∧ σ = ⟨25, [(0, .one (.ro (.ints .i64 l))), (3, .one (.int .i64 m)), (4, .one (.int .i64 ((i : Nat) : Int)))], []⟩) _ ⟨1, (List.getD l 0 0), ⟨(by omega), (by omega), (by exact (maxL_one l).symm), rfl⟩, (by kernel_rfl)⟩ ?_
    rintro κ _ ⟨i, m, ⟨h1, hi, hm, rfl⟩, rfl⟩
    refine awp_seq ?_
    refine awp_run_seq [0, 3, 4, 15] [] [] ⟨25, [(0, .one (.ro (.ints .i64 l))), (3, .one (.int .i64 m)), (4, .one (.int .i64 ((i : Nat) : Int))), (15, .one (.bool (decide (((i : Nat) : Int) < ((l.length : Nat) : Int)))))], []⟩ hT (by kernel_rfl) trivial ?_
    refine awp_cond (b := (decide (((i : Nat) : Int) < ((l.length : Nat) : Int)))) (by kernel_rfl) (fun c5 => ?_) (fun c5 => ?_)
    · -- yes 5
      try simp only [bs] at c5
      have hms := maxL_step (l := l) (i := i) h1 (by omega)
      refine awp_skip ?_
      refine awp_seq ?_
      refine awp_block ?_
      refine awp_run [0, 3, 4] [] [((0 : Int) ≤ ((i : Nat) : Int)), (((i : Nat) : Int) < ((l.length : Nat) : Int))] ⟨25, [(0, .one (.ro (.ints .i64 l))), (3, .one (.int .i64 (max m (List.getD l i 0)))), (4, .one (.int .i64 ((i : Nat) : Int)))], []⟩ hT (by kernel_rfl) ⟨(by first | omega | (simp only [lens]; omega) | (simp only [Bool.cond_decide]; omega) | (simp only [nadd_eq]; omega)), (by first | omega | (simp only [lens]; omega) | (simp only [Bool.cond_decide]; omega) | (simp only [nadd_eq]; omega)), trivial⟩ ?_
      refine awp_run [0, 3, 4] [] [(-9223372036854775808 ≤ (((i + 1) : Nat) : Int) ∧ (((i + 1) : Nat) : Int) ≤ 9223372036854775807)] ⟨25, [(0, .one (.ro (.ints .i64 l))), (3, .one (.int .i64 (max m (List.getD l i 0)))), (4, .one (.int .i64 (((i + 1) : Nat) : Int)))], []⟩ hT (by kernel_rfl) ⟨(by first | omega | (simp only [lens]; omega) | (simp only [Bool.cond_decide]; omega) | (simp only [nadd_eq]; omega)), trivial⟩ ?_
      refine loop_end _ ?_ ⟨(i + 1), (max m (List.getD l i 0)), ⟨(by omega), (by omega), (by rw [hms, ← hm]), rfl⟩, (by kernel_rfl)⟩
      omega
    · -- no 5
      try simp only [bs] at c5
      have hfin : m = maxL l := by rw [hm, List.take_of_length_le (by omega)]
      refine awp_exit ?_
      refine awp_run_seq [2] [] [] ⟨25, [(2, .one (.int .i64 m))], []⟩ hT (by kernel_rfl) trivial ?_
      refine awp_ret ?_
      refine kRet.ret _ [] [] (.one (.int .i64 m)) [] (by kernel_rfl) trivial ?_
      exact ⟨congrArg (fun x1 => (.one (.int .i64 x1) : AV)) (show m = (maxL l) from by exact hfin), rfl⟩

theorem ref_isTree (n : Int) (es : List Arc) (h1 : 1 ≤ n) (h2 : n ≤ 12) (hl : es.length ≤ 60) (hA : InR n es) : ACall Try.prog 37 [.agg [(.int .i64 n), (.ro (.arcs es))]] [] (fun ov oh => ov = .one (.bool (decide (((es.length : Nat) : Int) = (n - 1)) && decide (maxL (joinedOf n es) = 0))) ∧ oh = []) := by
  refine acall_intro hT Try.func37 rfl (by kernel_rfl) rfl (by kernel_rfl) ?_
  have hjl := joinedOf_len n es
  refine awp_run_seq [1] [101] [] ⟨16, [(1, .one (.ptr 101 0 0))], [(101, .box 1 2 [(.int .i64 n), (.ro (.arcs es))])]⟩ hT (by kernel_rfl) trivial ?_
  refine awp_seq (awp_region ?_)
  refine aops_run 9 [10, 11] [] [(0 < 1), (0 < 1), (-9223372036854775808 ≤ (n - 1) ∧ (n - 1) ≤ 9223372036854775807), ((decide (((es.length : Nat) : Int) = (n - 1))) = true → (0 < 1))] ⟨16, [(10, .one (.bool (decide (((es.length : Nat) : Int) = (n - 1))))), (11, .whn (decide (((es.length : Nat) : Int) = (n - 1))) (.agg [(.int .i64 n), (.ro (.arcs es))]))], []⟩ hT (by kernel_rfl) (by kernel_rfl) ⟨(by decide), (by decide), (by first | omega | (simp only [lens]; omega) | (simp only [Bool.cond_decide]; omega) | (simp only [nadd_eq]; omega)), (by intro hg; first | exact hg | skip; (try simp only [bs] at hg); first | exact hg | first | omega | (simp only [lens]; omega) | (simp only [Bool.cond_decide]; omega) | (simp only [nadd_eq]; omega) | grind), trivial⟩ ?_
  refine aops_pure false ⟨(decide (((es.length : Nat) : Int) = (n - 1))), [((decide (((es.length : Nat) : Int) = (n - 1))) = true → (decide (((es.length : Nat) : Int) = (n - 1))) = true)], 84, [.agg [(.int .i64 n), (.ro (.arcs es))]], []⟩ [.agg [(.int .i64 n), (.ro (.arcs es))]] (.one (.ro (.ints .i64 (joinedOf n es)))) ⟨16, [(10, .one (.bool (decide (((es.length : Nat) : Int) = (n - 1))))), (11, .whn (decide (((es.length : Nat) : Int) = (n - 1))) (.agg [(.int .i64 n), (.ro (.arcs es))])), (12, .whn (decide (((es.length : Nat) : Int) = (n - 1))) (.one (.ro (.ints .i64 (joinedOf n es)))))], []⟩ (by kernel_rfl) (by kernel_rfl) (fun _ => ⟨(fun h => h), trivial⟩) rfl (fun _ => ref_joined n es (by omega) (by omega) (by omega) (by assumption)) ?_
  refine aops_pure false ⟨(decide (((es.length : Nat) : Int) = (n - 1))), [((decide (((es.length : Nat) : Int) = (n - 1))) = true → (decide (((es.length : Nat) : Int) = (n - 1))) = true)], 67, [.one (.ro (.ints .i64 (joinedOf n es)))], []⟩ [.one (.ro (.ints .i64 (joinedOf n es)))] (.one (.int .i64 (maxL (joinedOf n es)))) ⟨16, [(10, .one (.bool (decide (((es.length : Nat) : Int) = (n - 1))))), (11, .whn (decide (((es.length : Nat) : Int) = (n - 1))) (.agg [(.int .i64 n), (.ro (.arcs es))])), (12, .whn (decide (((es.length : Nat) : Int) = (n - 1))) (.one (.ro (.ints .i64 (joinedOf n es))))), (13, .whn (decide (((es.length : Nat) : Int) = (n - 1))) (.one (.int .i64 (maxL (joinedOf n es)))))], []⟩ (by kernel_rfl) (by kernel_rfl) (fun _ => ⟨(fun h => h), trivial⟩) rfl (fun _ => max_ints (joinedOf n es) (by first | omega | assumption)) ?_
  refine aops_run 3 [2] [] [((decide (((es.length : Nat) : Int) = (n - 1))) = true → ((decide (((es.length : Nat) : Int) = (n - 1))) = true → (decide (((es.length : Nat) : Int) = (n - 1))) = true)), ((decide (((es.length : Nat) : Int) = (n - 1))) = true → (decide (((es.length : Nat) : Int) = (n - 1))) = true)] ⟨16, [(2, .one (.bool ((decide (((es.length : Nat) : Int) = (n - 1))) && (decide ((maxL (joinedOf n es)) = 0)))))], []⟩ hT (by kernel_rfl) (by kernel_rfl) ⟨(by intro hg; first | exact hg | skip; (try simp only [bs] at hg ⊢); first | exact hg | first | omega | (simp only [lens]; omega) | (simp only [Bool.cond_decide]; omega) | (simp only [nadd_eq]; omega) | grind), (fun h => h), trivial⟩ ?_
  refine aops_end_seq (by kernel_rfl) ?_
  refine awp_ret ?_
  refine kRet.ret _ [] [] (.one (.bool ((decide (((es.length : Nat) : Int) = (n - 1))) && (decide ((maxL (joinedOf n es)) = 0))))) [] (by kernel_rfl) trivial ?_
  exact ⟨congrArg (fun x1 => (.one (.bool x1) : AV)) (show ((decide (((es.length : Nat) : Int) = (n - 1))) && (decide ((maxL (joinedOf n es)) = 0))) = (decide (((es.length : Nat) : Int) = (n - 1)) && decide (maxL (joinedOf n es) = 0)) from by rfl), rfl⟩

end Go.Ab
