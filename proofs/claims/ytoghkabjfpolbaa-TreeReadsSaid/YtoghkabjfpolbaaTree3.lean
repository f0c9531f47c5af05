/- Of trees: the greatest number, what a tree is, its first leaf. -/
import Derived.Test.YtoghkabjfpolbaaTab
import Derived.Test.YtoghkabjfpolbaaWays2
import Derived.Test.YtoghkabjfpolbaaPlTree2
set_option maxRecDepth 100000
namespace Go.Ab
open Go Go.Proofs
theorem max_ints (l : List Int) (h0 : 0 < l.length) : ACall Try.prog 98 [.one (.ro (.ints .i64 l))] [] (fun ov oh => ov = .one (.int .i64 (maxL l)) ∧ oh = []) := by
  refine acall_intro hT Try.func98 rfl (by kernel_rfl) rfl (by kernel_rfl) ?_
  refine awp_len 0 0 (.ints .i64 l) (by kernel_rfl) (fun hlen => ?_)
  simp only [C0.len, maxLen] at hlen
  refine awp_run_seq [0] [] [] ⟨25, [(0, .one (.ro (.ints .i64 l)))], []⟩ hT (by kernel_rfl) trivial ?_
  refine awp_seq ?_
  refine awp_run_seq [0, 7] [] [] ⟨25, [(0, .one (.ro (.ints .i64 l))), (7, .one (.bool (decide (((l.length : Nat) : Int) < 1))))], []⟩ hT (by kernel_rfl) trivial ?_
  refine awp_cond (b := (decide (((l.length : Nat) : Int) < 1))) (by kernel_rfl) (fun c1 => ?_) (fun c1 => ?_)
  · -- yes 1
    try simp only [bs] at c1
    exfalso; omega
  · -- no 1
    try simp only [bs] at c1
    refine awp_skip ?_
    refine awp_run_seq [0, 3] [] [((0 : Int) ≤ (0 : Int)), ((0 : Int) < ((l.length : Nat) : Int))] ⟨25, [(0, .one (.ro (.ints .i64 l))), (3, .one (.int .i64 (List.getD l 0 0)))], []⟩ hT (by kernel_rfl) ⟨(by first | omega | (simp only [lens]; omega) | (simp only [Bool.cond_decide]; omega)), (by first | omega | (simp only [lens]; omega) | (simp only [Bool.cond_decide]; omega)), trivial⟩ ?_
    refine awp_seq ?_
    refine awp_run_seq [0, 3, 4] [] [] ⟨25, [(0, .one (.ro (.ints .i64 l))), (3, .one (.int .i64 (List.getD l 0 0))), (4, .one (.int .i64 1))], []⟩ hT (by kernel_rfl) trivial ?_
    refine awp_block ?_
    refine awp_loop (I := fun κ σ => ∃ (i : Nat) (m : Int), ((1 ≤ i) ∧ (i ≤ l.length) ∧ (m = maxL (l.take i)) ∧ l.length - i = κ) ∧ σ = ⟨25, [(0, .one (.ro (.ints .i64 l))), (3, .one (.int .i64 m)), (4, .one (.int .i64 ((i : Nat) : Int)))], []⟩) _ ⟨1, (List.getD l 0 0), ⟨(by omega), (by omega), (by exact (maxL_one l).symm), rfl⟩, (by kernel_rfl)⟩ ?_
    rintro κ _ ⟨i, m, ⟨h1, hi, hm, rfl⟩, rfl⟩
    refine awp_seq ?_
    refine awp_run_seq [0, 3, 4, 15] [] [] ⟨25, [(0, .one (.ro (.ints .i64 l))), (3, .one (.int .i64 m)), (4, .one (.int .i64 ((i : Nat) : Int))), (15, .one (.bool (decide (((i : Nat) : Int) < ((l.length : Nat) : Int)))))], []⟩ hT (by kernel_rfl) trivial ?_
    refine awp_cond (b := (decide (((i : Nat) : Int) < ((l.length : Nat) : Int)))) (by kernel_rfl) (fun c5 => ?_) (fun c5 => ?_)
    · -- yes 5
      try simp only [bs] at c5
      have hms := maxL_step (l := l) (i := i) h1 (by omega)
      refine awp_skip ?_
      refine awp_seq ?_
      refine awp_block ?_
      refine awp_run [0, 3, 4] [] [((0 : Int) ≤ ((i : Nat) : Int)), (((i : Nat) : Int) < ((l.length : Nat) : Int))] ⟨25, [(0, .one (.ro (.ints .i64 l))), (3, .one (.int .i64 (max m (List.getD l i 0)))), (4, .one (.int .i64 ((i : Nat) : Int)))], []⟩ hT (by kernel_rfl) ⟨(by first | omega | (simp only [lens]; omega) | (simp only [Bool.cond_decide]; omega)), (by first | omega | (simp only [lens]; omega) | (simp only [Bool.cond_decide]; omega)), trivial⟩ ?_
      refine awp_run [0, 3, 4] [] [(-9223372036854775808 ≤ (((i + 1) : Nat) : Int) ∧ (((i + 1) : Nat) : Int) ≤ 9223372036854775807)] ⟨25, [(0, .one (.ro (.ints .i64 l))), (3, .one (.int .i64 (max m (List.getD l i 0)))), (4, .one (.int .i64 (((i + 1) : Nat) : Int)))], []⟩ hT (by kernel_rfl) ⟨(by first | omega | (simp only [lens]; omega) | (simp only [Bool.cond_decide]; omega)), trivial⟩ ?_
      refine loop_end _ ?_ ⟨(i + 1), (max m (List.getD l i 0)), ⟨(by omega), (by omega), (by rw [hms, ← hm]), rfl⟩, (by kernel_rfl)⟩
      omega
    · -- no 5
      try simp only [bs] at c5
      have hfin : m = maxL l := by rw [hm, List.take_of_length_le (by omega)]
      refine awp_exit ?_
      refine awp_run_seq [2] [] [] ⟨25, [(2, .one (.int .i64 m))], []⟩ hT (by kernel_rfl) trivial ?_
      refine awp_ret ?_
      refine kRet.ret _ [] [] (.one (.int .i64 m)) [] (by kernel_rfl) trivial ?_
      exact ⟨congrArg (fun x1 => (.one (.int .i64 x1) : AV)) (show m = (maxL l) from by exact hfin), rfl⟩

theorem ref_isTree (n : Int) (es : List Arc) (h1 : 1 ≤ n) (h2 : n ≤ 12) (hl : es.length ≤ 60) (hA : InR n es) : ACall Try.prog 27 [.agg [(.int .i64 n), (.ro (.arcs es))]] [] (fun ov oh => ov = .one (.bool (decide (((es.length : Nat) : Int) = (n - 1)) && decide (maxL (joinedOf n es) = 0))) ∧ oh = []) := by
  refine acall_intro hT Try.func27 rfl (by kernel_rfl) rfl (by kernel_rfl) ?_
  have hjl := joinedOf_len n es
  refine awp_run_seq [1] [101] [] ⟨16, [(1, .one (.ptr 101 0 0))], [(101, .box 1 2 [(.int .i64 n), (.ro (.arcs es))])]⟩ hT (by kernel_rfl) trivial ?_
  refine awp_seq (awp_region ?_)
  refine aops_run 9 [10, 11] [] [(0 < 1), (0 < 1), (-9223372036854775808 ≤ (n - 1) ∧ (n - 1) ≤ 9223372036854775807), ((decide (((es.length : Nat) : Int) = (n - 1))) = true → (0 < 1))] ⟨16, [(10, .one (.bool (decide (((es.length : Nat) : Int) = (n - 1))))), (11, .whn (decide (((es.length : Nat) : Int) = (n - 1))) (.agg [(.int .i64 n), (.ro (.arcs es))]))], []⟩ hT (by kernel_rfl) (by kernel_rfl) ⟨(by decide), (by decide), (by first | omega | (simp only [lens]; omega) | (simp only [Bool.cond_decide]; omega)), (by intro hg; first | exact hg | skip; (try simp only [bs] at hg); first | exact hg | first | omega | (simp only [lens]; omega) | (simp only [Bool.cond_decide]; omega) | grind), trivial⟩ ?_
  refine aops_pure false ⟨(decide (((es.length : Nat) : Int) = (n - 1))), [((decide (((es.length : Nat) : Int) = (n - 1))) = true → (decide (((es.length : Nat) : Int) = (n - 1))) = true)], 99, [.agg [(.int .i64 n), (.ro (.arcs es))]], []⟩ [.agg [(.int .i64 n), (.ro (.arcs es))]] (.one (.ro (.ints .i64 (joinedOf n es)))) ⟨16, [(10, .one (.bool (decide (((es.length : Nat) : Int) = (n - 1))))), (11, .whn (decide (((es.length : Nat) : Int) = (n - 1))) (.agg [(.int .i64 n), (.ro (.arcs es))])), (12, .whn (decide (((es.length : Nat) : Int) = (n - 1))) (.one (.ro (.ints .i64 (joinedOf n es)))))], []⟩ (by kernel_rfl) (by kernel_rfl) (fun _ => ⟨(fun h => h), trivial⟩) rfl (fun _ => ref_joined n es (by omega) (by omega) (by omega) (by assumption)) ?_
  refine aops_pure false ⟨(decide (((es.length : Nat) : Int) = (n - 1))), [((decide (((es.length : Nat) : Int) = (n - 1))) = true → (decide (((es.length : Nat) : Int) = (n - 1))) = true)], 98, [.one (.ro (.ints .i64 (joinedOf n es)))], []⟩ [.one (.ro (.ints .i64 (joinedOf n es)))] (.one (.int .i64 (maxL (joinedOf n es)))) ⟨16, [(10, .one (.bool (decide (((es.length : Nat) : Int) = (n - 1))))), (11, .whn (decide (((es.length : Nat) : Int) = (n - 1))) (.agg [(.int .i64 n), (.ro (.arcs es))])), (12, .whn (decide (((es.length : Nat) : Int) = (n - 1))) (.one (.ro (.ints .i64 (joinedOf n es))))), (13, .whn (decide (((es.length : Nat) : Int) = (n - 1))) (.one (.int .i64 (maxL (joinedOf n es)))))], []⟩ (by kernel_rfl) (by kernel_rfl) (fun _ => ⟨(fun h => h), trivial⟩) rfl (fun _ => max_ints (joinedOf n es) (by first | omega | assumption)) ?_
  refine aops_run 3 [2] [] [((decide (((es.length : Nat) : Int) = (n - 1))) = true → ((decide (((es.length : Nat) : Int) = (n - 1))) = true → (decide (((es.length : Nat) : Int) = (n - 1))) = true)), ((decide (((es.length : Nat) : Int) = (n - 1))) = true → (decide (((es.length : Nat) : Int) = (n - 1))) = true)] ⟨16, [(2, .one (.bool ((decide (((es.length : Nat) : Int) = (n - 1))) && (decide ((maxL (joinedOf n es)) = 0)))))], []⟩ hT (by kernel_rfl) (by kernel_rfl) ⟨(by intro hg; first | exact hg | skip; (try simp only [bs] at hg ⊢); first | exact hg | first | omega | (simp only [lens]; omega) | (simp only [Bool.cond_decide]; omega) | grind), (fun h => h), trivial⟩ ?_
  refine aops_end_seq (by kernel_rfl) ?_
  refine awp_ret ?_
  refine kRet.ret _ [] [] (.one (.bool ((decide (((es.length : Nat) : Int) = (n - 1))) && (decide ((maxL (joinedOf n es)) = 0))))) [] (by kernel_rfl) trivial ?_
  exact ⟨congrArg (fun x1 => (.one (.bool x1) : AV)) (show ((decide (((es.length : Nat) : Int) = (n - 1))) && (decide ((maxL (joinedOf n es)) = 0))) = (decide (((es.length : Nat) : Int) = (n - 1)) && decide (maxL (joinedOf n es) = 0)) from by rfl), rfl⟩

theorem first_leaf (m : Int) (es : List Arc) (x : Arc) (hm : m ≤ 12) (hes : es.length ≤ 60) (hx : ∃ f : Nat, (f : Int) < m ∧ degT es f = 1 ∧ (∀ j : Nat, j < f → degT es j ≠ 1) ∧ List.filter (fun a => touch a f) es = [x]) : ACall Try.prog 29 [.agg [(.int .i64 m), (.ro (.arcs es))]] [] (fun ov oh => ov = .agg [(.int .i64 x.src), (.int .i64 x.dst), (.int .i64 x.cap)] ∧ oh = []) := by
  refine acall_intro hT Try.func29 rfl (by kernel_rfl) rfl (by kernel_rfl) ?_
  obtain ⟨f, f1, f2, f3, f4⟩ := hx
  refine awp_run_seq [1, 2] [101, 102] [] ⟨42, [(1, .one (.ptr 101 0 0)), (2, .one (.ptr 102 0 0))], [(101, .box 1 2 [(.int .i64 m), (.ro (.arcs es))]), (102, .box 1 3 [(.int .i64 0), (.int .i64 0), (.int .i64 0)])]⟩ hT (by kernel_rfl) trivial ?_
  refine awp_seq ?_
  refine awp_run_seq [1, 2, 8, 9] [101, 102] [(0 < 1)] ⟨42, [(1, .one (.ptr 101 0 0)), (2, .one (.ptr 102 0 0)), (8, .one (.int .i64 m)), (9, .one (.int .i64 0))], [(101, .box 1 2 [(.int .i64 m), (.ro (.arcs es))]), (102, .box 1 3 [(.int .i64 0), (.int .i64 0), (.int .i64 0)])]⟩ hT (by kernel_rfl) ⟨(by decide), trivial⟩ ?_
  refine awp_block ?_
  refine awp_loop (I := fun κ σ => ∃ (k : Nat), ((k ≤ f) ∧ f + 1 - k = κ) ∧ σ = ⟨42, [(1, .one (.ptr 101 0 0)), (2, .one (.ptr 102 0 0)), (8, .one (.int .i64 m)), (9, .one (.int .i64 ((k : Nat) : Int)))], [(101, .box 1 2 [(.int .i64 m), (.ro (.arcs es))]), (102, .box 1 3 [(.int .i64 0), (.int .i64 0), (.int .i64 0)])]⟩) _ ⟨0, ⟨(by omega), rfl⟩, (by kernel_rfl)⟩ ?_
  rintro κ _ ⟨k, ⟨hk, rfl⟩, rfl⟩
  refine awp_run_seq [1, 2, 8, 9, 10] [101, 102] [] ⟨42, [(1, .one (.ptr 101 0 0)), (2, .one (.ptr 102 0 0)), (8, .one (.int .i64 m)), (9, .one (.int .i64 ((k : Nat) : Int))), (10, .one (.bool (decide (((k : Nat) : Int) < m))))], [(101, .box 1 2 [(.int .i64 m), (.ro (.arcs es))]), (102, .box 1 3 [(.int .i64 0), (.int .i64 0), (.int .i64 0)])]⟩ hT (by kernel_rfl) trivial ?_
  refine awp_seq ?_
  refine awp_cond (b := (decide (((k : Nat) : Int) < m))) (by kernel_rfl) (fun c2 => ?_) (fun c2 => ?_)
  · -- yes 2
    try simp only [bs] at c2
    refine awp_skip ?_
    refine awp_seq ?_
    refine awp_block ?_
    refine awp_run_seq [1, 2, 3, 8, 9] [101, 102] [] ⟨42, [(1, .one (.ptr 101 0 0)), (2, .one (.ptr 102 0 0)), (3, .one (.int .i64 ((k : Nat) : Int))), (8, .one (.int .i64 m)), (9, .one (.int .i64 ((k : Nat) : Int)))], [(101, .box 1 2 [(.int .i64 m), (.ro (.arcs es))]), (102, .box 1 3 [(.int .i64 0), (.int .i64 0), (.int .i64 0)])]⟩ hT (by kernel_rfl) trivial ?_
    refine awp_run_seq [1, 2, 3, 4, 8, 9] [101, 102] [] ⟨42, [(1, .one (.ptr 101 0 0)), (2, .one (.ptr 102 0 0)), (3, .one (.int .i64 ((k : Nat) : Int))), (4, .one .nils), (8, .one (.int .i64 m)), (9, .one (.int .i64 ((k : Nat) : Int)))], [(101, .box 1 2 [(.int .i64 m), (.ro (.arcs es))]), (102, .box 1 3 [(.int .i64 0), (.int .i64 0), (.int .i64 0)])]⟩ hT (by kernel_rfl) trivial ?_
    refine awp_seq ?_
    refine awp_run_seq [1, 2, 3, 4, 8, 9, 13, 14, 15] [101, 102] [(0 < 1)] ⟨42, [(1, .one (.ptr 101 0 0)), (2, .one (.ptr 102 0 0)), (3, .one (.int .i64 ((k : Nat) : Int))), (4, .one .nils), (8, .one (.int .i64 m)), (9, .one (.int .i64 ((k : Nat) : Int))), (13, .one (.ro (.arcs es))), (14, .one (.int .i64 ((es.length : Nat) : Int))), (15, .one (.int .i64 0))], [(101, .box 1 2 [(.int .i64 m), (.ro (.arcs es))]), (102, .box 1 3 [(.int .i64 0), (.int .i64 0), (.int .i64 0)])]⟩ hT (by kernel_rfl) ⟨(by decide), trivial⟩ ?_
    refine awp_block ?_
    refine awp_weak (awk_empty 5004 (.flat (.arcs [])) rfl (by decide) _) ?_
    refine awp_weak (awk_slot 4 (.one .nils) (.one (.rw 5004 0 0)) _ (by kernel_rfl) (.one (wkv_nils (o := .flat (.arcs [])) (by kernel_rfl)))) ?_
    refine awp_loop (I := fun κ σ => ∃ (i : Nat) (at_ : List Arc), ((i ≤ es.length) ∧ (at_ = (es.take i).filter (fun a => touch a k)) ∧ es.length - i = κ) ∧ σ = ⟨42, [(1, .one (.ptr 101 0 0)), (2, .one (.ptr 102 0 0)), (3, .one (.int .i64 ((k : Nat) : Int))), (4, .one (.rw 5004 0 at_.length)), (8, .one (.int .i64 m)), (9, .one (.int .i64 ((k : Nat) : Int))), (13, .one (.ro (.arcs es))), (14, .one (.int .i64 ((es.length : Nat) : Int))), (15, .one (.int .i64 ((i : Nat) : Int)))], [(101, .box 1 2 [(.int .i64 m), (.ro (.arcs es))]), (102, .box 1 3 [(.int .i64 0), (.int .i64 0), (.int .i64 0)]), (5004, .flat (.arcs at_))]⟩) _ ⟨0, [], ⟨(by omega), (by rfl), rfl⟩, (by kernel_rfl)⟩ ?_
    rintro κ _ ⟨i, at_, ⟨hi, hat, rfl⟩, rfl⟩
    have hal : at_.length ≤ i := by rw [hat]; exact Nat.le_trans (List.length_filter_le _ _) (by rw [List.length_take]; omega)
    refine awp_run_seq [1, 2, 3, 4, 8, 9, 13, 14, 15, 16] [101, 102, 5004] [] ⟨42, [(1, .one (.ptr 101 0 0)), (2, .one (.ptr 102 0 0)), (3, .one (.int .i64 ((k : Nat) : Int))), (4, .one (.rw 5004 0 at_.length)), (8, .one (.int .i64 m)), (9, .one (.int .i64 ((k : Nat) : Int))), (13, .one (.ro (.arcs es))), (14, .one (.int .i64 ((es.length : Nat) : Int))), (15, .one (.int .i64 ((i : Nat) : Int))), (16, .one (.bool (decide (((i : Nat) : Int) < ((es.length : Nat) : Int)))))], [(101, .box 1 2 [(.int .i64 m), (.ro (.arcs es))]), (102, .box 1 3 [(.int .i64 0), (.int .i64 0), (.int .i64 0)]), (5004, .flat (.arcs at_))]⟩ hT (by kernel_rfl) trivial ?_
    refine awp_seq ?_
    refine awp_cond (b := (decide (((i : Nat) : Int) < ((es.length : Nat) : Int)))) (by kernel_rfl) (fun c6 => ?_) (fun c6 => ?_)
    · -- yes 6
      try simp only [bs] at c6
      refine awp_skip ?_
      refine awp_seq ?_
      refine awp_block ?_
      refine awp_run_seq [1, 2, 3, 4, 6, 8, 9, 13, 14, 15] [101, 102, 106, 5004] [((0 : Int) ≤ ((i : Nat) : Int)), (((i : Nat) : Int) < ((es.length : Nat) : Int)), (0 < 1)] ⟨42, [(1, .one (.ptr 101 0 0)), (2, .one (.ptr 102 0 0)), (3, .one (.int .i64 ((k : Nat) : Int))), (4, .one (.rw 5004 0 at_.length)), (6, .one (.ptr 106 0 0)), (8, .one (.int .i64 m)), (9, .one (.int .i64 ((k : Nat) : Int))), (13, .one (.ro (.arcs es))), (14, .one (.int .i64 ((es.length : Nat) : Int))), (15, .one (.int .i64 ((i : Nat) : Int)))], [(101, .box 1 2 [(.int .i64 m), (.ro (.arcs es))]), (102, .box 1 3 [(.int .i64 0), (.int .i64 0), (.int .i64 0)]), (106, .box 1 3 [(.int .i64 ((List.getD es i default).src)), (.int .i64 ((List.getD es i default).dst)), (.int .i64 ((List.getD es i default).cap))]), (5004, .flat (.arcs at_))]⟩ hT (by kernel_rfl) ⟨(by first | omega | (simp only [lens]; omega) | (simp only [Bool.cond_decide]; omega)), (by first | omega | (simp only [lens]; omega) | (simp only [Bool.cond_decide]; omega)), (by decide), trivial⟩ ?_
      refine awp_run_seq [1, 2, 3, 4, 6, 8, 9, 13, 14, 15, 28] [101, 102, 106, 5004] [(0 < 1), ((!(decide (((List.getD es i default).src) = ((k : Nat) : Int)))) = true → ((!(decide (((List.getD es i default).src) = ((k : Nat) : Int)))) = true → (!(decide (((List.getD es i default).src) = ((k : Nat) : Int)))) = true)), ((!(decide (((List.getD es i default).src) = ((k : Nat) : Int)))) = true → (0 < 1)), ((!(decide (((List.getD es i default).src) = ((k : Nat) : Int)))) = true → ((!(decide (((List.getD es i default).src) = ((k : Nat) : Int)))) = true → (!(decide (((List.getD es i default).src) = ((k : Nat) : Int)))) = true)), ((!(decide (((List.getD es i default).src) = ((k : Nat) : Int)))) = true → ((!(decide (((List.getD es i default).src) = ((k : Nat) : Int)))) = true → (!(decide (((List.getD es i default).src) = ((k : Nat) : Int)))) = true)), ((!(decide (((List.getD es i default).src) = ((k : Nat) : Int)))) = true → (!(decide (((List.getD es i default).src) = ((k : Nat) : Int)))) = true)] ⟨42, [(1, .one (.ptr 101 0 0)), (2, .one (.ptr 102 0 0)), (3, .one (.int .i64 ((k : Nat) : Int))), (4, .one (.rw 5004 0 at_.length)), (6, .one (.ptr 106 0 0)), (8, .one (.int .i64 m)), (9, .one (.int .i64 ((k : Nat) : Int))), (13, .one (.ro (.arcs es))), (14, .one (.int .i64 ((es.length : Nat) : Int))), (15, .one (.int .i64 ((i : Nat) : Int))), (28, .one (.bool ((decide (((List.getD es i default).src) = ((k : Nat) : Int))) || (decide (((List.getD es i default).dst) = ((k : Nat) : Int))))))], [(101, .box 1 2 [(.int .i64 m), (.ro (.arcs es))]), (102, .box 1 3 [(.int .i64 0), (.int .i64 0), (.int .i64 0)]), (106, .box 1 3 [(.int .i64 ((List.getD es i default).src)), (.int .i64 ((List.getD es i default).dst)), (.int .i64 ((List.getD es i default).cap))]), (5004, .flat (.arcs at_))]⟩ hT (by kernel_rfl) ⟨(by decide), (by intro hg; first | exact hg | skip; (try simp only [bs] at hg ⊢); first | exact hg | first | omega | (simp only [lens]; omega) | (simp only [Bool.cond_decide]; omega) | grind), (by intro hg; first | exact hg | skip; (try simp only [bs] at hg); first | exact hg | first | omega | (simp only [lens]; omega) | (simp only [Bool.cond_decide]; omega) | grind), (by intro hg; first | exact hg | skip; (try simp only [bs] at hg ⊢); first | exact hg | first | omega | (simp only [lens]; omega) | (simp only [Bool.cond_decide]; omega) | grind), (by intro hg; first | exact hg | skip; (try simp only [bs] at hg ⊢); first | exact hg | first | omega | (simp only [lens]; omega) | (simp only [Bool.cond_decide]; omega) | grind), (fun h => h), trivial⟩ ?_
      refine awp_cond (b := ((decide (((List.getD es i default).src) = ((k : Nat) : Int))) || (decide (((List.getD es i default).dst) = ((k : Nat) : Int))))) (by kernel_rfl) (fun c8 => ?_) (fun c8 => ?_)
      · -- yes 8
        try simp only [bs] at c8
        have hst := filter_yes (es := es) (i := i) (v := k) (by omega) (by unfold touch; rw [Bool.or_eq_true, decide_eq_true_eq, decide_eq_true_eq]; omega)
        refine awp_run [1, 2, 3, 4, 8, 9, 13, 14, 15] [101, 102, 5004] [(0 < 1), (at_.length = at_.length), ((at_.length + 1) * 24 ≤ 140737488355328), ((at_.length + 1) ≤ 9223372036854775807)] ⟨42, [(1, .one (.ptr 101 0 0)), (2, .one (.ptr 102 0 0)), (3, .one (.int .i64 ((k : Nat) : Int))), (4, .one (.rw 5004 0 (at_.length + 1))), (8, .one (.int .i64 m)), (9, .one (.int .i64 ((k : Nat) : Int))), (13, .one (.ro (.arcs es))), (14, .one (.int .i64 ((es.length : Nat) : Int))), (15, .one (.int .i64 ((i : Nat) : Int)))], [(101, .box 1 2 [(.int .i64 m), (.ro (.arcs es))]), (102, .box 1 3 [(.int .i64 0), (.int .i64 0), (.int .i64 0)]), (5004, .flat (.arcs (at_ ++ [⟨((List.getD es i default).src), ((List.getD es i default).dst), ((List.getD es i default).cap)⟩])))]⟩ hT (by kernel_rfl) ⟨(by decide), (by first | omega | (simp only [lens]; omega) | (simp only [Bool.cond_decide]; omega)), (by first | omega | (simp only [lens]; omega) | (simp only [Bool.cond_decide]; omega)), (by first | omega | (simp only [lens]; omega) | (simp only [Bool.cond_decide]; omega)), trivial⟩ ?_
        refine awp_run [1, 2, 3, 4, 8, 9, 13, 14, 15] [101, 102, 5004] [(-9223372036854775808 ≤ (((i + 1) : Nat) : Int) ∧ (((i + 1) : Nat) : Int) ≤ 9223372036854775807)] ⟨42, [(1, .one (.ptr 101 0 0)), (2, .one (.ptr 102 0 0)), (3, .one (.int .i64 ((k : Nat) : Int))), (4, .one (.rw 5004 0 (at_.length + 1))), (8, .one (.int .i64 m)), (9, .one (.int .i64 ((k : Nat) : Int))), (13, .one (.ro (.arcs es))), (14, .one (.int .i64 ((es.length : Nat) : Int))), (15, .one (.int .i64 (((i + 1) : Nat) : Int)))], [(101, .box 1 2 [(.int .i64 m), (.ro (.arcs es))]), (102, .box 1 3 [(.int .i64 0), (.int .i64 0), (.int .i64 0)]), (5004, .flat (.arcs (at_ ++ [⟨((List.getD es i default).src), ((List.getD es i default).dst), ((List.getD es i default).cap)⟩])))]⟩ hT (by kernel_rfl) ⟨(by first | omega | (simp only [lens]; omega) | (simp only [Bool.cond_decide]; omega)), trivial⟩ ?_
        refine loop_end _ ?_ ⟨(i + 1), (at_ ++ [⟨((List.getD es i default).src), ((List.getD es i default).dst), ((List.getD es i default).cap)⟩]), ⟨(by omega), (by rw [hst, ← hat]), rfl⟩, (by first | (simp only [lens]; done) | (simp; done))⟩
        omega
      · -- no 8
        try simp only [bs] at c8
        have hst := filter_no (es := es) (i := i) (v := k) (by omega) (by unfold touch; rw [Bool.or_eq_false_iff, decide_eq_false_iff_not, decide_eq_false_iff_not]; omega)
        refine awp_skip ?_
        refine awp_run [1, 2, 3, 4, 8, 9, 13, 14, 15] [101, 102, 5004] [(-9223372036854775808 ≤ (((i + 1) : Nat) : Int) ∧ (((i + 1) : Nat) : Int) ≤ 9223372036854775807)] ⟨42, [(1, .one (.ptr 101 0 0)), (2, .one (.ptr 102 0 0)), (3, .one (.int .i64 ((k : Nat) : Int))), (4, .one (.rw 5004 0 at_.length)), (8, .one (.int .i64 m)), (9, .one (.int .i64 ((k : Nat) : Int))), (13, .one (.ro (.arcs es))), (14, .one (.int .i64 ((es.length : Nat) : Int))), (15, .one (.int .i64 (((i + 1) : Nat) : Int)))], [(101, .box 1 2 [(.int .i64 m), (.ro (.arcs es))]), (102, .box 1 3 [(.int .i64 0), (.int .i64 0), (.int .i64 0)]), (5004, .flat (.arcs at_))]⟩ hT (by kernel_rfl) ⟨(by first | omega | (simp only [lens]; omega) | (simp only [Bool.cond_decide]; omega)), trivial⟩ ?_
        refine loop_end _ ?_ ⟨(i + 1), at_, ⟨(by omega), (by rw [hst, ← hat]), rfl⟩, (by first | (simp only [lens]; done) | (simp; done))⟩
        omega
    · -- no 6
      try simp only [bs] at c6
      have hfa : at_ = es.filter (fun a => touch a k) := by rw [hat, List.take_of_length_le (by omega)]
      have hdg : at_.length = degT es k := by rw [hfa, degT, List.countP_eq_length_filter]
      refine awp_exit ?_
      refine awp_run_seq [1, 2, 4, 8, 9, 36] [101, 102, 5004] [] ⟨42, [(1, .one (.ptr 101 0 0)), (2, .one (.ptr 102 0 0)), (4, .one (.rw 5004 0 at_.length)), (8, .one (.int .i64 m)), (9, .one (.int .i64 ((k : Nat) : Int))), (36, .one (.bool (decide (((at_.length : Nat) : Int) = 1))))], [(101, .box 1 2 [(.int .i64 m), (.ro (.arcs es))]), (102, .box 1 3 [(.int .i64 0), (.int .i64 0), (.int .i64 0)]), (5004, .flat (.arcs at_))]⟩ hT (by kernel_rfl) trivial ?_
      refine awp_cond (b := (decide (((at_.length : Nat) : Int) = 1))) (by kernel_rfl) (fun c11 => ?_) (fun c11 => ?_)
      · -- yes 11
        try simp only [bs] at c11
        have hkf : k = f := by rcases Nat.lt_or_ge k f with q | q; exact absurd (by omega) (f3 k q); omega
        have hax : at_ = [x] := by rw [hfa, hkf]; exact f4
        refine awp_run_seq [2] [102] [((0 : Int) ≤ (0 : Int)), ((0 : Int) < ((at_.length : Nat) : Int)), (0 < at_.length), (0 < 1)] ⟨42, [(2, .one (.ptr 102 0 0))], [(102, .box 1 3 [(.int .i64 ((List.getD at_ 0 default).src)), (.int .i64 ((List.getD at_ 0 default).dst)), (.int .i64 ((List.getD at_ 0 default).cap))])]⟩ hT (by kernel_rfl) ⟨(by first | omega | (simp only [lens]; omega) | (simp only [Bool.cond_decide]; omega)), (by first | omega | (simp only [lens]; omega) | (simp only [Bool.cond_decide]; omega)), (by first | omega | (simp only [lens]; omega) | (simp only [Bool.cond_decide]; omega)), (by decide), trivial⟩ ?_
        refine awp_ret ?_
        refine kRet.ret _ [] [(0 < 1)] (.agg [(.int .i64 ((List.getD at_ 0 default).src)), (.int .i64 ((List.getD at_ 0 default).dst)), (.int .i64 ((List.getD at_ 0 default).cap))]) [] (by kernel_rfl) ⟨(by decide), trivial⟩ ?_
        exact ⟨by first | rw [show x.src = ((List.getD at_ 0 default).src) from Eq.symm (by rw [hax]; rfl), show x.dst = ((List.getD at_ 0 default).dst) from Eq.symm (by rw [hax]; rfl), show x.cap = ((List.getD at_ 0 default).cap) from Eq.symm (by rw [hax]; rfl)] | rw [show x.src = ((List.getD at_ 0 default).src) from Eq.symm (by rw [hax]; rfl)] | rw [show x.dst = ((List.getD at_ 0 default).dst) from Eq.symm (by rw [hax]; rfl)] | rw [show x.cap = ((List.getD at_ 0 default).cap) from Eq.symm (by rw [hax]; rfl)], rfl⟩
      · -- no 11
        try simp only [bs] at c11
        have hkf : k ≠ f := fun q => by rw [q] at hdg; omega
        refine awp_skip ?_
        refine awp_run [1, 2, 8, 9] [101, 102] [(-9223372036854775808 ≤ (((k + 1) : Nat) : Int) ∧ (((k + 1) : Nat) : Int) ≤ 9223372036854775807)] ⟨42, [(1, .one (.ptr 101 0 0)), (2, .one (.ptr 102 0 0)), (8, .one (.int .i64 m)), (9, .one (.int .i64 (((k + 1) : Nat) : Int)))], [(101, .box 1 2 [(.int .i64 m), (.ro (.arcs es))]), (102, .box 1 3 [(.int .i64 0), (.int .i64 0), (.int .i64 0)])]⟩ hT (by kernel_rfl) ⟨(by first | omega | (simp only [lens]; omega) | (simp only [Bool.cond_decide]; omega)), trivial⟩ ?_
        refine loop_end _ ?_ ⟨(k + 1), ⟨(by omega), rfl⟩, (by kernel_rfl)⟩
        omega
  · -- no 2
    try simp only [bs] at c2
    exfalso; omega

end Go.Ab
