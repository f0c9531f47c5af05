/- Of trees of parents: On, and the least of a list. -/
import Derived.Test.YtbapkmkhhgkenaaTab
import Derived.Test.YtbapkmkhhgkenaaF1
import Derived.Test.YtbapkmkhhgkenaaPlPairs
set_option maxRecDepth 100000
namespace Go.Ab
open Go Go.Proofs
theorem min_ints (l : List Int) (hl : l ≠ []) : ACall Try.prog 17 [.one (.ro (.ints .i64 l))] [] (fun v H => v = .one (.int .i64 (minOf l)) ∧ H = []) := by
  refine acall_intro Try.func17 rfl (by kernel_rfl) rfl (by kernel_rfl) ?_
  refine awp_len 0 0 (.ints .i64 l) (by kernel_rfl) (fun hlen => ?_)
  simp only [C0.len, maxLen] at hlen
  have hpos : 0 < l.length := List.length_pos_iff.2 hl
  refine awp_run_seq [0] [] [] ⟨25, [(0, .one (.ro (.ints .i64 l)))], []⟩ hT (by kernel_rfl) trivial ?_
  refine awp_seq ?_
  refine awp_run_seq [0, 7] [] [] ⟨25, [(0, .one (.ro (.ints .i64 l))), (7, .one (.bool (decide (((l.length : Nat) : Int) < 1))))], []⟩ hT (by kernel_rfl) trivial ?_
  refine awp_cond (b := (decide (((l.length : Nat) : Int) < 1))) (by kernel_rfl) (fun c1 => ?_) (fun c1 => ?_)
  · -- yes 1
    simp only [bs] at c1
    exfalso; omega
  · -- no 1
    simp only [bs] at c1
    refine awp_skip ?_
    refine awp_run_seq [0, 3] [] [((0 : Int) ≤ (0 : Int)), ((0 : Int) < ((l.length : Nat) : Int))] ⟨25, [(0, .one (.ro (.ints .i64 l))), (3, .one (.int .i64 (List.getD l 0 0)))], []⟩ hT (by kernel_rfl) ⟨(by omega), (by omega), trivial⟩ ?_
    refine awp_seq ?_
    refine awp_run_seq [0, 3, 4] [] [] ⟨25, [(0, .one (.ro (.ints .i64 l))), (3, .one (.int .i64 (List.getD l 0 0))), (4, .one (.int .i64 1))], []⟩ hT (by kernel_rfl) trivial ?_
    refine awp_block ?_
    refine awp_loop (I := fun k σ => ∃ (i : Nat) (m : Int), ((1 ≤ i) ∧ (i ≤ l.length) ∧ ((l.drop i).foldl min m = minOf l) ∧ l.length - i = k) ∧ σ = ⟨25, [(0, .one (.ro (.ints .i64 l))), (3, .one (.int .i64 m)), (4, .one (.int .i64 ((i : Nat) : Int)))], []⟩) _ ⟨1, (List.getD l 0 0), ⟨(by omega), (by omega), (by cases l with | nil => exact absurd rfl hl | cons x r => rfl), rfl⟩, (by kernel_rfl)⟩ ?_
    rintro k _ ⟨i, m, ⟨h1, hi, hm, rfl⟩, rfl⟩
    refine awp_seq ?_
    refine awp_run_seq [0, 3, 4, 15] [] [] ⟨25, [(0, .one (.ro (.ints .i64 l))), (3, .one (.int .i64 m)), (4, .one (.int .i64 ((i : Nat) : Int))), (15, .one (.bool (decide (((i : Nat) : Int) < ((l.length : Nat) : Int)))))], []⟩ hT (by kernel_rfl) trivial ?_
    refine awp_cond (b := (decide (((i : Nat) : Int) < ((l.length : Nat) : Int)))) (by kernel_rfl) (fun c5 => ?_) (fun c5 => ?_)
    · -- yes 5
      simp only [bs] at c5
      refine awp_skip ?_
      refine awp_seq ?_
      refine awp_block ?_
      refine awp_run [0, 3, 4] [] [((0 : Int) ≤ ((i : Nat) : Int)), (((i : Nat) : Int) < ((l.length : Nat) : Int))] ⟨25, [(0, .one (.ro (.ints .i64 l))), (3, .one (.int .i64 (min m (List.getD l i 0)))), (4, .one (.int .i64 ((i : Nat) : Int)))], []⟩ hT (by kernel_rfl) ⟨(by omega), (by omega), trivial⟩ ?_
      refine awp_run [0, 3, 4] [] [(-9223372036854775808 ≤ (((i + 1) : Nat) : Int) ∧ (((i + 1) : Nat) : Int) ≤ 9223372036854775807)] ⟨25, [(0, .one (.ro (.ints .i64 l))), (3, .one (.int .i64 (min m (List.getD l i 0)))), (4, .one (.int .i64 (((i + 1) : Nat) : Int)))], []⟩ hT (by kernel_rfl) ⟨(by omega), trivial⟩ ?_
      refine loop_end _ ?_ ⟨(i + 1), (min m (List.getD l i 0)), ⟨(by omega), (by omega), (by rw [drop_getD l 0 i (by omega)] at hm; simpa using hm), rfl⟩, (by kernel_rfl)⟩
      omega
    · -- no 5
      simp only [bs] at c5
      refine awp_exit ?_
      refine awp_run_seq [2] [] [] ⟨25, [(2, .one (.int .i64 m))], []⟩ hT (by kernel_rfl) trivial ?_
      refine awp_ret ?_
      refine kRet.ret _ (.one (.int .i64 m)) (by kernel_rfl) ?_
      exact ⟨congrArg (fun x1 => (.one (.int .i64 x1) : AV)) (show m = (minOf l) from by rw [List.drop_of_length_le (by omega)] at hm; exact hm), rfl⟩

theorem pairs_on (up w : List Int) (s t : Int) : ACall Try.prog 16 [.one (.ro (.ints .i64 up)), .one (.ro (.ints .i64 w)), .one (.int .i64 s), .one (.int .i64 t)] [] (fun v H => v = .tup [(false, [(.int .i64 (onVal up w s t))]), (false, [(.int .i64 (onErr up w s t))])] ∧ H = []) := by
  refine acall_intro Try.func16 rfl (by kernel_rfl) rfl (by kernel_rfl) ?_
  refine awp_run_seq [0, 1, 2, 3] [] [] ⟨100, [(0, .one (.ro (.ints .i64 up))), (1, .one (.ro (.ints .i64 w))), (2, .one (.int .i64 s)), (3, .one (.int .i64 t))], []⟩ hT (by kernel_rfl) trivial ?_
  refine awp_run_seq [0, 1, 2, 3, 10] [] [] ⟨100, [(0, .one (.ro (.ints .i64 up))), (1, .one (.ro (.ints .i64 w))), (2, .one (.int .i64 s)), (3, .one (.int .i64 t)), (10, .one (.int .i64 ((up.length : Nat) : Int)))], []⟩ hT (by kernel_rfl) trivial ?_
  refine awp_seq ?_
  refine awp_run_seq [0, 1, 2, 3, 10, 22] [] [((!(decide (((up.length : Nat) : Int) < 1))) = true → ((!(decide (((up.length : Nat) : Int) < 1))) = true → (!(decide (((up.length : Nat) : Int) < 1))) = true)), ((!(decide (((up.length : Nat) : Int) < 1))) = true → (!(decide (((up.length : Nat) : Int) < 1))) = true)] ⟨100, [(0, .one (.ro (.ints .i64 up))), (1, .one (.ro (.ints .i64 w))), (2, .one (.int .i64 s)), (3, .one (.int .i64 t)), (10, .one (.int .i64 ((up.length : Nat) : Int))), (22, .one (.bool ((decide (((up.length : Nat) : Int) < 1)) || (decide ((12 : Int) < ((up.length : Nat) : Int))))))], []⟩ hT (by kernel_rfl) ⟨(by intro hg; simp only [bs] at hg ⊢; first | exact hg | omega | (simp_all; done)), (fun h => h), trivial⟩ ?_
  refine awp_cond (b := ((decide (((up.length : Nat) : Int) < 1)) || (decide ((12 : Int) < ((up.length : Nat) : Int))))) (by kernel_rfl) (fun c2 => ?_) (fun c2 => ?_)
  · -- yes 2
    simp only [bs] at c2
    refine awp_run_seq [8, 9] [] [] ⟨100, [(8, .one (.int .i64 0)), (9, .one (.int .i64 2))], []⟩ hT (by kernel_rfl) trivial ?_
    refine awp_ret ?_
    have hE : onErr up w s t = 2 := by unfold onErr; rw [if_pos (by omega)]
    refine kRet.ret _ (.tup [(false, [(.int .i64 0)]), (false, [(.int .i64 2)])]) (by kernel_rfl) ?_
    exact ⟨by rw [show 0 = (onVal up w s t) from by simp [onVal, hE]]; rw [show 2 = (onErr up w s t) from by simp [hE]], rfl⟩
  · -- no 2
    simp only [bs] at c2
    refine awp_skip ?_
    refine awp_seq ?_
    refine awp_run_seq [0, 1, 2, 3, 10, 26] [] [] ⟨100, [(0, .one (.ro (.ints .i64 up))), (1, .one (.ro (.ints .i64 w))), (2, .one (.int .i64 s)), (3, .one (.int .i64 t)), (10, .one (.int .i64 ((up.length : Nat) : Int))), (26, .one (.bool (decide (((w.length : Nat) : Int) ≠ ((up.length : Nat) : Int)))))], []⟩ hT (by kernel_rfl) trivial ?_
    refine awp_cond (b := (decide (((w.length : Nat) : Int) ≠ ((up.length : Nat) : Int)))) (by kernel_rfl) (fun c4 => ?_) (fun c4 => ?_)
    · -- yes 4
      simp only [bs] at c4
      refine awp_run_seq [8, 9] [] [] ⟨100, [(8, .one (.int .i64 0)), (9, .one (.int .i64 3))], []⟩ hT (by kernel_rfl) trivial ?_
      refine awp_ret ?_
      have hE : onErr up w s t = 3 := by unfold onErr; rw [if_neg (by omega), if_pos (by omega)]
      refine kRet.ret _ (.tup [(false, [(.int .i64 0)]), (false, [(.int .i64 3)])]) (by kernel_rfl) ?_
      exact ⟨by rw [show 0 = (onVal up w s t) from by simp [onVal, hE]]; rw [show 3 = (onErr up w s t) from by simp [hE]], rfl⟩
    · -- no 4
      simp only [bs] at c4
      refine awp_skip ?_
      refine awp_seq ?_
      refine awp_run_seq [0, 1, 2, 3, 10, 27, 28, 29] [] [] ⟨100, [(0, .one (.ro (.ints .i64 up))), (1, .one (.ro (.ints .i64 w))), (2, .one (.int .i64 s)), (3, .one (.int .i64 t)), (10, .one (.int .i64 ((up.length : Nat) : Int))), (27, .one (.ro (.ints .i64 up))), (28, .one (.int .i64 ((up.length : Nat) : Int))), (29, .one (.int .i64 0))], []⟩ hT (by kernel_rfl) trivial ?_
      refine awp_block ?_
      refine awp_loop (I := fun k σ => ∃ (i : Nat), ((i ≤ up.length) ∧ (∀ j, j < i → 0 ≤ up.getD j 0 ∧ up.getD j 0 ≤ max 0 ((j : Int) - 1)) ∧ up.length - i = k) ∧ σ = ⟨100, [(0, .one (.ro (.ints .i64 up))), (1, .one (.ro (.ints .i64 w))), (2, .one (.int .i64 s)), (3, .one (.int .i64 t)), (10, .one (.int .i64 ((up.length : Nat) : Int))), (27, .one (.ro (.ints .i64 up))), (28, .one (.int .i64 ((up.length : Nat) : Int))), (29, .one (.int .i64 ((i : Nat) : Int)))], []⟩) _ ⟨0, ⟨(by omega), (by intro j hj; omega), rfl⟩, (by kernel_rfl)⟩ ?_
      rintro k _ ⟨i, ⟨hi, hp, rfl⟩, rfl⟩
      refine awp_run_seq [0, 1, 2, 3, 10, 27, 28, 29, 30] [] [] ⟨100, [(0, .one (.ro (.ints .i64 up))), (1, .one (.ro (.ints .i64 w))), (2, .one (.int .i64 s)), (3, .one (.int .i64 t)), (10, .one (.int .i64 ((up.length : Nat) : Int))), (27, .one (.ro (.ints .i64 up))), (28, .one (.int .i64 ((up.length : Nat) : Int))), (29, .one (.int .i64 ((i : Nat) : Int))), (30, .one (.bool (decide (((i : Nat) : Int) < ((up.length : Nat) : Int)))))], []⟩ hT (by kernel_rfl) trivial ?_
      refine awp_seq ?_
      refine awp_cond (b := (decide (((i : Nat) : Int) < ((up.length : Nat) : Int)))) (by kernel_rfl) (fun c7 => ?_) (fun c7 => ?_)
      · -- yes 7
        simp only [bs] at c7
        refine awp_skip ?_
        refine awp_seq ?_
        refine awp_block ?_
        refine awp_run_seq [0, 1, 2, 3, 10, 11, 12, 27, 28, 29] [] [((0 : Int) ≤ ((i : Nat) : Int)), (((i : Nat) : Int) < ((up.length : Nat) : Int))] ⟨100, [(0, .one (.ro (.ints .i64 up))), (1, .one (.ro (.ints .i64 w))), (2, .one (.int .i64 s)), (3, .one (.int .i64 t)), (10, .one (.int .i64 ((up.length : Nat) : Int))), (11, .one (.int .i64 ((i : Nat) : Int))), (12, .one (.int .i64 (List.getD up i 0))), (27, .one (.ro (.ints .i64 up))), (28, .one (.int .i64 ((up.length : Nat) : Int))), (29, .one (.int .i64 ((i : Nat) : Int)))], []⟩ hT (by kernel_rfl) ⟨(by omega), (by omega), trivial⟩ ?_
        refine awp_run_seq [0, 1, 2, 3, 10, 27, 28, 29, 52] [] [((decide ((0 : Int) < ((i : Nat) : Int))) = true → ((decide ((0 : Int) < ((i : Nat) : Int))) = true → (decide ((0 : Int) < ((i : Nat) : Int))) = true)), ((decide ((0 : Int) < ((i : Nat) : Int))) = true → ((decide ((0 : Int) < ((i : Nat) : Int))) = true → (decide ((0 : Int) < ((i : Nat) : Int))) = true)), (((decide ((0 : Int) < ((i : Nat) : Int))) && (!(decide ((List.getD up i 0) < 0)))) = true → (((decide ((0 : Int) < ((i : Nat) : Int))) && (!(decide ((List.getD up i 0) < 0)))) = true → ((decide ((0 : Int) < ((i : Nat) : Int))) && (!(decide ((List.getD up i 0) < 0)))) = true)), (((decide ((0 : Int) < ((i : Nat) : Int))) && (!(decide ((List.getD up i 0) < 0)))) = true → (((decide ((0 : Int) < ((i : Nat) : Int))) && (!(decide ((List.getD up i 0) < 0)))) = true → ((decide ((0 : Int) < ((i : Nat) : Int))) && (!(decide ((List.getD up i 0) < 0)))) = true)), ((decide ((0 : Int) < ((i : Nat) : Int))) = true → ((decide ((0 : Int) < ((i : Nat) : Int))) = true → (decide ((0 : Int) < ((i : Nat) : Int))) = true)), ((decide ((0 : Int) < ((i : Nat) : Int))) = true → (((decide ((0 : Int) < ((i : Nat) : Int))) && (!(decide ((List.getD up i 0) < 0)))) = true → ((decide ((0 : Int) < ((i : Nat) : Int))) && (!(decide ((List.getD up i 0) < 0)))) = true)), ((decide ((0 : Int) < ((i : Nat) : Int))) = true → (decide ((0 : Int) < ((i : Nat) : Int))) = true), ((!((decide ((0 : Int) < ((i : Nat) : Int))) && ((decide ((List.getD up i 0) < 0)) || (decide (((i : Nat) : Int) ≤ (List.getD up i 0)))))) = true → ((!((decide ((0 : Int) < ((i : Nat) : Int))) && ((decide ((List.getD up i 0) < 0)) || (decide (((i : Nat) : Int) ≤ (List.getD up i 0)))))) = true → (!((decide ((0 : Int) < ((i : Nat) : Int))) && ((decide ((List.getD up i 0) < 0)) || (decide (((i : Nat) : Int) ≤ (List.getD up i 0)))))) = true)), ((!((decide ((0 : Int) < ((i : Nat) : Int))) && ((decide ((List.getD up i 0) < 0)) || (decide (((i : Nat) : Int) ≤ (List.getD up i 0)))))) = true → ((!((decide ((0 : Int) < ((i : Nat) : Int))) && ((decide ((List.getD up i 0) < 0)) || (decide (((i : Nat) : Int) ≤ (List.getD up i 0)))))) = true → (!((decide ((0 : Int) < ((i : Nat) : Int))) && ((decide ((List.getD up i 0) < 0)) || (decide (((i : Nat) : Int) ≤ (List.getD up i 0)))))) = true)), (((!((decide ((0 : Int) < ((i : Nat) : Int))) && ((decide ((List.getD up i 0) < 0)) || (decide (((i : Nat) : Int) ≤ (List.getD up i 0)))))) && (decide (((i : Nat) : Int) = 0))) = true → (((!((decide ((0 : Int) < ((i : Nat) : Int))) && ((decide ((List.getD up i 0) < 0)) || (decide (((i : Nat) : Int) ≤ (List.getD up i 0)))))) && (decide (((i : Nat) : Int) = 0))) = true → ((!((decide ((0 : Int) < ((i : Nat) : Int))) && ((decide ((List.getD up i 0) < 0)) || (decide (((i : Nat) : Int) ≤ (List.getD up i 0)))))) && (decide (((i : Nat) : Int) = 0))) = true)), ((!((decide ((0 : Int) < ((i : Nat) : Int))) && ((decide ((List.getD up i 0) < 0)) || (decide (((i : Nat) : Int) ≤ (List.getD up i 0)))))) = true → ((!((decide ((0 : Int) < ((i : Nat) : Int))) && ((decide ((List.getD up i 0) < 0)) || (decide (((i : Nat) : Int) ≤ (List.getD up i 0)))))) = true → (!((decide ((0 : Int) < ((i : Nat) : Int))) && ((decide ((List.getD up i 0) < 0)) || (decide (((i : Nat) : Int) ≤ (List.getD up i 0)))))) = true)), ((!((decide ((0 : Int) < ((i : Nat) : Int))) && ((decide ((List.getD up i 0) < 0)) || (decide (((i : Nat) : Int) ≤ (List.getD up i 0)))))) = true → (((!((decide ((0 : Int) < ((i : Nat) : Int))) && ((decide ((List.getD up i 0) < 0)) || (decide (((i : Nat) : Int) ≤ (List.getD up i 0)))))) && (decide (((i : Nat) : Int) = 0))) = true → ((!((decide ((0 : Int) < ((i : Nat) : Int))) && ((decide ((List.getD up i 0) < 0)) || (decide (((i : Nat) : Int) ≤ (List.getD up i 0)))))) && (decide (((i : Nat) : Int) = 0))) = true)), ((!((decide ((0 : Int) < ((i : Nat) : Int))) && ((decide ((List.getD up i 0) < 0)) || (decide (((i : Nat) : Int) ≤ (List.getD up i 0)))))) = true → (!((decide ((0 : Int) < ((i : Nat) : Int))) && ((decide ((List.getD up i 0) < 0)) || (decide (((i : Nat) : Int) ≤ (List.getD up i 0)))))) = true)] ⟨100, [(0, .one (.ro (.ints .i64 up))), (1, .one (.ro (.ints .i64 w))), (2, .one (.int .i64 s)), (3, .one (.int .i64 t)), (10, .one (.int .i64 ((up.length : Nat) : Int))), (27, .one (.ro (.ints .i64 up))), (28, .one (.int .i64 ((up.length : Nat) : Int))), (29, .one (.int .i64 ((i : Nat) : Int))), (52, .one (.bool (((decide ((0 : Int) < ((i : Nat) : Int))) && ((decide ((List.getD up i 0) < 0)) || (decide (((i : Nat) : Int) ≤ (List.getD up i 0))))) || ((decide (((i : Nat) : Int) = 0)) && (decide ((List.getD up i 0) ≠ 0))))))], []⟩ hT (by kernel_rfl) ⟨(by intro hg; simp only [bs] at hg ⊢; first | exact hg | omega | (simp_all; done)), (by intro hg; simp only [bs] at hg ⊢; first | exact hg | omega | (simp_all; done)), (by intro hg; simp only [bs] at hg ⊢; first | exact hg | omega | (simp_all; done)), (by intro hg; simp only [bs] at hg ⊢; first | exact hg | omega | (simp_all; done)), (by intro hg; simp only [bs] at hg ⊢; first | exact hg | omega | (simp_all; done)), (by intro hg; simp only [bs] at hg ⊢; first | exact hg | omega | (simp_all; done)), (fun h => h), (by intro hg; simp only [bs] at hg ⊢; first | exact hg | omega | (simp_all; done)), (by intro hg; simp only [bs] at hg ⊢; first | exact hg | omega | (simp_all; done)), (by intro hg; simp only [bs] at hg ⊢; first | exact hg | omega | (simp_all; done)), (by intro hg; simp only [bs] at hg ⊢; first | exact hg | omega | (simp_all; done)), (by intro hg; simp only [bs] at hg ⊢; first | exact hg | omega | (simp_all; done)), (fun h => h), trivial⟩ ?_
        refine awp_cond (b := (((decide ((0 : Int) < ((i : Nat) : Int))) && ((decide ((List.getD up i 0) < 0)) || (decide (((i : Nat) : Int) ≤ (List.getD up i 0))))) || ((decide (((i : Nat) : Int) = 0)) && (decide ((List.getD up i 0) ≠ 0))))) (by kernel_rfl) (fun c9 => ?_) (fun c9 => ?_)
        · -- yes 9
          simp only [bs] at c9
          refine awp_run_seq [8, 9] [] [] ⟨100, [(8, .one (.int .i64 0)), (9, .one (.int .i64 3))], []⟩ hT (by kernel_rfl) trivial ?_
          refine awp_ret ?_
          have hE : onErr up w s t = 3 := by unfold onErr; rw [if_neg (by omega), if_neg (by omega), if_pos (fun h => by have := h i (by omega); omega)]
          refine kRet.ret _ (.tup [(false, [(.int .i64 0)]), (false, [(.int .i64 3)])]) (by kernel_rfl) ?_
          exact ⟨by rw [show 0 = (onVal up w s t) from by simp [onVal, hE]]; rw [show 3 = (onErr up w s t) from by simp [hE]], rfl⟩
        · -- no 9
          simp only [bs] at c9
          refine awp_skip ?_
          refine awp_run [0, 1, 2, 3, 10, 27, 28, 29] [] [(-9223372036854775808 ≤ (((i + 1) : Nat) : Int) ∧ (((i + 1) : Nat) : Int) ≤ 9223372036854775807)] ⟨100, [(0, .one (.ro (.ints .i64 up))), (1, .one (.ro (.ints .i64 w))), (2, .one (.int .i64 s)), (3, .one (.int .i64 t)), (10, .one (.int .i64 ((up.length : Nat) : Int))), (27, .one (.ro (.ints .i64 up))), (28, .one (.int .i64 ((up.length : Nat) : Int))), (29, .one (.int .i64 (((i + 1) : Nat) : Int)))], []⟩ hT (by kernel_rfl) ⟨(by omega), trivial⟩ ?_
          refine loop_end _ ?_ ⟨(i + 1), ⟨(by omega), (by intro j hj; rcases Nat.lt_succ_iff_lt_or_eq.1 hj with h | h; exact hp j h; subst h; omega), rfl⟩, (by kernel_rfl)⟩
          omega
      · -- no 7
        simp only [bs] at c7
        have htree : treeOk up := fun k hk => hp k (by omega)
        refine awp_exit ?_
        refine awp_seq ?_
        refine awp_run_seq [0, 1, 2, 3, 69] [] [((!(decide (s < 0))) = true → ((!(decide (s < 0))) = true → (!(decide (s < 0))) = true)), ((!(decide (s < 0))) = true → ((!(decide (s < 0))) = true → (!(decide (s < 0))) = true)), ((!(decide (s < 0))) = true → (!(decide (s < 0))) = true), ((!((decide (s < 0)) || (decide (((up.length : Nat) : Int) ≤ s)))) = true → ((!((decide (s < 0)) || (decide (((up.length : Nat) : Int) ≤ s)))) = true → (!((decide (s < 0)) || (decide (((up.length : Nat) : Int) ≤ s)))) = true)), ((!((decide (s < 0)) || (decide (((up.length : Nat) : Int) ≤ s)))) = true → (!((decide (s < 0)) || (decide (((up.length : Nat) : Int) ≤ s)))) = true), ((!(((decide (s < 0)) || (decide (((up.length : Nat) : Int) ≤ s))) || (decide (t < 0)))) = true → ((!(((decide (s < 0)) || (decide (((up.length : Nat) : Int) ≤ s))) || (decide (t < 0)))) = true → (!(((decide (s < 0)) || (decide (((up.length : Nat) : Int) ≤ s))) || (decide (t < 0)))) = true)), ((!(((decide (s < 0)) || (decide (((up.length : Nat) : Int) ≤ s))) || (decide (t < 0)))) = true → ((!(((decide (s < 0)) || (decide (((up.length : Nat) : Int) ≤ s))) || (decide (t < 0)))) = true → (!(((decide (s < 0)) || (decide (((up.length : Nat) : Int) ≤ s))) || (decide (t < 0)))) = true)), ((!(((decide (s < 0)) || (decide (((up.length : Nat) : Int) ≤ s))) || (decide (t < 0)))) = true → (!(((decide (s < 0)) || (decide (((up.length : Nat) : Int) ≤ s))) || (decide (t < 0)))) = true)] ⟨100, [(0, .one (.ro (.ints .i64 up))), (1, .one (.ro (.ints .i64 w))), (2, .one (.int .i64 s)), (3, .one (.int .i64 t)), (69, .one (.bool ((((decide (s < 0)) || (decide (((up.length : Nat) : Int) ≤ s))) || (decide (t < 0))) || (decide (((up.length : Nat) : Int) ≤ t)))))], []⟩ hT (by kernel_rfl) ⟨(by intro hg; simp only [bs] at hg ⊢; first | exact hg | omega | (simp_all; done)), (by intro hg; simp only [bs] at hg ⊢; first | exact hg | omega | (simp_all; done)), (fun h => h), (by intro hg; simp only [bs] at hg ⊢; first | exact hg | omega | (simp_all; done)), (fun h => h), (by intro hg; simp only [bs] at hg ⊢; first | exact hg | omega | (simp_all; done)), (by intro hg; simp only [bs] at hg ⊢; first | exact hg | omega | (simp_all; done)), (fun h => h), trivial⟩ ?_
        refine awp_cond (b := ((((decide (s < 0)) || (decide (((up.length : Nat) : Int) ≤ s))) || (decide (t < 0))) || (decide (((up.length : Nat) : Int) ≤ t)))) (by kernel_rfl) (fun c12 => ?_) (fun c12 => ?_)
        · -- yes 12
          simp only [bs] at c12
          refine awp_run_seq [8, 9] [] [] ⟨100, [(8, .one (.int .i64 0)), (9, .one (.int .i64 4))], []⟩ hT (by kernel_rfl) trivial ?_
          refine awp_ret ?_
          have hE : onErr up w s t = 4 := by unfold onErr; rw [if_neg (by omega), if_neg (by omega), if_neg (fun h => h htree), if_pos (by omega)]
          refine kRet.ret _ (.tup [(false, [(.int .i64 0)]), (false, [(.int .i64 4)])]) (by kernel_rfl) ?_
          exact ⟨by rw [show 0 = (onVal up w s t) from by simp [onVal, hE]]; rw [show 4 = (onErr up w s t) from by simp [hE]], rfl⟩
        · -- no 12
          simp only [bs] at c12
          refine awp_skip ?_
          refine awp_seq ?_
          refine awp_run_seq [0, 1, 2, 3, 72] [] [] ⟨100, [(0, .one (.ro (.ints .i64 up))), (1, .one (.ro (.ints .i64 w))), (2, .one (.int .i64 s)), (3, .one (.int .i64 t)), (72, .one (.bool (decide (s = t))))], []⟩ hT (by kernel_rfl) trivial ?_
          refine awp_cond (b := (decide (s = t))) (by kernel_rfl) (fun c14 => ?_) (fun c14 => ?_)
          · -- yes 14
            simp only [bs] at c14
            refine awp_run_seq [8, 9] [] [] ⟨100, [(8, .one (.int .i64 0)), (9, .one (.int .i64 3))], []⟩ hT (by kernel_rfl) trivial ?_
            refine awp_ret ?_
            have hE : onErr up w s t = 3 := by unfold onErr; rw [if_neg (by omega), if_neg (by omega), if_neg (fun h => h htree), if_neg (by omega), if_pos c14]
            refine kRet.ret _ (.tup [(false, [(.int .i64 0)]), (false, [(.int .i64 3)])]) (by kernel_rfl) ?_
            exact ⟨by rw [show 0 = (onVal up w s t) from by simp [onVal, hE]]; rw [show 3 = (onErr up w s t) from by simp [hE]], rfl⟩
          · -- no 14
            simp only [bs] at c14
            refine awp_skip ?_
            refine awp_run_seq [0, 1, 2, 3, 13, 14] [] [] ⟨100, [(0, .one (.ro (.ints .i64 up))), (1, .one (.ro (.ints .i64 w))), (2, .one (.int .i64 s)), (3, .one (.int .i64 t)), (13, .one (.int .i64 0)), (14, .one (.bool false))], []⟩ hT (by kernel_rfl) trivial ?_
            refine awp_seq ?_
            refine awp_block ?_
            have hE : onErr up w s t = 0 := by unfold onErr; rw [if_neg (by omega), if_neg (by omega), if_neg (fun h => h htree), if_neg (by omega), if_neg c14]
            refine awp_loop (I := fun k σ => ∃ (a b : Int) (any : Bool) (m : Int) (n : Nat), ((0 ≤ a ∧ a < up.length) ∧ (0 ≤ b ∧ b < up.length) ∧ (a + b ≤ n) ∧ (lowOf any m (climb up w n a b) = onVal up w s t) ∧ n = k) ∧ σ = ⟨100, [(0, .one (.ro (.ints .i64 up))), (1, .one (.ro (.ints .i64 w))), (2, .one (.int .i64 a)), (3, .one (.int .i64 b)), (13, .one (.int .i64 m)), (14, .one (.bool any))], []⟩) _ ⟨s, t, false, 0, (s + t).toNat, ⟨(by omega), (by omega), (by omega), (by simp only [onVal, hE, if_true]), rfl⟩, (by kernel_rfl)⟩ ?_
            rintro k _ ⟨a, b, any, m, n, ⟨ha, hb, hn, hl, rfl⟩, rfl⟩
            refine awp_seq ?_
            refine awp_run_seq [0, 1, 2, 3, 13, 14, 75] [] [] ⟨100, [(0, .one (.ro (.ints .i64 up))), (1, .one (.ro (.ints .i64 w))), (2, .one (.int .i64 a)), (3, .one (.int .i64 b)), (13, .one (.int .i64 m)), (14, .one (.bool any)), (75, .one (.bool (decide (a ≠ b))))], []⟩ hT (by kernel_rfl) trivial ?_
            refine awp_cond (b := (decide (a ≠ b))) (by kernel_rfl) (fun c17 => ?_) (fun c17 => ?_)
            · -- yes 17
              simp only [bs] at c17
              obtain ⟨n', rfl⟩ : ∃ n', n = n' + 1 := ⟨n - 1, by omega⟩
              refine awp_skip ?_
              refine awp_block ?_
              refine awp_seq ?_
              refine awp_run_seq [0, 1, 2, 3, 13, 14, 78] [] [] ⟨100, [(0, .one (.ro (.ints .i64 up))), (1, .one (.ro (.ints .i64 w))), (2, .one (.int .i64 a)), (3, .one (.int .i64 b)), (13, .one (.int .i64 m)), (14, .one (.bool any)), (78, .one (.bool (decide (a < b))))], []⟩ hT (by kernel_rfl) trivial ?_
              refine awp_cond (b := (decide (a < b))) (by kernel_rfl) (fun c18 => ?_) (fun c18 => ?_)
              · -- yes 18
                simp only [bs] at c18
                rw [climb_lt c18, climb_comm] at hl
                refine awp_run [0, 1, 2, 3, 13, 14] [] [] ⟨100, [(0, .one (.ro (.ints .i64 up))), (1, .one (.ro (.ints .i64 w))), (2, .one (.int .i64 b)), (3, .one (.int .i64 a)), (13, .one (.int .i64 m)), (14, .one (.bool any))], []⟩ hT (by kernel_rfl) trivial ?_
                refine awp_seq ?_
                refine awp_run_seq [0, 1, 2, 3, 13, 14, 90] [] [((!(!any)) = true → ((!(!any)) = true → (!(!any)) = true)), ((!(!any)) = true → ((!(!any)) = true → (!(!any)) = true)), ((!(!any)) = true → ((0 : Int) ≤ b)), ((!(!any)) = true → (b < ((w.length : Nat) : Int))), ((!(!any)) = true → ((!(!any)) = true → (!(!any)) = true)), ((!(!any)) = true → ((!(!any)) = true → (!(!any)) = true)), ((!(!any)) = true → ((!(!any)) = true → (!(!any)) = true)), ((!(!any)) = true → (!(!any)) = true)] ⟨100, [(0, .one (.ro (.ints .i64 up))), (1, .one (.ro (.ints .i64 w))), (2, .one (.int .i64 b)), (3, .one (.int .i64 a)), (13, .one (.int .i64 m)), (14, .one (.bool any)), (90, .one (.bool ((!any) || (decide ((List.getD w (Int.toNat b) 0) < m)))))], []⟩ hT (by kernel_rfl) ⟨(by intro hg; simp only [bs] at hg ⊢; first | exact hg | omega | (simp_all; done)), (by intro hg; simp only [bs] at hg ⊢; first | exact hg | omega | (simp_all; done)), (by intro hg; simp only [bs] at hg; omega), (by intro hg; simp only [bs] at hg; omega), (by intro hg; simp only [bs] at hg ⊢; first | exact hg | omega | (simp_all; done)), (by intro hg; simp only [bs] at hg ⊢; first | exact hg | omega | (simp_all; done)), (by intro hg; simp only [bs] at hg ⊢; first | exact hg | omega | (simp_all; done)), (fun h => h), trivial⟩ ?_
                refine awp_cond (b := ((!any) || (decide ((List.getD w (Int.toNat b) 0) < m)))) (by kernel_rfl) (fun c20 => ?_) (fun c20 => ?_)
                · -- yes 20
                  simp only [bs] at c20
                  rw [lowOf, if_pos c20] at hl
                  refine awp_run [0, 1, 2, 3, 13, 14] [] [((0 : Int) ≤ b), (b < ((w.length : Nat) : Int))] ⟨100, [(0, .one (.ro (.ints .i64 up))), (1, .one (.ro (.ints .i64 w))), (2, .one (.int .i64 b)), (3, .one (.int .i64 a)), (13, .one (.int .i64 (List.getD w (Int.toNat b) 0))), (14, .one (.bool true))], []⟩ hT (by kernel_rfl) ⟨(by omega), (by omega), trivial⟩ ?_
                  refine awp_run [0, 1, 2, 3, 13, 14] [] [((0 : Int) ≤ b), (b < ((up.length : Nat) : Int))] ⟨100, [(0, .one (.ro (.ints .i64 up))), (1, .one (.ro (.ints .i64 w))), (2, .one (.int .i64 (List.getD up (Int.toNat b) 0))), (3, .one (.int .i64 a)), (13, .one (.int .i64 (List.getD w (Int.toNat b) 0))), (14, .one (.bool true))], []⟩ hT (by kernel_rfl) ⟨(by omega), (by omega), trivial⟩ ?_
                  refine loop_end _ ?_ ⟨(List.getD up (Int.toNat b) 0), a, true, (List.getD w (Int.toNat b) 0), n', ⟨(by have := htree.below (s := a) (by omega) (by omega); have := htree.below (s := b) (by omega) (by omega); omega), (by omega), (by have := htree.below (s := a) (by omega) (by omega); have := htree.below (s := b) (by omega) (by omega); omega), (by exact hl), rfl⟩, (by kernel_rfl)⟩
                  omega
                · -- no 20
                  simp only [bs] at c20
                  rw [lowOf, if_neg (by rintro (h | h); rw [c20.1] at h; cases h; exact c20.2 h)] at hl
                  refine awp_skip ?_
                  refine awp_run [0, 1, 2, 3, 13, 14] [] [((0 : Int) ≤ b), (b < ((up.length : Nat) : Int))] ⟨100, [(0, .one (.ro (.ints .i64 up))), (1, .one (.ro (.ints .i64 w))), (2, .one (.int .i64 (List.getD up (Int.toNat b) 0))), (3, .one (.int .i64 a)), (13, .one (.int .i64 m)), (14, .one (.bool any))], []⟩ hT (by kernel_rfl) ⟨(by omega), (by omega), trivial⟩ ?_
                  refine loop_end _ ?_ ⟨(List.getD up (Int.toNat b) 0), a, any, m, n', ⟨(by have := htree.below (s := a) (by omega) (by omega); have := htree.below (s := b) (by omega) (by omega); omega), (by omega), (by have := htree.below (s := a) (by omega) (by omega); have := htree.below (s := b) (by omega) (by omega); omega), (by exact hl), rfl⟩, (by kernel_rfl)⟩
                  omega
              · -- no 18
                simp only [bs] at c18
                rw [climb_gt (by omega)] at hl
                refine awp_skip ?_
                refine awp_seq ?_
                refine awp_run_seq [0, 1, 2, 3, 13, 14, 90] [] [((!(!any)) = true → ((!(!any)) = true → (!(!any)) = true)), ((!(!any)) = true → ((!(!any)) = true → (!(!any)) = true)), ((!(!any)) = true → ((0 : Int) ≤ a)), ((!(!any)) = true → (a < ((w.length : Nat) : Int))), ((!(!any)) = true → ((!(!any)) = true → (!(!any)) = true)), ((!(!any)) = true → ((!(!any)) = true → (!(!any)) = true)), ((!(!any)) = true → ((!(!any)) = true → (!(!any)) = true)), ((!(!any)) = true → (!(!any)) = true)] ⟨100, [(0, .one (.ro (.ints .i64 up))), (1, .one (.ro (.ints .i64 w))), (2, .one (.int .i64 a)), (3, .one (.int .i64 b)), (13, .one (.int .i64 m)), (14, .one (.bool any)), (90, .one (.bool ((!any) || (decide ((List.getD w (Int.toNat a) 0) < m)))))], []⟩ hT (by kernel_rfl) ⟨(by intro hg; simp only [bs] at hg ⊢; first | exact hg | omega | (simp_all; done)), (by intro hg; simp only [bs] at hg ⊢; first | exact hg | omega | (simp_all; done)), (by intro hg; simp only [bs] at hg; omega), (by intro hg; simp only [bs] at hg; omega), (by intro hg; simp only [bs] at hg ⊢; first | exact hg | omega | (simp_all; done)), (by intro hg; simp only [bs] at hg ⊢; first | exact hg | omega | (simp_all; done)), (by intro hg; simp only [bs] at hg ⊢; first | exact hg | omega | (simp_all; done)), (fun h => h), trivial⟩ ?_
                refine awp_cond (b := ((!any) || (decide ((List.getD w (Int.toNat a) 0) < m)))) (by kernel_rfl) (fun c20 => ?_) (fun c20 => ?_)
                · -- yes 20
                  simp only [bs] at c20
                  rw [lowOf, if_pos c20] at hl
                  refine awp_run [0, 1, 2, 3, 13, 14] [] [((0 : Int) ≤ a), (a < ((w.length : Nat) : Int))] ⟨100, [(0, .one (.ro (.ints .i64 up))), (1, .one (.ro (.ints .i64 w))), (2, .one (.int .i64 a)), (3, .one (.int .i64 b)), (13, .one (.int .i64 (List.getD w (Int.toNat a) 0))), (14, .one (.bool true))], []⟩ hT (by kernel_rfl) ⟨(by omega), (by omega), trivial⟩ ?_
                  refine awp_run [0, 1, 2, 3, 13, 14] [] [((0 : Int) ≤ a), (a < ((up.length : Nat) : Int))] ⟨100, [(0, .one (.ro (.ints .i64 up))), (1, .one (.ro (.ints .i64 w))), (2, .one (.int .i64 (List.getD up (Int.toNat a) 0))), (3, .one (.int .i64 b)), (13, .one (.int .i64 (List.getD w (Int.toNat a) 0))), (14, .one (.bool true))], []⟩ hT (by kernel_rfl) ⟨(by omega), (by omega), trivial⟩ ?_
                  refine loop_end _ ?_ ⟨(List.getD up (Int.toNat a) 0), b, true, (List.getD w (Int.toNat a) 0), n', ⟨(by have := htree.below (s := a) (by omega) (by omega); have := htree.below (s := b) (by omega) (by omega); omega), (by omega), (by have := htree.below (s := a) (by omega) (by omega); have := htree.below (s := b) (by omega) (by omega); omega), (by exact hl), rfl⟩, (by kernel_rfl)⟩
                  omega
                · -- no 20
                  simp only [bs] at c20
                  rw [lowOf, if_neg (by rintro (h | h); rw [c20.1] at h; cases h; exact c20.2 h)] at hl
                  refine awp_skip ?_
                  refine awp_run [0, 1, 2, 3, 13, 14] [] [((0 : Int) ≤ a), (a < ((up.length : Nat) : Int))] ⟨100, [(0, .one (.ro (.ints .i64 up))), (1, .one (.ro (.ints .i64 w))), (2, .one (.int .i64 (List.getD up (Int.toNat a) 0))), (3, .one (.int .i64 b)), (13, .one (.int .i64 m)), (14, .one (.bool any))], []⟩ hT (by kernel_rfl) ⟨(by omega), (by omega), trivial⟩ ?_
                  refine loop_end _ ?_ ⟨(List.getD up (Int.toNat a) 0), b, any, m, n', ⟨(by have := htree.below (s := a) (by omega) (by omega); have := htree.below (s := b) (by omega) (by omega); omega), (by omega), (by have := htree.below (s := a) (by omega) (by omega); have := htree.below (s := b) (by omega) (by omega); omega), (by exact hl), rfl⟩, (by kernel_rfl)⟩
                  omega
            · -- no 17
              simp only [bs] at c17
              refine awp_exit ?_
              refine awp_run_seq [8, 9] [] [] ⟨100, [(8, .one (.int .i64 m)), (9, .one (.int .i64 0))], []⟩ hT (by kernel_rfl) trivial ?_
              refine awp_ret ?_
              have hab : a = b := by omega
              refine kRet.ret _ (.tup [(false, [(.int .i64 m)]), (false, [(.int .i64 0)])]) (by kernel_rfl) ?_
              exact ⟨by rw [show m = (onVal up w s t) from by (subst hab; rw [climb_self] at hl; exact hl)]; rw [show 0 = (onErr up w s t) from by exact hE.symm], rfl⟩

end Go.Ab
