/- PairsOn returns true. -/
import Derived.Test.YtbapkmkhhgkenaaTab
import Derived.Test.YtbapkmkhhgkenaaPairs1
set_option maxRecDepth 100000
namespace Go.Ab
open Go Go.Proofs
theorem pairsOn_law (up w : List Int) (s t : Int) : ACall Try.prog 4 [.one (.ro (.ints .i64 up)), .one (.ro (.ints .i64 w)), .one (.int .i64 s), .one (.int .i64 t)] [] (fun v H => v = .one (.bool true) ∧ H = []) := by
  refine acall_intro Try.func4 rfl (by kernel_rfl) rfl (by kernel_rfl) ?_
  refine awp_run_seq [0, 1, 2, 3] [] [] ⟨130, [(0, .one (.ro (.ints .i64 up))), (1, .one (.ro (.ints .i64 w))), (2, .one (.int .i64 s)), (3, .one (.int .i64 t))], []⟩ hT (by kernel_rfl) trivial ?_
  refine awp_seq (awp_region ?_)
  refine aops_run 4 [0, 1, 2, 3, 15, 16, 17, 18] [] [] ⟨130, [(0, .one (.ro (.ints .i64 up))), (1, .one (.ro (.ints .i64 w))), (2, .one (.int .i64 s)), (3, .one (.int .i64 t)), (15, .one (.ro (.ints .i64 up))), (16, .one (.ro (.ints .i64 w))), (17, .one (.int .i64 s)), (18, .one (.int .i64 t))], []⟩ hT (by kernel_rfl) (by kernel_rfl) trivial ?_
  refine aops_pure false ⟨true, [], 16, [.one (.ro (.ints .i64 up)), .one (.ro (.ints .i64 w)), .one (.int .i64 s), .one (.int .i64 t)], []⟩ [.one (.ro (.ints .i64 up)), .one (.ro (.ints .i64 w)), .one (.int .i64 s), .one (.int .i64 t)] (.tup [(false, [(.int .i64 (onVal up w s t))]), (false, [(.int .i64 (onErr up w s t))])]) ⟨130, [(0, .one (.ro (.ints .i64 up))), (1, .one (.ro (.ints .i64 w))), (2, .one (.int .i64 s)), (3, .one (.int .i64 t)), (15, .one (.ro (.ints .i64 up))), (16, .one (.ro (.ints .i64 w))), (17, .one (.int .i64 s)), (18, .one (.int .i64 t)), (19, .tup [(false, [(.int .i64 (onVal up w s t))]), (false, [(.int .i64 (onErr up w s t))])])], []⟩ (by kernel_rfl) (by kernel_rfl) (fun _ => trivial) rfl (fun _ => pairs_on up w s t) ?_
  refine aops_run 5 [0, 1, 2, 3, 9, 10] [] [] ⟨130, [(0, .one (.ro (.ints .i64 up))), (1, .one (.ro (.ints .i64 w))), (2, .one (.int .i64 s)), (3, .one (.int .i64 t)), (9, .one (.int .i64 (onVal up w s t))), (10, .one (.int .i64 (onErr up w s t)))], []⟩ hT (by kernel_rfl) (by kernel_rfl) trivial ?_
  refine aops_end_seq (by kernel_rfl) ?_
  refine awp_run_seq [0, 1, 2, 3, 9, 10, 11] [] [] ⟨130, [(0, .one (.ro (.ints .i64 up))), (1, .one (.ro (.ints .i64 w))), (2, .one (.int .i64 s)), (3, .one (.int .i64 t)), (9, .one (.int .i64 (onVal up w s t))), (10, .one (.int .i64 (onErr up w s t))), (11, .one (.int .i64 0))], []⟩ hT (by kernel_rfl) trivial ?_
  refine awp_join (fun σ => ∃ (e : Int), (e = if up.length < 1 ∨ 12 < up.length then 2 else if w.length ≠ up.length then 3 else 0) ∧ σ = ⟨130, [(0, .one (.ro (.ints .i64 up))), (1, .one (.ro (.ints .i64 w))), (2, .one (.int .i64 s)), (3, .one (.int .i64 t)), (9, .one (.int .i64 (onVal up w s t))), (10, .one (.int .i64 (onErr up w s t))), (11, .one (.int .i64 e))], []⟩) ?_ ?_
  ·
    refine awp_block ?_
    refine awp_run_seq [0, 1, 2, 3, 9, 10, 11, 22] [] [((!(decide (((up.length : Nat) : Int) < 1))) = true → ((!(decide (((up.length : Nat) : Int) < 1))) = true → (!(decide (((up.length : Nat) : Int) < 1))) = true)), ((!(decide (((up.length : Nat) : Int) < 1))) = true → ((!(decide (((up.length : Nat) : Int) < 1))) = true → (!(decide (((up.length : Nat) : Int) < 1))) = true)), ((!(decide (((up.length : Nat) : Int) < 1))) = true → (!(decide (((up.length : Nat) : Int) < 1))) = true)] ⟨130, [(0, .one (.ro (.ints .i64 up))), (1, .one (.ro (.ints .i64 w))), (2, .one (.int .i64 s)), (3, .one (.int .i64 t)), (9, .one (.int .i64 (onVal up w s t))), (10, .one (.int .i64 (onErr up w s t))), (11, .one (.int .i64 0)), (22, .one (.bool ((decide (((up.length : Nat) : Int) < 1)) || (decide ((12 : Int) < ((up.length : Nat) : Int))))))], []⟩ hT (by kernel_rfl) ⟨(by intro hg; simp only [bs] at hg ⊢; first | exact hg | omega | (simp_all; done)), (by intro hg; simp only [bs] at hg ⊢; first | exact hg | omega | (simp_all; done)), (fun h => h), trivial⟩ ?_
    refine awp_cond (b := ((decide (((up.length : Nat) : Int) < 1)) || (decide ((12 : Int) < ((up.length : Nat) : Int))))) (by kernel_rfl) (fun c3 => ?_) (fun c3 => ?_)
    · -- yes 3
      simp only [bs] at c3
      refine awp_run [0, 1, 2, 3, 9, 10, 11] [] [] ⟨130, [(0, .one (.ro (.ints .i64 up))), (1, .one (.ro (.ints .i64 w))), (2, .one (.int .i64 s)), (3, .one (.int .i64 t)), (9, .one (.int .i64 (onVal up w s t))), (10, .one (.int .i64 (onErr up w s t))), (11, .one (.int .i64 2))], []⟩ hT (by kernel_rfl) trivial ?_
      exact jend ⟨2, (by omega), (by kernel_rfl)⟩
    · -- no 3
      simp only [bs] at c3
      refine awp_run_seq [0, 1, 2, 3, 9, 10, 11, 31] [] [] ⟨130, [(0, .one (.ro (.ints .i64 up))), (1, .one (.ro (.ints .i64 w))), (2, .one (.int .i64 s)), (3, .one (.int .i64 t)), (9, .one (.int .i64 (onVal up w s t))), (10, .one (.int .i64 (onErr up w s t))), (11, .one (.int .i64 0)), (31, .one (.bool (decide (((w.length : Nat) : Int) ≠ ((up.length : Nat) : Int)))))], []⟩ hT (by kernel_rfl) trivial ?_
      refine awp_cond (b := (decide (((w.length : Nat) : Int) ≠ ((up.length : Nat) : Int)))) (by kernel_rfl) (fun c5 => ?_) (fun c5 => ?_)
      · -- yes 5
        simp only [bs] at c5
        refine awp_run [0, 1, 2, 3, 9, 10, 11] [] [] ⟨130, [(0, .one (.ro (.ints .i64 up))), (1, .one (.ro (.ints .i64 w))), (2, .one (.int .i64 s)), (3, .one (.int .i64 t)), (9, .one (.int .i64 (onVal up w s t))), (10, .one (.int .i64 (onErr up w s t))), (11, .one (.int .i64 3))], []⟩ hT (by kernel_rfl) trivial ?_
        exact jend ⟨3, (by omega), (by kernel_rfl)⟩
      · -- no 5
        simp only [bs] at c5
        refine awp_cut [0, 1, 2, 3, 9, 10, 11] [] ⟨130, [(0, .one (.ro (.ints .i64 up))), (1, .one (.ro (.ints .i64 w))), (2, .one (.int .i64 s)), (3, .one (.int .i64 t)), (9, .one (.int .i64 (onVal up w s t))), (10, .one (.int .i64 (onErr up w s t))), (11, .one (.int .i64 0))], []⟩ (by kernel_rfl) ?_
        refine awp_skip ?_
        exact jend ⟨0, (by omega), (by kernel_rfl)⟩
  rintro _ ⟨e, he, rfl⟩
  refine awp_seq ?_
  refine awp_run_seq [0, 1, 2, 3, 9, 10, 11, 12] [] [] ⟨130, [(0, .one (.ro (.ints .i64 up))), (1, .one (.ro (.ints .i64 w))), (2, .one (.int .i64 s)), (3, .one (.int .i64 t)), (9, .one (.int .i64 (onVal up w s t))), (10, .one (.int .i64 (onErr up w s t))), (11, .one (.int .i64 e)), (12, .one (.int .i64 0))], []⟩ hT (by kernel_rfl) trivial ?_
  refine awp_block ?_
  refine awp_loop (I := fun k σ => ∃ (i : Nat) (e1 : Int), ((i ≤ up.length) ∧ ((e ≠ 0 ∧ e1 = e) ∨ (e = 0 ∧ e1 = 0 ∧ ∀ j, j < i → 0 ≤ up.getD j 0 ∧ up.getD j 0 ≤ max 0 ((j : Int) - 1)) ∨ (e = 0 ∧ e1 = 3 ∧ ¬ treeOk up)) ∧ up.length - i = k) ∧ σ = ⟨130, [(0, .one (.ro (.ints .i64 up))), (1, .one (.ro (.ints .i64 w))), (2, .one (.int .i64 s)), (3, .one (.int .i64 t)), (9, .one (.int .i64 (onVal up w s t))), (10, .one (.int .i64 (onErr up w s t))), (11, .one (.int .i64 e1)), (12, .one (.int .i64 ((i : Nat) : Int)))], []⟩) _ ⟨0, e, ⟨(by omega), (by rcases Decidable.em (e = 0) with h | h; exact Or.inr (Or.inl ⟨h, h, fun j hj => by omega⟩); exact Or.inl ⟨h, rfl⟩), rfl⟩, (by kernel_rfl)⟩ ?_
  rintro k _ ⟨i, e1, ⟨hi, h1, rfl⟩, rfl⟩
  refine awp_seq ?_
  refine awp_run_seq [0, 1, 2, 3, 9, 10, 11, 12, 44] [] [((decide (((i : Nat) : Int) < ((up.length : Nat) : Int))) = true → ((decide (((i : Nat) : Int) < ((up.length : Nat) : Int))) = true → (decide (((i : Nat) : Int) < ((up.length : Nat) : Int))) = true)), ((decide (((i : Nat) : Int) < ((up.length : Nat) : Int))) = true → (decide (((i : Nat) : Int) < ((up.length : Nat) : Int))) = true)] ⟨130, [(0, .one (.ro (.ints .i64 up))), (1, .one (.ro (.ints .i64 w))), (2, .one (.int .i64 s)), (3, .one (.int .i64 t)), (9, .one (.int .i64 (onVal up w s t))), (10, .one (.int .i64 (onErr up w s t))), (11, .one (.int .i64 e1)), (12, .one (.int .i64 ((i : Nat) : Int))), (44, .one (.bool ((decide (((i : Nat) : Int) < ((up.length : Nat) : Int))) && (decide (e1 = 0)))))], []⟩ hT (by kernel_rfl) ⟨(by intro hg; simp only [bs] at hg ⊢; first | exact hg | omega | (simp_all; done)), (fun h => h), trivial⟩ ?_
  refine awp_cond (b := ((decide (((i : Nat) : Int) < ((up.length : Nat) : Int))) && (decide (e1 = 0)))) (by kernel_rfl) (fun c8 => ?_) (fun c8 => ?_)
  · -- yes 8
    simp only [bs] at c8
    have he0 : e = 0 := by rcases h1 with h | h | h <;> omega
    have hpre : ∀ j, j < i → 0 ≤ up.getD j 0 ∧ up.getD j 0 ≤ max 0 ((j : Int) - 1) := by rcases h1 with h | h | h; omega; exact h.2.2; omega
    refine awp_skip ?_
    refine awp_seq ?_
    refine awp_block ?_
    refine awp_run_seq [0, 1, 2, 3, 9, 10, 11, 12, 61] [] [((0 : Int) ≤ ((i : Nat) : Int)), (((i : Nat) : Int) < ((up.length : Nat) : Int)), ((!(decide ((List.getD up i 0) < 0))) = true → ((!(decide ((List.getD up i 0) < 0))) = true → (!(decide ((List.getD up i 0) < 0))) = true)), ((!(decide ((List.getD up i 0) < 0))) = true → ((!(decide ((List.getD up i 0) < 0))) = true → (!(decide ((List.getD up i 0) < 0))) = true)), ((!(decide ((List.getD up i 0) < 0))) = true → ((0 : Int) ≤ ((i : Nat) : Int))), ((!(decide ((List.getD up i 0) < 0))) = true → (((i : Nat) : Int) < ((up.length : Nat) : Int))), ((!(decide ((List.getD up i 0) < 0))) = true → ((!(decide ((List.getD up i 0) < 0))) = true → (!(decide ((List.getD up i 0) < 0))) = true)), ((!(decide ((List.getD up i 0) < 0))) = true → ((!(decide ((List.getD up i 0) < 0))) = true → (!(decide ((List.getD up i 0) < 0))) = true)), ((!(decide ((List.getD up i 0) < 0))) = true → (-9223372036854775808 ≤ (((i : Nat) : Int) - 1) ∧ (((i : Nat) : Int) - 1) ≤ 9223372036854775807)), ((!(decide ((List.getD up i 0) < 0))) = true → ((!(decide ((List.getD up i 0) < 0))) = true → (!(decide ((List.getD up i 0) < 0))) = true)), ((!(decide ((List.getD up i 0) < 0))) = true → ((!(decide ((List.getD up i 0) < 0))) = true → (!(decide ((List.getD up i 0) < 0))) = true)), ((!(decide ((List.getD up i 0) < 0))) = true → ((!(decide ((List.getD up i 0) < 0))) = true → (!(decide ((List.getD up i 0) < 0))) = true)), ((!(decide ((List.getD up i 0) < 0))) = true → (!(decide ((List.getD up i 0) < 0))) = true)] ⟨130, [(0, .one (.ro (.ints .i64 up))), (1, .one (.ro (.ints .i64 w))), (2, .one (.int .i64 s)), (3, .one (.int .i64 t)), (9, .one (.int .i64 (onVal up w s t))), (10, .one (.int .i64 (onErr up w s t))), (11, .one (.int .i64 e1)), (12, .one (.int .i64 ((i : Nat) : Int))), (61, .one (.bool ((decide ((List.getD up i 0) < 0)) || (decide ((max (0 : Int) (((i : Nat) : Int) - 1)) < (List.getD up i 0))))))], []⟩ hT (by kernel_rfl) ⟨(by omega), (by omega), (by intro hg; simp only [bs] at hg ⊢; first | exact hg | omega | (simp_all; done)), (by intro hg; simp only [bs] at hg ⊢; first | exact hg | omega | (simp_all; done)), (by intro hg; simp only [bs] at hg; omega), (by intro hg; simp only [bs] at hg; omega), (by intro hg; simp only [bs] at hg ⊢; first | exact hg | omega | (simp_all; done)), (by intro hg; simp only [bs] at hg ⊢; first | exact hg | omega | (simp_all; done)), (by intro hg; simp only [bs] at hg; omega), (by intro hg; simp only [bs] at hg ⊢; first | exact hg | omega | (simp_all; done)), (by intro hg; simp only [bs] at hg ⊢; first | exact hg | omega | (simp_all; done)), (by intro hg; simp only [bs] at hg ⊢; first | exact hg | omega | (simp_all; done)), (fun h => h), trivial⟩ ?_
    refine awp_cond (b := ((decide ((List.getD up i 0) < 0)) || (decide ((max (0 : Int) (((i : Nat) : Int) - 1)) < (List.getD up i 0))))) (by kernel_rfl) (fun c10 => ?_) (fun c10 => ?_)
    · -- yes 10
      simp only [bs] at c10
      have hbad : ¬ treeOk up := fun h => by have := h i (by omega); omega
      refine awp_run [0, 1, 2, 3, 9, 10, 11, 12] [] [] ⟨130, [(0, .one (.ro (.ints .i64 up))), (1, .one (.ro (.ints .i64 w))), (2, .one (.int .i64 s)), (3, .one (.int .i64 t)), (9, .one (.int .i64 (onVal up w s t))), (10, .one (.int .i64 (onErr up w s t))), (11, .one (.int .i64 3)), (12, .one (.int .i64 ((i : Nat) : Int)))], []⟩ hT (by kernel_rfl) trivial ?_
      refine awp_run [0, 1, 2, 3, 9, 10, 11, 12] [] [(-9223372036854775808 ≤ (((i + 1) : Nat) : Int) ∧ (((i + 1) : Nat) : Int) ≤ 9223372036854775807)] ⟨130, [(0, .one (.ro (.ints .i64 up))), (1, .one (.ro (.ints .i64 w))), (2, .one (.int .i64 s)), (3, .one (.int .i64 t)), (9, .one (.int .i64 (onVal up w s t))), (10, .one (.int .i64 (onErr up w s t))), (11, .one (.int .i64 3)), (12, .one (.int .i64 (((i + 1) : Nat) : Int)))], []⟩ hT (by kernel_rfl) ⟨(by omega), trivial⟩ ?_
      refine loop_end _ ?_ ⟨(i + 1), 3, ⟨(by omega), (by first | exact Or.inr (Or.inr ⟨he0, rfl, hbad⟩) | exact Or.inr (Or.inl ⟨he0, c8.2, hok⟩)), rfl⟩, (by kernel_rfl)⟩
      omega
    · -- no 10
      simp only [bs] at c10
      have hok : ∀ j, j < i + 1 → 0 ≤ up.getD j 0 ∧ up.getD j 0 ≤ max 0 ((j : Int) - 1) := fun j hj => by rcases Nat.lt_succ_iff_lt_or_eq.1 hj with h | h; exact hpre j h; subst h; omega
      refine awp_skip ?_
      refine awp_run [0, 1, 2, 3, 9, 10, 11, 12] [] [(-9223372036854775808 ≤ (((i + 1) : Nat) : Int) ∧ (((i + 1) : Nat) : Int) ≤ 9223372036854775807)] ⟨130, [(0, .one (.ro (.ints .i64 up))), (1, .one (.ro (.ints .i64 w))), (2, .one (.int .i64 s)), (3, .one (.int .i64 t)), (9, .one (.int .i64 (onVal up w s t))), (10, .one (.int .i64 (onErr up w s t))), (11, .one (.int .i64 e1)), (12, .one (.int .i64 (((i + 1) : Nat) : Int)))], []⟩ hT (by kernel_rfl) ⟨(by omega), trivial⟩ ?_
      refine loop_end _ ?_ ⟨(i + 1), e1, ⟨(by omega), (by first | exact Or.inr (Or.inr ⟨he0, rfl, hbad⟩) | exact Or.inr (Or.inl ⟨he0, c8.2, hok⟩)), rfl⟩, (by kernel_rfl)⟩
      omega
  · -- no 8
    simp only [bs] at c8
    have h1t : e1 = if up.length < 1 ∨ 12 < up.length then 2 else if w.length ≠ up.length then 3 else if ¬ treeOk up then 3 else 0 := by
      rcases h1 with h | h | h
      · omega
      · have ht : treeOk up := fun j hj => h.2.2 j (by omega)
        simp only [ht, not_true, if_false]; omega
      · simp only [h.2.2, not_false_iff, if_true]; omega
    refine awp_exit ?_
    refine awp_seq ?_
    refine awp_run_seq [0, 1, 2, 3, 9, 10, 11, 77] [] [((decide (e1 = 0)) = true → ((decide (e1 = 0)) = true → (decide (e1 = 0)) = true)), ((decide (e1 = 0)) = true → ((decide (e1 = 0)) = true → (decide (e1 = 0)) = true)), ((decide (e1 = 0)) = true → ((decide (e1 = 0)) = true → (decide (e1 = 0)) = true)), ((decide (e1 = 0)) = true → ((decide (e1 = 0)) = true → (decide (e1 = 0)) = true)), (((decide (e1 = 0)) && (!(decide ((min s t) < 0)))) = true → (((decide (e1 = 0)) && (!(decide ((min s t) < 0)))) = true → ((decide (e1 = 0)) && (!(decide ((min s t) < 0)))) = true)), (((decide (e1 = 0)) && (!(decide ((min s t) < 0)))) = true → (((decide (e1 = 0)) && (!(decide ((min s t) < 0)))) = true → ((decide (e1 = 0)) && (!(decide ((min s t) < 0)))) = true)), (((decide (e1 = 0)) && (!(decide ((min s t) < 0)))) = true → (((decide (e1 = 0)) && (!(decide ((min s t) < 0)))) = true → ((decide (e1 = 0)) && (!(decide ((min s t) < 0)))) = true)), (((decide (e1 = 0)) && (!(decide ((min s t) < 0)))) = true → (((decide (e1 = 0)) && (!(decide ((min s t) < 0)))) = true → ((decide (e1 = 0)) && (!(decide ((min s t) < 0)))) = true)), (((decide (e1 = 0)) && (!(decide ((min s t) < 0)))) = true → (((decide (e1 = 0)) && (!(decide ((min s t) < 0)))) = true → ((decide (e1 = 0)) && (!(decide ((min s t) < 0)))) = true)), ((decide (e1 = 0)) = true → ((decide (e1 = 0)) = true → (decide (e1 = 0)) = true)), ((decide (e1 = 0)) = true → (((decide (e1 = 0)) && (!(decide ((min s t) < 0)))) = true → ((decide (e1 = 0)) && (!(decide ((min s t) < 0)))) = true)), ((decide (e1 = 0)) = true → (decide (e1 = 0)) = true)] ⟨130, [(0, .one (.ro (.ints .i64 up))), (1, .one (.ro (.ints .i64 w))), (2, .one (.int .i64 s)), (3, .one (.int .i64 t)), (9, .one (.int .i64 (onVal up w s t))), (10, .one (.int .i64 (onErr up w s t))), (11, .one (.int .i64 e1)), (77, .one (.bool ((decide (e1 = 0)) && ((decide ((min s t) < 0)) || (decide (((up.length : Nat) : Int) ≤ (max s t)))))))], []⟩ hT (by kernel_rfl) ⟨(by intro hg; simp only [bs] at hg ⊢; first | exact hg | omega | (simp_all; done)), (by intro hg; simp only [bs] at hg ⊢; first | exact hg | omega | (simp_all; done)), (by intro hg; simp only [bs] at hg ⊢; first | exact hg | omega | (simp_all; done)), (by intro hg; simp only [bs] at hg ⊢; first | exact hg | omega | (simp_all; done)), (by intro hg; simp only [bs] at hg ⊢; first | exact hg | omega | (simp_all; done)), (by intro hg; simp only [bs] at hg ⊢; first | exact hg | omega | (simp_all; done)), (by intro hg; simp only [bs] at hg ⊢; first | exact hg | omega | (simp_all; done)), (by intro hg; simp only [bs] at hg ⊢; first | exact hg | omega | (simp_all; done)), (by intro hg; simp only [bs] at hg ⊢; first | exact hg | omega | (simp_all; done)), (by intro hg; simp only [bs] at hg ⊢; first | exact hg | omega | (simp_all; done)), (by intro hg; simp only [bs] at hg ⊢; first | exact hg | omega | (simp_all; done)), (fun h => h), trivial⟩ ?_
    refine awp_join_tail (fun σ => ∃ (e2 : Int), (e2 = if e1 ≠ 0 then e1 else if s < 0 ∨ (up.length : Int) ≤ s ∨ t < 0 ∨ (up.length : Int) ≤ t then 4 else 0) ∧ σ = ⟨130, [(0, .one (.ro (.ints .i64 up))), (1, .one (.ro (.ints .i64 w))), (2, .one (.int .i64 s)), (3, .one (.int .i64 t)), (9, .one (.int .i64 (onVal up w s t))), (10, .one (.int .i64 (onErr up w s t))), (11, .one (.int .i64 e2))], []⟩) ?_ ?_
    ·
      refine awp_cond (b := ((decide (e1 = 0)) && ((decide ((min s t) < 0)) || (decide (((up.length : Nat) : Int) ≤ (max s t)))))) (by kernel_rfl) (fun c12 => ?_) (fun c12 => ?_)
      · -- yes 12
        simp only [bs] at c12
        refine awp_run [0, 1, 2, 3, 9, 10, 11] [] [] ⟨130, [(0, .one (.ro (.ints .i64 up))), (1, .one (.ro (.ints .i64 w))), (2, .one (.int .i64 s)), (3, .one (.int .i64 t)), (9, .one (.int .i64 (onVal up w s t))), (10, .one (.int .i64 (onErr up w s t))), (11, .one (.int .i64 4))], []⟩ hT (by kernel_rfl) trivial ?_
        exact jend ⟨4, (by omega), (by kernel_rfl)⟩
      · -- no 12
        simp only [bs] at c12
        refine awp_cut [0, 1, 2, 3, 9, 10, 11] [] ⟨130, [(0, .one (.ro (.ints .i64 up))), (1, .one (.ro (.ints .i64 w))), (2, .one (.int .i64 s)), (3, .one (.int .i64 t)), (9, .one (.int .i64 (onVal up w s t))), (10, .one (.int .i64 (onErr up w s t))), (11, .one (.int .i64 e1))], []⟩ (by kernel_rfl) ?_
        refine awp_skip ?_
        exact jend ⟨e1, (by omega), (by kernel_rfl)⟩
    rintro _ ⟨e2, h2, rfl⟩
    refine awp_seq ?_
    refine awp_run_seq [0, 1, 2, 3, 9, 10, 11, 84] [] [((decide (e2 = 0)) = true → ((decide (e2 = 0)) = true → (decide (e2 = 0)) = true)), ((decide (e2 = 0)) = true → ((decide (e2 = 0)) = true → (decide (e2 = 0)) = true)), ((decide (e2 = 0)) = true → (decide (e2 = 0)) = true)] ⟨130, [(0, .one (.ro (.ints .i64 up))), (1, .one (.ro (.ints .i64 w))), (2, .one (.int .i64 s)), (3, .one (.int .i64 t)), (9, .one (.int .i64 (onVal up w s t))), (10, .one (.int .i64 (onErr up w s t))), (11, .one (.int .i64 e2)), (84, .one (.bool ((decide (e2 = 0)) && (decide (s = t)))))], []⟩ hT (by kernel_rfl) ⟨(by intro hg; simp only [bs] at hg ⊢; first | exact hg | omega | (simp_all; done)), (by intro hg; simp only [bs] at hg ⊢; first | exact hg | omega | (simp_all; done)), (fun h => h), trivial⟩ ?_
    refine awp_join_tail (fun σ => ∃ (e3 : Int), (e3 = onErr up w s t) ∧ σ = ⟨130, [(0, .one (.ro (.ints .i64 up))), (1, .one (.ro (.ints .i64 w))), (2, .one (.int .i64 s)), (3, .one (.int .i64 t)), (9, .one (.int .i64 (onVal up w s t))), (10, .one (.int .i64 (onErr up w s t))), (11, .one (.int .i64 e3))], []⟩) ?_ ?_
    ·
      refine awp_cond (b := ((decide (e2 = 0)) && (decide (s = t)))) (by kernel_rfl) (fun c14 => ?_) (fun c14 => ?_)
      · -- yes 14
        simp only [bs] at c14
        refine awp_run [0, 1, 2, 3, 9, 10, 11] [] [] ⟨130, [(0, .one (.ro (.ints .i64 up))), (1, .one (.ro (.ints .i64 w))), (2, .one (.int .i64 s)), (3, .one (.int .i64 t)), (9, .one (.int .i64 (onVal up w s t))), (10, .one (.int .i64 (onErr up w s t))), (11, .one (.int .i64 3))], []⟩ hT (by kernel_rfl) trivial ?_
        exact jend ⟨3, (by by_cases ht : treeOk up <;> simp only [onErr, ht, not_true, not_false_iff, if_true, if_false] at h1t ⊢ <;> omega), (by kernel_rfl)⟩
      · -- no 14
        simp only [bs] at c14
        refine awp_cut [0, 1, 2, 3, 9, 10, 11] [] ⟨130, [(0, .one (.ro (.ints .i64 up))), (1, .one (.ro (.ints .i64 w))), (2, .one (.int .i64 s)), (3, .one (.int .i64 t)), (9, .one (.int .i64 (onVal up w s t))), (10, .one (.int .i64 (onErr up w s t))), (11, .one (.int .i64 e2))], []⟩ (by kernel_rfl) ?_
        refine awp_skip ?_
        exact jend ⟨e2, (by by_cases ht : treeOk up <;> simp only [onErr, ht, not_true, not_false_iff, if_true, if_false] at h1t ⊢ <;> omega), (by kernel_rfl)⟩
    rintro _ ⟨e3, h3, rfl⟩
    refine awp_seq ?_
    refine awp_run_seq [0, 1, 2, 3, 9, 10, 11, 86] [] [] ⟨130, [(0, .one (.ro (.ints .i64 up))), (1, .one (.ro (.ints .i64 w))), (2, .one (.int .i64 s)), (3, .one (.int .i64 t)), (9, .one (.int .i64 (onVal up w s t))), (10, .one (.int .i64 (onErr up w s t))), (11, .one (.int .i64 e3)), (86, .one (.bool (decide (e3 ≠ 0))))], []⟩ hT (by kernel_rfl) trivial ?_
    refine awp_cond (b := (decide (e3 ≠ 0))) (by kernel_rfl) (fun c16 => ?_) (fun c16 => ?_)
    · -- yes 16
      simp only [bs] at c16
      refine awp_run_seq [8] [] [((decide ((onErr up w s t) = e3)) = true → ((decide ((onErr up w s t) = e3)) = true → (decide ((onErr up w s t) = e3)) = true)), ((decide ((onErr up w s t) = e3)) = true → (decide ((onErr up w s t) = e3)) = true)] ⟨130, [(8, .one (.bool ((decide ((onErr up w s t) = e3)) && (decide ((onVal up w s t) = 0)))))], []⟩ hT (by kernel_rfl) ⟨(by intro hg; simp only [bs] at hg ⊢; first | exact hg | omega | (simp_all; done)), (fun h => h), trivial⟩ ?_
      refine awp_ret ?_
      refine kRet.ret _ (.one (.bool ((decide ((onErr up w s t) = e3)) && (decide ((onVal up w s t) = 0))))) (by kernel_rfl) ?_
      exact ⟨congrArg (fun x1 => (.one (.bool x1) : AV)) (show ((decide ((onErr up w s t) = e3)) && (decide ((onVal up w s t) = 0))) = true from by simp [h3, onVal]; omega), rfl⟩
    · -- no 16
      simp only [bs] at c16
      refine awp_skip ?_
      refine awp_run_seq [0, 1, 2, 3, 9, 10, 13] [] [] ⟨130, [(0, .one (.ro (.ints .i64 up))), (1, .one (.ro (.ints .i64 w))), (2, .one (.int .i64 s)), (3, .one (.int .i64 t)), (9, .one (.int .i64 (onVal up w s t))), (10, .one (.int .i64 (onErr up w s t))), (13, .one .nils)], []⟩ hT (by kernel_rfl) trivial ?_
      refine awp_seq ?_
      refine awp_block ?_
      refine awp_weak (awk_empty 5013 (.flat (.ints .i64 [])) rfl (by decide) _) ?_
      refine awp_weak (awk_slot 13 (.one .nils) (.one (.rw 5013 0 0)) _ (by kernel_rfl) (.one (wkv_nils (o := .flat (.ints .i64 [])) (by kernel_rfl)))) ?_
      have hE : onErr up w s t = 0 := by omega
      have htree : treeOk up := (onErr_ok hE).2.2.1
      have hst := onErr_ok hE
      refine awp_loop (I := fun k σ => ∃ (a b : Int) (l : List Int) (n : Nat), ((0 ≤ a ∧ a < up.length) ∧ (0 ≤ b ∧ b < up.length) ∧ (a + b ≤ n) ∧ (l.length + n ≤ 100) ∧ (l ++ climb up w n a b = climb up w (s + t).toNat s t) ∧ n = k) ∧ σ = ⟨130, [(0, .one (.ro (.ints .i64 up))), (1, .one (.ro (.ints .i64 w))), (2, .one (.int .i64 a)), (3, .one (.int .i64 b)), (9, .one (.int .i64 (onVal up w s t))), (10, .one (.int .i64 (onErr up w s t))), (13, .one (.rw 5013 0 l.length))], [(5013, .flat (.ints .i64 l))]⟩) _ ⟨s, t, [], (s + t).toNat, ⟨(by omega), (by omega), (by omega), (by simp; omega), (by rfl), rfl⟩, (by kernel_rfl)⟩ ?_
      rintro k _ ⟨a, b, l, n, ⟨ha, hb, hn, hlen, hl, rfl⟩, rfl⟩
      refine awp_seq ?_
      refine awp_run_seq [0, 1, 2, 3, 9, 10, 13, 96] [5013] [] ⟨130, [(0, .one (.ro (.ints .i64 up))), (1, .one (.ro (.ints .i64 w))), (2, .one (.int .i64 a)), (3, .one (.int .i64 b)), (9, .one (.int .i64 (onVal up w s t))), (10, .one (.int .i64 (onErr up w s t))), (13, .one (.rw 5013 0 l.length)), (96, .one (.bool (decide (a ≠ b))))], [(5013, .flat (.ints .i64 l))]⟩ hT (by kernel_rfl) trivial ?_
      refine awp_cond (b := (decide (a ≠ b))) (by kernel_rfl) (fun c19 => ?_) (fun c19 => ?_)
      · -- yes 19
        simp only [bs] at c19
        obtain ⟨n', rfl⟩ : ∃ n', n = n' + 1 := ⟨n - 1, by omega⟩
        refine awp_skip ?_
        refine awp_block ?_
        refine awp_run_seq [0, 1, 2, 3, 9, 10, 13, 99] [5013] [] ⟨130, [(0, .one (.ro (.ints .i64 up))), (1, .one (.ro (.ints .i64 w))), (2, .one (.int .i64 a)), (3, .one (.int .i64 b)), (9, .one (.int .i64 (onVal up w s t))), (10, .one (.int .i64 (onErr up w s t))), (13, .one (.rw 5013 0 l.length)), (99, .one (.bool (decide (b < a))))], [(5013, .flat (.ints .i64 l))]⟩ hT (by kernel_rfl) trivial ?_
        refine awp_cond (b := (decide (b < a))) (by kernel_rfl) (fun c20 => ?_) (fun c20 => ?_)
        · -- yes 20
          simp only [bs] at c20
          rw [climb_gt c20] at hl
          -- 4 orders
          refine awp_any [] false [0, 1, 2, 3, 9, 10, 13] [5013] 4 [(0, []), (1, []), (2, []), (3, [((0 : Int) ≤ a), (a < ((w.length : Nat) : Int))]), (4, []), (5, []), (6, [(l.length = l.length), ((l.length + 1) * 8 ≤ 140737488355328), ((l.length + 1) ≤ 9223372036854775807)]), (7, []), (8, []), (9, [((0 : Int) ≤ a), (a < ((up.length : Nat) : Int))]), (10, []), (11, []), (12, [])] ⟨130, [(0, .one (.ro (.ints .i64 up))), (1, .one (.ro (.ints .i64 w))), (2, .one (.int .i64 (List.getD up (Int.toNat a) 0))), (3, .one (.int .i64 b)), (9, .one (.int .i64 (onVal up w s t))), (10, .one (.int .i64 (onErr up w s t))), (13, .one (.rw 5013 0 (l.length + 1)))], [(5013, .flat (.ints .i64 (l ++ [(List.getD w (Int.toNat a) 0)])))]⟩ (by kernel_rfl) (by kernel_rfl) hT (by kernel_rfl) ⟨trivial, trivial, trivial, ⟨(by omega), (by omega), trivial⟩, trivial, trivial, ⟨(by omega), (by omega), (by omega), trivial⟩, trivial, trivial, ⟨(by omega), (by omega), trivial⟩, trivial, trivial, trivial, trivial⟩ ?_
          refine loop_end _ ?_ ⟨(List.getD up (Int.toNat a) 0), b, (l ++ [(List.getD w (Int.toNat a) 0)]), n', ⟨(by have := htree.below (s := a) (by omega) (by omega); have := htree.below (s := b) (by omega) (by omega); omega), (by have := htree.below (s := a) (by omega) (by omega); have := htree.below (s := b) (by omega) (by omega); omega), (by have := htree.below (s := a) (by omega) (by omega); have := htree.below (s := b) (by omega) (by omega); omega), (by simp; omega), (by simpa using hl), rfl⟩, (by simp only [lens, Nat.zero_add])⟩
          omega
        · -- no 20
          simp only [bs] at c20
          rw [climb_lt (by omega)] at hl
          -- 4 orders
          refine awp_any [] false [0, 1, 2, 3, 9, 10, 13] [5013] 4 [(0, []), (1, []), (2, []), (3, [((0 : Int) ≤ b), (b < ((w.length : Nat) : Int))]), (4, []), (5, []), (6, [(l.length = l.length), ((l.length + 1) * 8 ≤ 140737488355328), ((l.length + 1) ≤ 9223372036854775807)]), (7, []), (8, []), (9, [((0 : Int) ≤ b), (b < ((up.length : Nat) : Int))]), (10, []), (11, []), (12, [])] ⟨130, [(0, .one (.ro (.ints .i64 up))), (1, .one (.ro (.ints .i64 w))), (2, .one (.int .i64 a)), (3, .one (.int .i64 (List.getD up (Int.toNat b) 0))), (9, .one (.int .i64 (onVal up w s t))), (10, .one (.int .i64 (onErr up w s t))), (13, .one (.rw 5013 0 (l.length + 1)))], [(5013, .flat (.ints .i64 (l ++ [(List.getD w (Int.toNat b) 0)])))]⟩ (by kernel_rfl) (by kernel_rfl) hT (by kernel_rfl) ⟨trivial, trivial, trivial, ⟨(by omega), (by omega), trivial⟩, trivial, trivial, ⟨(by omega), (by omega), (by omega), trivial⟩, trivial, trivial, ⟨(by omega), (by omega), trivial⟩, trivial, trivial, trivial, trivial⟩ ?_
          refine loop_end _ ?_ ⟨a, (List.getD up (Int.toNat b) 0), (l ++ [(List.getD w (Int.toNat b) 0)]), n', ⟨(by have := htree.below (s := a) (by omega) (by omega); have := htree.below (s := b) (by omega) (by omega); omega), (by have := htree.below (s := a) (by omega) (by omega); have := htree.below (s := b) (by omega) (by omega); omega), (by have := htree.below (s := a) (by omega) (by omega); have := htree.below (s := b) (by omega) (by omega); omega), (by simp; omega), (by simpa using hl), rfl⟩, (by simp only [lens, Nat.zero_add])⟩
          omega
      · -- no 19
        simp only [bs] at c19
        have hab : a = b := by omega
        rw [hab, climb_self, List.append_nil] at hl
        have hne : l ≠ [] := by rw [hl]; exact climb_ne (by omega) (by omega) (by omega)
        refine awp_exit ?_
        refine awp_weak (awk_seal 5013 (s' := ⟨130, [(0, .one (.ro (.ints .i64 up))), (1, .one (.ro (.ints .i64 w))), (2, .one (.int .i64 a)), (3, .one (.int .i64 b)), (9, .one (.int .i64 (onVal up w s t))), (10, .one (.int .i64 (onErr up w s t))), (13, .one (.ro (.ints .i64 (List.take l.length l)))), (96, .one (.bool (decide (a ≠ b))))], []⟩) (by kernel_rfl)) ?_
        rw [show (List.take l.length l) = l from List.take_of_length_le (by simp)]
        refine awp_seq (awp_region ?_)
        refine aops_run 5 [124, 125, 126] [] [] ⟨130, [(124, .one (.bool (decide ((onErr up w s t) = 0)))), (125, .whn (decide ((onErr up w s t) = 0)) (.one (.int .i64 (onVal up w s t)))), (126, .whn (decide ((onErr up w s t) = 0)) (.one (.ro (.ints .i64 l))))], []⟩ hT (by kernel_rfl) (by kernel_rfl) trivial ?_
        refine aops_pure false ⟨(decide ((onErr up w s t) = 0)), [((decide ((onErr up w s t) = 0)) = true → (decide ((onErr up w s t) = 0)) = true)], 17, [.one (.ro (.ints .i64 l))], []⟩ [.one (.ro (.ints .i64 l))] (.one (.int .i64 (minOf l))) ⟨130, [(124, .one (.bool (decide ((onErr up w s t) = 0)))), (125, .whn (decide ((onErr up w s t) = 0)) (.one (.int .i64 (onVal up w s t)))), (126, .whn (decide ((onErr up w s t) = 0)) (.one (.ro (.ints .i64 l)))), (127, .whn (decide ((onErr up w s t) = 0)) (.one (.int .i64 (minOf l))))], []⟩ (by kernel_rfl) (by kernel_rfl) (fun _ => ⟨(fun h => h), trivial⟩) rfl (fun _ => min_ints l (by assumption)) ?_
        refine aops_run 3 [8] [] [((decide ((onErr up w s t) = 0)) = true → ((decide ((onErr up w s t) = 0)) = true → (decide ((onErr up w s t) = 0)) = true)), ((decide ((onErr up w s t) = 0)) = true → ((decide ((onErr up w s t) = 0)) = true → (decide ((onErr up w s t) = 0)) = true)), ((decide ((onErr up w s t) = 0)) = true → (decide ((onErr up w s t) = 0)) = true)] ⟨130, [(8, .one (.bool ((decide ((onErr up w s t) = 0)) && (decide ((onVal up w s t) = (minOf l))))))], []⟩ hT (by kernel_rfl) (by kernel_rfl) ⟨(by intro hg; simp only [bs] at hg ⊢; first | exact hg | omega | (simp_all; done)), (by intro hg; simp only [bs] at hg ⊢; first | exact hg | omega | (simp_all; done)), (fun h => h), trivial⟩ ?_
        refine aops_end_seq (by kernel_rfl) ?_
        refine awp_ret ?_
        refine kRet.ret _ (.one (.bool ((decide ((onErr up w s t) = 0)) && (decide ((onVal up w s t) = (minOf l)))))) (by kernel_rfl) ?_
        exact ⟨congrArg (fun x1 => (.one (.bool x1) : AV)) (show ((decide ((onErr up w s t) = 0)) && (decide ((onVal up w s t) = (minOf l)))) = true from by simp [onVal, hE, hl, lowOf_min]), rfl⟩

end Go.Ab
