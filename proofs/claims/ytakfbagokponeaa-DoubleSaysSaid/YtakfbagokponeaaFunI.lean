/- Of slices: the first number that a test finds. -/
import Derived.Test.YtakfbagokponeaaTab
import Derived.Test.YtakfbagokponeaaF1
set_option maxRecDepth 100000
namespace Go.Ab
open Go Go.Proofs
theorem idxf_ints_i (F : FuncId) (p : Int → Bool) (l : List Int) (cn : Int) (hF : ∀ x ∈ l, ACall Try.prog F [.one (.int .i64 x), .one (.ptr 1 0 0)] [(1, .box 1 1 [(.int .i64 cn)])] (fun ov oh => ov = .one (.bool (p x)) ∧ oh = [(1, .box 1 1 [(.int .i64 cn)])])) : ACall Try.prog 122 [.one (.ro (.ints .i64 l)), .one (.fn F [(.ptr 1 0 0)])] [(1, .box 1 1 [(.int .i64 cn)])] (fun ov oh => ov = .one (.int .i64 (idxOf p l)) ∧ oh = [(1, .box 1 1 [(.int .i64 cn)])]) := by
  refine acall_intro hT Try.func122 rfl (by kernel_rfl) rfl (by kernel_rfl) ?_
  refine awp_len 0 0 (.ints .i64 l) (by kernel_rfl) (fun hlen => ?_)
  simp only [C0.len, maxLen] at hlen
  refine awp_run_seq [0, 1] [] [] ⟨19, [(0, .one (.ro (.ints .i64 l))), (1, .one (.fn F [(.ptr 1 0 0)]))], [(1, .box 1 1 [(.int .i64 cn)])]⟩ hT (by kernel_rfl) trivial ?_
  refine awp_seq ?_
  refine awp_run_seq [0, 1, 7, 8] [] [] ⟨19, [(0, .one (.ro (.ints .i64 l))), (1, .one (.fn F [(.ptr 1 0 0)])), (7, .one (.int .i64 ((l.length : Nat) : Int))), (8, .one (.int .i64 0))], [(1, .box 1 1 [(.int .i64 cn)])]⟩ hT (by kernel_rfl) trivial ?_
  refine awp_block ?_
  refine awp_loop (I := fun κ σ => ∃ (i : Nat), ((i ≤ l.length) ∧ (∀ j, j < i → p (List.getD l j 0) = false) ∧ l.length - i = κ) ∧ σ = ⟨19, [(0, .one (.ro (.ints .i64 l))), (1, .one (.fn F [(.ptr 1 0 0)])), (7, .one (.int .i64 ((l.length : Nat) : Int))), (8, .one (.int .i64 ((i : Nat) : Int)))], [(1, .box 1 1 [(.int .i64 cn)])]⟩) _ ⟨0, ⟨(by omega), (by intro j hj; omega), rfl⟩, (by kernel_rfl)⟩ ?_
  rintro κ _ ⟨i, ⟨hi, hp, rfl⟩, rfl⟩
  refine awp_run_seq [0, 1, 7, 8, 9] [] [] ⟨19, [(0, .one (.ro (.ints .i64 l))), (1, .one (.fn F [(.ptr 1 0 0)])), (7, .one (.int .i64 ((l.length : Nat) : Int))), (8, .one (.int .i64 ((i : Nat) : Int))), (9, .one (.bool (decide (((i : Nat) : Int) < ((l.length : Nat) : Int)))))], [(1, .box 1 1 [(.int .i64 cn)])]⟩ hT (by kernel_rfl) trivial ?_
  refine awp_seq ?_
  refine awp_cond (b := (decide (((i : Nat) : Int) < ((l.length : Nat) : Int)))) (by kernel_rfl) (fun c2 => ?_) (fun c2 => ?_)
  · -- yes 2
    try simp only [bs] at c2
    refine awp_skip ?_
    refine awp_seq ?_
    refine awp_block ?_
    refine awp_run_seq [0, 1, 5, 7, 8] [] [] ⟨19, [(0, .one (.ro (.ints .i64 l))), (1, .one (.fn F [(.ptr 1 0 0)])), (5, .one (.int .i64 ((i : Nat) : Int))), (7, .one (.int .i64 ((l.length : Nat) : Int))), (8, .one (.int .i64 ((i : Nat) : Int)))], [(1, .box 1 1 [(.int .i64 cn)])]⟩ hT (by kernel_rfl) trivial ?_
    refine awp_seq (awp_region ?_)
    refine aops_run 5 [0, 1, 5, 7, 8, 11, 15] [] [((0 : Int) ≤ ((i : Nat) : Int)), (((i : Nat) : Int) < ((l.length : Nat) : Int))] ⟨19, [(0, .one (.ro (.ints .i64 l))), (1, .one (.fn F [(.ptr 1 0 0)])), (5, .one (.int .i64 ((i : Nat) : Int))), (7, .one (.int .i64 ((l.length : Nat) : Int))), (8, .one (.int .i64 ((i : Nat) : Int))), (11, .one (.fn F [(.ptr 1 0 0)])), (15, .one (.int .i64 (List.getD l i 0)))], [(1, .box 1 1 [(.int .i64 cn)])]⟩ hT (by kernel_rfl) (by kernel_rfl) ⟨(by first | omega | (simp only [lens]; omega) | (simp only [Bool.cond_decide]; omega) | (simp only [nadd_eq]; omega)), (by first | omega | (simp only [lens]; omega) | (simp only [Bool.cond_decide]; omega) | (simp only [nadd_eq]; omega)), trivial⟩ ?_
    refine aops_call [(1, 1)] [] false ⟨true, [], F, [.one (.int .i64 (List.getD l i 0)), .one (.ptr 1 0 0)], [(1, .box 1 1 [(.int .i64 cn)])]⟩ [.one (.int .i64 (List.getD l i 0)), .one (.ptr 1 0 0)] (sm := ⟨19, [(0, .one (.ro (.ints .i64 l))), (1, .one (.fn F [(.ptr 1 0 0)])), (5, .one (.int .i64 ((i : Nat) : Int))), (7, .one (.int .i64 ((l.length : Nat) : Int))), (8, .one (.int .i64 ((i : Nat) : Int))), (11, .one (.fn F [(.ptr 1 0 0)])), (15, .one (.int .i64 (List.getD l i 0))), (16, .whn false (.one .any))], [(1, .box 1 1 [(.int .i64 cn)])]⟩) (by kernel_rfl) (by kernel_rfl) (by decide) (fun _ => trivial) rfl (fun _ => hF _ (getD_mem (by omega))) (fun _ v Hr hv => ?_) (fun h => by cases h)
    obtain ⟨rfl, rfl⟩ := hv
    refine ⟨⟨19, [(0, .one (.ro (.ints .i64 l))), (1, .one (.fn F [(.ptr 1 0 0)])), (5, .one (.int .i64 ((i : Nat) : Int))), (7, .one (.int .i64 ((l.length : Nat) : Int))), (8, .one (.int .i64 ((i : Nat) : Int))), (11, .one (.fn F [(.ptr 1 0 0)])), (15, .one (.int .i64 (List.getD l i 0))), (16, .one (.bool (p (List.getD l i 0))))], [(1, .box 1 1 [(.int .i64 cn)])]⟩, by kernel_rfl, ?_⟩
    refine aops_cut [0, 1, 5, 7, 8, 16] [] ⟨19, [(0, .one (.ro (.ints .i64 l))), (1, .one (.fn F [(.ptr 1 0 0)])), (5, .one (.int .i64 ((i : Nat) : Int))), (7, .one (.int .i64 ((l.length : Nat) : Int))), (8, .one (.int .i64 ((i : Nat) : Int))), (16, .one (.bool (p (List.getD l i 0))))], [(1, .box 1 1 [(.int .i64 cn)])]⟩ (by kernel_rfl) ?_
    refine aops_end_seq (by kernel_rfl) ?_
    refine awp_cond (b := (p (List.getD l i 0))) (by kernel_rfl) (fun c4 => ?_) (fun c4 => ?_)
    · -- yes 4
      try simp only [bs] at c4
      refine awp_run_seq [4] [] [] ⟨19, [(4, .one (.int .i64 ((i : Nat) : Int)))], [(1, .box 1 1 [(.int .i64 cn)])]⟩ hT (by kernel_rfl) trivial ?_
      refine awp_ret ?_
      refine kRet.ret _ [] [] (.one (.int .i64 ((i : Nat) : Int))) [(1, .box 1 1 [(.int .i64 cn)])] (by kernel_rfl) trivial ?_
      exact ⟨(by rw [idxOf_at hp (by omega) c4]), (by kernel_rfl)⟩
    · -- no 4
      try simp only [bs] at c4
      refine awp_skip ?_
      refine awp_run [0, 1, 7, 8] [] [(-9223372036854775808 ≤ (((i + 1) : Nat) : Int) ∧ (((i + 1) : Nat) : Int) ≤ 9223372036854775807)] ⟨19, [(0, .one (.ro (.ints .i64 l))), (1, .one (.fn F [(.ptr 1 0 0)])), (7, .one (.int .i64 ((l.length : Nat) : Int))), (8, .one (.int .i64 (((i + 1) : Nat) : Int)))], [(1, .box 1 1 [(.int .i64 cn)])]⟩ hT (by kernel_rfl) ⟨(by first | omega | (simp only [lens]; omega) | (simp only [Bool.cond_decide]; omega) | (simp only [nadd_eq]; omega)), trivial⟩ ?_
      refine loop_end _ ?_ ⟨(i + 1), ⟨(by omega), (by intro j hj; rcases Nat.lt_succ_iff_lt_or_eq.1 hj with h | h; exact hp j h; subst h; exact c4), rfl⟩, (by kernel_rfl)⟩
      omega
  · -- no 2
    try simp only [bs] at c2
    refine awp_exit ?_
    refine awp_run_seq [4] [] [] ⟨19, [(4, .one (.int .i64 (-1)))], [(1, .box 1 1 [(.int .i64 cn)])]⟩ hT (by kernel_rfl) trivial ?_
    refine awp_ret ?_
    refine kRet.ret _ [] [] (.one (.int .i64 (-1))) [(1, .box 1 1 [(.int .i64 cn)])] (by kernel_rfl) trivial ?_
    exact ⟨(by rw [idxOf_none (d := 0) fun j hj => hp j (by omega)]), (by kernel_rfl)⟩

theorem hasf_ints_i (F : FuncId) (p : Int → Bool) (l : List Int) (cn : Int) (hF : ∀ x ∈ l, ACall Try.prog F [.one (.int .i64 x), .one (.ptr 1 0 0)] [(1, .box 1 1 [(.int .i64 cn)])] (fun ov oh => ov = .one (.bool (p x)) ∧ oh = [(1, .box 1 1 [(.int .i64 cn)])])) : ACall Try.prog 88 [.one (.ro (.ints .i64 l)), .one (.fn F [(.ptr 1 0 0)])] [(1, .box 1 1 [(.int .i64 cn)])] (fun ov oh => ov = .one (.bool (List.any l p)) ∧ oh = [(1, .box 1 1 [(.int .i64 cn)])]) := by
  refine acall_intro hT Try.func88 rfl (by kernel_rfl) rfl (by kernel_rfl) ?_
  refine awp_run_seq [0, 1] [] [] ⟨9, [(0, .one (.ro (.ints .i64 l))), (1, .one (.fn F [(.ptr 1 0 0)]))], [(1, .box 1 1 [(.int .i64 cn)])]⟩ hT (by kernel_rfl) trivial ?_
  refine awp_seq (awp_region ?_)
  refine aops_run 2 [5, 6] [] [] ⟨9, [(5, .one (.ro (.ints .i64 l))), (6, .one (.fn F [(.ptr 1 0 0)]))], [(1, .box 1 1 [(.int .i64 cn)])]⟩ hT (by kernel_rfl) (by kernel_rfl) trivial ?_
  refine aops_call [(1, 1)] [] false ⟨true, [], 122, [.one (.ro (.ints .i64 l)), .one (.fn F [(.ptr 1 0 0)])], [(1, .box 1 1 [(.int .i64 cn)])]⟩ [.one (.ro (.ints .i64 l)), .one (.fn F [(.ptr 1 0 0)])] (sm := ⟨9, [(5, .one (.ro (.ints .i64 l))), (6, .one (.fn F [(.ptr 1 0 0)])), (7, .whn false (.one .any))], [(1, .box 1 1 [(.int .i64 cn)])]⟩) (by kernel_rfl) (by kernel_rfl) (by decide) (fun _ => trivial) rfl (fun _ => idxf_ints_i F p l cn hF) (fun _ v Hr hv => ?_) (fun h => by cases h)
  obtain ⟨rfl, rfl⟩ := hv
  refine ⟨⟨9, [(5, .one (.ro (.ints .i64 l))), (6, .one (.fn F [(.ptr 1 0 0)])), (7, .one (.int .i64 (idxOf p l)))], [(1, .box 1 1 [(.int .i64 cn)])]⟩, by kernel_rfl, ?_⟩
  refine aops_run 2 [4] [] [] ⟨9, [(4, .one (.bool (decide ((0 : Int) ≤ (idxOf p l)))))], [(1, .box 1 1 [(.int .i64 cn)])]⟩ hT (by kernel_rfl) (by kernel_rfl) trivial ?_
  refine aops_end_seq (by kernel_rfl) ?_
  refine awp_ret ?_
  refine kRet.ret _ [] [] (.one (.bool (decide ((0 : Int) ≤ (idxOf p l))))) [(1, .box 1 1 [(.int .i64 cn)])] (by kernel_rfl) trivial ?_
  exact ⟨(by rw [any_idx]), (by kernel_rfl)⟩

end Go.Ab
