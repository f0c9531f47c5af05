/- Of slices: what a test with two numbers finds among arcs. -/
import Derived.Test.YtakfbagokponeaaTab
set_option maxRecDepth 100000
namespace Go.Ab
open Go Go.Proofs
theorem idxf_arcs_ii (F : FuncId) (p : Arc → Bool) (l : List Arc) (cm cn : Int) (hF : ∀ x ∈ l, ACall Try.prog F [.agg [(.int .i64 x.src), (.int .i64 x.dst), (.int .i64 x.cap)], .one (.ptr 1 0 0), .one (.ptr 2 0 0)] [(1, .box 1 1 [(.int .i64 cm)]), (2, .box 1 1 [(.int .i64 cn)])] (fun ov oh => ov = .one (.bool (p x)) ∧ oh = [(1, .box 1 1 [(.int .i64 cm)]), (2, .box 1 1 [(.int .i64 cn)])])) : ACall Try.prog 124 [.one (.ro (.arcs l)), .one (.fn F [(.ptr 1 0 0), (.ptr 2 0 0)])] [(1, .box 1 1 [(.int .i64 cm)]), (2, .box 1 1 [(.int .i64 cn)])] (fun ov oh => ov = .one (.int .i64 (idxOf p l)) ∧ oh = [(1, .box 1 1 [(.int .i64 cm)]), (2, .box 1 1 [(.int .i64 cn)])]) := by
  refine acall_intro hT Try.func124 rfl (by kernel_rfl) rfl (by kernel_rfl) ?_
  refine awp_len 0 0 (.arcs l) (by kernel_rfl) (fun hlen => ?_)
  simp only [C0.len, maxLen] at hlen
  refine awp_run_seq [0, 1] [] [] ⟨19, [(0, .one (.ro (.arcs l))), (1, .one (.fn F [(.ptr 1 0 0), (.ptr 2 0 0)]))], [(1, .box 1 1 [(.int .i64 cm)]), (2, .box 1 1 [(.int .i64 cn)])]⟩ hT (by kernel_rfl) trivial ?_
  refine awp_seq ?_
  refine awp_run_seq [0, 1, 7, 8] [] [] ⟨19, [(0, .one (.ro (.arcs l))), (1, .one (.fn F [(.ptr 1 0 0), (.ptr 2 0 0)])), (7, .one (.int .i64 ((l.length : Nat) : Int))), (8, .one (.int .i64 0))], [(1, .box 1 1 [(.int .i64 cm)]), (2, .box 1 1 [(.int .i64 cn)])]⟩ hT (by kernel_rfl) trivial ?_
  refine awp_block ?_
  refine awp_loop (I := fun κ σ => ∃ (i : Nat), ((i ≤ l.length) ∧ (∀ j, j < i → p (List.getD l j default) = false) ∧ l.length - i = κ) ∧ σ = ⟨19, [(0, .one (.ro (.arcs l))), (1, .one (.fn F [(.ptr 1 0 0), (.ptr 2 0 0)])), (7, .one (.int .i64 ((l.length : Nat) : Int))), (8, .one (.int .i64 ((i : Nat) : Int)))], [(1, .box 1 1 [(.int .i64 cm)]), (2, .box 1 1 [(.int .i64 cn)])]⟩) _ ⟨0, ⟨(by omega), (by intro j hj; omega), rfl⟩, (by kernel_rfl)⟩ ?_
  rintro κ _ ⟨i, ⟨hi, hp, rfl⟩, rfl⟩
  refine awp_run_seq [0, 1, 7, 8, 9] [] [] ⟨19, [(0, .one (.ro (.arcs l))), (1, .one (.fn F [(.ptr 1 0 0), (.ptr 2 0 0)])), (7, .one (.int .i64 ((l.length : Nat) : Int))), (8, .one (.int .i64 ((i : Nat) : Int))), (9, .one (.bool (decide (((i : Nat) : Int) < ((l.length : Nat) : Int)))))], [(1, .box 1 1 [(.int .i64 cm)]), (2, .box 1 1 [(.int .i64 cn)])]⟩ hT (by kernel_rfl) trivial ?_
  refine awp_seq ?_
  refine awp_cond (b := (decide (((i : Nat) : Int) < ((l.length : Nat) : Int)))) (by kernel_rfl) (fun c2 => ?_) (fun c2 => ?_)
  · -- yes 2
    try simp only [bs] at c2
    refine awp_skip ?_
    refine awp_seq ?_
    refine awp_block ?_
    refine awp_run_seq [0, 1, 5, 7, 8] [] [] ⟨19, [(0, .one (.ro (.arcs l))), (1, .one (.fn F [(.ptr 1 0 0), (.ptr 2 0 0)])), (5, .one (.int .i64 ((i : Nat) : Int))), (7, .one (.int .i64 ((l.length : Nat) : Int))), (8, .one (.int .i64 ((i : Nat) : Int)))], [(1, .box 1 1 [(.int .i64 cm)]), (2, .box 1 1 [(.int .i64 cn)])]⟩ hT (by kernel_rfl) trivial ?_
    refine awp_seq (awp_region ?_)
    refine aops_run 5 [0, 1, 5, 7, 8, 11, 15] [] [((0 : Int) ≤ ((i : Nat) : Int)), (((i : Nat) : Int) < ((l.length : Nat) : Int))] ⟨19, [(0, .one (.ro (.arcs l))), (1, .one (.fn F [(.ptr 1 0 0), (.ptr 2 0 0)])), (5, .one (.int .i64 ((i : Nat) : Int))), (7, .one (.int .i64 ((l.length : Nat) : Int))), (8, .one (.int .i64 ((i : Nat) : Int))), (11, .one (.fn F [(.ptr 1 0 0), (.ptr 2 0 0)])), (15, .agg [(.int .i64 ((List.getD l i default).src)), (.int .i64 ((List.getD l i default).dst)), (.int .i64 ((List.getD l i default).cap))])], [(1, .box 1 1 [(.int .i64 cm)]), (2, .box 1 1 [(.int .i64 cn)])]⟩ hT (by kernel_rfl) (by kernel_rfl) ⟨(by first | omega | (simp only [lens]; omega) | (simp only [Bool.cond_decide]; omega) | (simp only [nadd_eq]; omega)), (by first | omega | (simp only [lens]; omega) | (simp only [Bool.cond_decide]; omega) | (simp only [nadd_eq]; omega)), trivial⟩ ?_
    refine aops_call [(1, 1), (2, 2)] [] false ⟨true, [], F, [.agg [(.int .i64 ((List.getD l i default).src)), (.int .i64 ((List.getD l i default).dst)), (.int .i64 ((List.getD l i default).cap))], .one (.ptr 1 0 0), .one (.ptr 2 0 0)], [(1, .box 1 1 [(.int .i64 cm)]), (2, .box 1 1 [(.int .i64 cn)])]⟩ [.agg [(.int .i64 ((List.getD l i default).src)), (.int .i64 ((List.getD l i default).dst)), (.int .i64 ((List.getD l i default).cap))], .one (.ptr 1 0 0), .one (.ptr 2 0 0)] (sm := ⟨19, [(0, .one (.ro (.arcs l))), (1, .one (.fn F [(.ptr 1 0 0), (.ptr 2 0 0)])), (5, .one (.int .i64 ((i : Nat) : Int))), (7, .one (.int .i64 ((l.length : Nat) : Int))), (8, .one (.int .i64 ((i : Nat) : Int))), (11, .one (.fn F [(.ptr 1 0 0), (.ptr 2 0 0)])), (15, .agg [(.int .i64 ((List.getD l i default).src)), (.int .i64 ((List.getD l i default).dst)), (.int .i64 ((List.getD l i default).cap))]), (16, .whn false (.one .any))], [(1, .box 1 1 [(.int .i64 cm)]), (2, .box 1 1 [(.int .i64 cn)])]⟩) (by kernel_rfl) (by kernel_rfl) (by decide) (fun _ => trivial) rfl (fun _ => hF _ (getD_mem (by omega))) (fun _ v Hr hv => ?_) (fun h => by cases h)
    obtain ⟨rfl, rfl⟩ := hv
    refine ⟨⟨19, [(0, .one (.ro (.arcs l))), (1, .one (.fn F [(.ptr 1 0 0), (.ptr 2 0 0)])), (5, .one (.int .i64 ((i : Nat) : Int))), (7, .one (.int .i64 ((l.length : Nat) : Int))), (8, .one (.int .i64 ((i : Nat) : Int))), (11, .one (.fn F [(.ptr 1 0 0), (.ptr 2 0 0)])), (15, .agg [(.int .i64 ((List.getD l i default).src)), (.int .i64 ((List.getD l i default).dst)), (.int .i64 ((List.getD l i default).cap))]), (16, .one (.bool (p (List.getD l i default))))], [(1, .box 1 1 [(.int .i64 cm)]), (2, .box 1 1 [(.int .i64 cn)])]⟩, by kernel_rfl, ?_⟩
    refine aops_cut [0, 1, 5, 7, 8, 16] [] ⟨19, [(0, .one (.ro (.arcs l))), (1, .one (.fn F [(.ptr 1 0 0), (.ptr 2 0 0)])), (5, .one (.int .i64 ((i : Nat) : Int))), (7, .one (.int .i64 ((l.length : Nat) : Int))), (8, .one (.int .i64 ((i : Nat) : Int))), (16, .one (.bool (p (List.getD l i default))))], [(1, .box 1 1 [(.int .i64 cm)]), (2, .box 1 1 [(.int .i64 cn)])]⟩ (by kernel_rfl) ?_
    refine aops_end_seq (by kernel_rfl) ?_
    refine awp_cond (b := (p (List.getD l i default))) (by kernel_rfl) (fun c4 => ?_) (fun c4 => ?_)
    · -- yes 4
      try simp only [bs] at c4
      refine awp_run_seq [4] [] [] ⟨19, [(4, .one (.int .i64 ((i : Nat) : Int)))], [(1, .box 1 1 [(.int .i64 cm)]), (2, .box 1 1 [(.int .i64 cn)])]⟩ hT (by kernel_rfl) trivial ?_
      refine awp_ret ?_
      refine kRet.ret _ [] [] (.one (.int .i64 ((i : Nat) : Int))) [(1, .box 1 1 [(.int .i64 cm)]), (2, .box 1 1 [(.int .i64 cn)])] (by kernel_rfl) trivial ?_
      exact ⟨(by rw [idxOf_at hp (by omega) c4]), (by kernel_rfl)⟩
    · -- no 4
      try simp only [bs] at c4
      refine awp_skip ?_
      refine awp_run [0, 1, 7, 8] [] [(-9223372036854775808 ≤ (((i + 1) : Nat) : Int) ∧ (((i + 1) : Nat) : Int) ≤ 9223372036854775807)] ⟨19, [(0, .one (.ro (.arcs l))), (1, .one (.fn F [(.ptr 1 0 0), (.ptr 2 0 0)])), (7, .one (.int .i64 ((l.length : Nat) : Int))), (8, .one (.int .i64 (((i + 1) : Nat) : Int)))], [(1, .box 1 1 [(.int .i64 cm)]), (2, .box 1 1 [(.int .i64 cn)])]⟩ hT (by kernel_rfl) ⟨(by first | omega | (simp only [lens]; omega) | (simp only [Bool.cond_decide]; omega) | (simp only [nadd_eq]; omega)), trivial⟩ ?_
      refine loop_end _ ?_ ⟨(i + 1), ⟨(by omega), (by intro j hj; rcases Nat.lt_succ_iff_lt_or_eq.1 hj with h | h; exact hp j h; subst h; exact c4), rfl⟩, (by kernel_rfl)⟩
      omega
  · -- no 2
    try simp only [bs] at c2
    refine awp_exit ?_
    refine awp_run_seq [4] [] [] ⟨19, [(4, .one (.int .i64 (-1)))], [(1, .box 1 1 [(.int .i64 cm)]), (2, .box 1 1 [(.int .i64 cn)])]⟩ hT (by kernel_rfl) trivial ?_
    refine awp_ret ?_
    refine kRet.ret _ [] [] (.one (.int .i64 (-1))) [(1, .box 1 1 [(.int .i64 cm)]), (2, .box 1 1 [(.int .i64 cn)])] (by kernel_rfl) trivial ?_
    exact ⟨(by rw [idxOf_none (d := default) fun j hj => hp j (by omega)]), (by kernel_rfl)⟩

theorem hasf_arcs_ii (F : FuncId) (p : Arc → Bool) (l : List Arc) (cm cn : Int) (hF : ∀ x ∈ l, ACall Try.prog F [.agg [(.int .i64 x.src), (.int .i64 x.dst), (.int .i64 x.cap)], .one (.ptr 1 0 0), .one (.ptr 2 0 0)] [(1, .box 1 1 [(.int .i64 cm)]), (2, .box 1 1 [(.int .i64 cn)])] (fun ov oh => ov = .one (.bool (p x)) ∧ oh = [(1, .box 1 1 [(.int .i64 cm)]), (2, .box 1 1 [(.int .i64 cn)])])) : ACall Try.prog 85 [.one (.ro (.arcs l)), .one (.fn F [(.ptr 1 0 0), (.ptr 2 0 0)])] [(1, .box 1 1 [(.int .i64 cm)]), (2, .box 1 1 [(.int .i64 cn)])] (fun ov oh => ov = .one (.bool (List.any l p)) ∧ oh = [(1, .box 1 1 [(.int .i64 cm)]), (2, .box 1 1 [(.int .i64 cn)])]) := by
  refine acall_intro hT Try.func85 rfl (by kernel_rfl) rfl (by kernel_rfl) ?_
  refine awp_run_seq [0, 1] [] [] ⟨9, [(0, .one (.ro (.arcs l))), (1, .one (.fn F [(.ptr 1 0 0), (.ptr 2 0 0)]))], [(1, .box 1 1 [(.int .i64 cm)]), (2, .box 1 1 [(.int .i64 cn)])]⟩ hT (by kernel_rfl) trivial ?_
  refine awp_seq (awp_region ?_)
  refine aops_run 2 [5, 6] [] [] ⟨9, [(5, .one (.ro (.arcs l))), (6, .one (.fn F [(.ptr 1 0 0), (.ptr 2 0 0)]))], [(1, .box 1 1 [(.int .i64 cm)]), (2, .box 1 1 [(.int .i64 cn)])]⟩ hT (by kernel_rfl) (by kernel_rfl) trivial ?_
  refine aops_call [(1, 1), (2, 2)] [] false ⟨true, [], 124, [.one (.ro (.arcs l)), .one (.fn F [(.ptr 1 0 0), (.ptr 2 0 0)])], [(1, .box 1 1 [(.int .i64 cm)]), (2, .box 1 1 [(.int .i64 cn)])]⟩ [.one (.ro (.arcs l)), .one (.fn F [(.ptr 1 0 0), (.ptr 2 0 0)])] (sm := ⟨9, [(5, .one (.ro (.arcs l))), (6, .one (.fn F [(.ptr 1 0 0), (.ptr 2 0 0)])), (7, .whn false (.one .any))], [(1, .box 1 1 [(.int .i64 cm)]), (2, .box 1 1 [(.int .i64 cn)])]⟩) (by kernel_rfl) (by kernel_rfl) (by decide) (fun _ => trivial) rfl (fun _ => idxf_arcs_ii F p l cm cn hF) (fun _ v Hr hv => ?_) (fun h => by cases h)
  obtain ⟨rfl, rfl⟩ := hv
  refine ⟨⟨9, [(5, .one (.ro (.arcs l))), (6, .one (.fn F [(.ptr 1 0 0), (.ptr 2 0 0)])), (7, .one (.int .i64 (idxOf p l)))], [(1, .box 1 1 [(.int .i64 cm)]), (2, .box 1 1 [(.int .i64 cn)])]⟩, by kernel_rfl, ?_⟩
  refine aops_run 2 [4] [] [] ⟨9, [(4, .one (.bool (decide ((0 : Int) ≤ (idxOf p l)))))], [(1, .box 1 1 [(.int .i64 cm)]), (2, .box 1 1 [(.int .i64 cn)])]⟩ hT (by kernel_rfl) (by kernel_rfl) trivial ?_
  refine aops_end_seq (by kernel_rfl) ?_
  refine awp_ret ?_
  refine kRet.ret _ [] [] (.one (.bool (decide ((0 : Int) ≤ (idxOf p l))))) [(1, .box 1 1 [(.int .i64 cm)]), (2, .box 1 1 [(.int .i64 cn)])] (by kernel_rfl) trivial ?_
  exact ⟨(by rw [any_idx]), (by kernel_rfl)⟩

end Go.Ab
