/- Of slices: the first that a test finds. -/
import Derived.Test.YtnfnlgfdfmnghaaTab
set_option maxRecDepth 100000
namespace Go.Ab
open Go Go.Proofs
theorem idxf_arcs_i (F : FuncId) (p : Arc → Bool) (l : List Arc) (cn : Int) (hF : ∀ x ∈ l, ACall Try.prog F [.agg [(.i x.src), (.i x.dst), (.i x.cap)], .p 1] [(1, .box 1 1 [(.i cn)])] (fun ov oh => ov = .one (.bool (p x)) ∧ oh = [(1, .box 1 1 [(.i cn)])])) : ACall Try.prog 82 [.one (.ro (.arcs l)), .one (.fn F [(.ptr 1 0 0)])] [(1, .box 1 1 [(.i cn)])] (fun ov oh => ov = .i (idxOf p l) ∧ oh = [(1, .box 1 1 [(.i cn)])]) := by
  refine acall_intro hT Try.func82 rfl (by kernel_rfl) rfl (by kernel_rfl) ?_
  refine awp_len 0 0 (.arcs l) (by kernel_rfl) (fun hlen => ?_)
  simp only [C0.len, maxLen] at hlen
  refine awp_run_seq [0, 1] [] [] ⟨19, [(0, .one (.ro (.arcs l))), (1, .one (.fn F [(.ptr 1 0 0)]))], [(1, .box 1 1 [(.i cn)])]⟩ hT (by kernel_rfl) trivial ?_
  refine awp_seq ?_
  refine awp_run_seq [0, 1, 7, 8] [] [] ⟨19, [(0, .one (.ro (.arcs l))), (1, .one (.fn F [(.ptr 1 0 0)])), (7, .i ((l.length : Nat) : Int)), (8, .i 0)], [(1, .box 1 1 [(.i cn)])]⟩ hT (by kernel_rfl) trivial ?_
  refine awp_block ?_
  refine awp_loop (I := fun κ σ => ∃ (i : Nat), ((i ≤ l.length) ∧ (∀ j, j < i → p (List.getD l j default) = false) ∧ l.length - i = κ) ∧ σ = ⟨19, [(0, .one (.ro (.arcs l))), (1, .one (.fn F [(.ptr 1 0 0)])), (7, .i ((l.length : Nat) : Int)), (8, .i (i : Int))], [(1, .box 1 1 [(.i cn)])]⟩) _ ⟨0, ⟨(by omega), (by intro j hj; omega), rfl⟩, (by kernel_rfl)⟩ ?_
  rintro κ _ ⟨i, ⟨hi, hp, rfl⟩, rfl⟩
  refine awp_run_seq [0, 1, 7, 8, 9] [] [] ⟨19, [(0, .one (.ro (.arcs l))), (1, .one (.fn F [(.ptr 1 0 0)])), (7, .i ((l.length : Nat) : Int)), (8, .i (i : Int)), (9, .one (.bool (decide ((i : Int) < ((l.length : Nat) : Int)))))], [(1, .box 1 1 [(.i cn)])]⟩ hT (by kernel_rfl) trivial ?_
  refine awp_seq ?_
  refine awp_cond (b := (decide ((i : Int) < ((l.length : Nat) : Int)))) (by kernel_rfl) (fun c2 => ?_) (fun c2 => ?_)
  ·
    try simp only [bs] at c2
    refine awp_skip ?_
    refine awp_seq ?_
    refine awp_block ?_
    refine awp_run_seq [0, 1, 5, 7, 8] [] [] ⟨19, [(0, .one (.ro (.arcs l))), (1, .one (.fn F [(.ptr 1 0 0)])), (5, .i (i : Int)), (7, .i ((l.length : Nat) : Int)), (8, .i (i : Int))], [(1, .box 1 1 [(.i cn)])]⟩ hT (by kernel_rfl) trivial ?_
    refine awp_seq (awp_region ?_)
    refine aops_run 5 [0, 1, 5, 7, 8, 11, 15] [] [((0 : Int) ≤ (i : Int)), ((i : Int) < ((l.length : Nat) : Int))] ⟨19, [(0, .one (.ro (.arcs l))), (1, .one (.fn F [(.ptr 1 0 0)])), (5, .i (i : Int)), (7, .i ((l.length : Nat) : Int)), (8, .i (i : Int)), (11, .one (.fn F [(.ptr 1 0 0)])), (15, .agg [(.i ((List.getD l i default).src)), (.i ((List.getD l i default).dst)), (.i ((List.getD l i default).cap))])], [(1, .box 1 1 [(.i cn)])]⟩ hT (by kernel_rfl) (by kernel_rfl) ⟨(by omega), (by omega), trivial⟩ ?_
    refine aops_call [(1, 1)] [] false ⟨true, [], F, [.agg [(.i ((List.getD l i default).src)), (.i ((List.getD l i default).dst)), (.i ((List.getD l i default).cap))], .p 1], [(1, .box 1 1 [(.i cn)])]⟩ [.agg [(.i ((List.getD l i default).src)), (.i ((List.getD l i default).dst)), (.i ((List.getD l i default).cap))], .p 1] (sm := ⟨19, [(0, .one (.ro (.arcs l))), (1, .one (.fn F [(.ptr 1 0 0)])), (5, .i (i : Int)), (7, .i ((l.length : Nat) : Int)), (8, .i (i : Int)), (11, .one (.fn F [(.ptr 1 0 0)])), (15, .agg [(.i ((List.getD l i default).src)), (.i ((List.getD l i default).dst)), (.i ((List.getD l i default).cap))]), (16, .whn false (.one .any))], [(1, .box 1 1 [(.i cn)])]⟩) (by kernel_rfl) (by kernel_rfl) (by decide) (fun _ => trivial) rfl (fun _ => hF _ (getD_mem (by omega))) (fun _ v Hr hv => ?_) (fun h => by cases h)
    obtain ⟨rfl, rfl⟩ := hv
    refine ⟨⟨19, [(0, .one (.ro (.arcs l))), (1, .one (.fn F [(.ptr 1 0 0)])), (5, .i (i : Int)), (7, .i ((l.length : Nat) : Int)), (8, .i (i : Int)), (11, .one (.fn F [(.ptr 1 0 0)])), (15, .agg [(.i ((List.getD l i default).src)), (.i ((List.getD l i default).dst)), (.i ((List.getD l i default).cap))]), (16, .one (.bool (p (List.getD l i default))))], [(1, .box 1 1 [(.i cn)])]⟩, by kernel_rfl, ?_⟩
    refine aops_cut [0, 1, 5, 7, 8, 16] [] ⟨19, [(0, .one (.ro (.arcs l))), (1, .one (.fn F [(.ptr 1 0 0)])), (5, .i (i : Int)), (7, .i ((l.length : Nat) : Int)), (8, .i (i : Int)), (16, .one (.bool (p (List.getD l i default))))], [(1, .box 1 1 [(.i cn)])]⟩ (by kernel_rfl) ?_
    refine aops_end_seq (by kernel_rfl) ?_
    refine awp_cond (b := (p (List.getD l i default))) (by kernel_rfl) (fun c4 => ?_) (fun c4 => ?_)
    ·
      try simp only [bs] at c4
      refine awp_run_seq [4] [] [] ⟨19, [(4, .i (i : Int))], [(1, .box 1 1 [(.i cn)])]⟩ hT (by kernel_rfl) trivial ?_
      refine awp_ret ?_
      refine kRet.ret _ [] [] (.i (i : Int)) [(1, .box 1 1 [(.i cn)])] (by kernel_rfl) trivial ?_
      exact ⟨(by rw [idxOf_at hp (by omega) c4]), (by kernel_rfl)⟩
    ·
      try simp only [bs] at c4
      refine awp_skip ?_
      refine awp_run [0, 1, 7, 8] [] [(-9223372036854775808 ≤ (((i + 1) : Nat) : Int) ∧ (((i + 1) : Nat) : Int) ≤ 9223372036854775807)] ⟨19, [(0, .one (.ro (.arcs l))), (1, .one (.fn F [(.ptr 1 0 0)])), (7, .i ((l.length : Nat) : Int)), (8, .i (((i + 1) : Nat) : Int))], [(1, .box 1 1 [(.i cn)])]⟩ hT (by kernel_rfl) ⟨(by omega), trivial⟩ ?_
      refine loop_end _ ?_ ⟨(i + 1), ⟨(by omega), (by intro j hj; rcases Nat.lt_succ_iff_lt_or_eq.1 hj with h | h; exact hp j h; subst h; exact c4), rfl⟩, (by kernel_rfl)⟩
      omega
  ·
    try simp only [bs] at c2
    refine awp_exit ?_
    refine awp_run_seq [4] [] [] ⟨19, [(4, .i (-1))], [(1, .box 1 1 [(.i cn)])]⟩ hT (by kernel_rfl) trivial ?_
    refine awp_ret ?_
    refine kRet.ret _ [] [] (.i (-1)) [(1, .box 1 1 [(.i cn)])] (by kernel_rfl) trivial ?_
    exact ⟨(by rw [idxOf_none (d := default) fun j hj => hp j (by omega)]), (by kernel_rfl)⟩
end Go.Ab
