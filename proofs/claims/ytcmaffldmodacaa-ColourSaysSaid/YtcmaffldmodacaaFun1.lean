/- Of slices: the first that a test finds. -/
import Derived.Test.YtcmaffldmodacaaTab
set_option maxRecDepth 100000
namespace Go.Ab
open Go Go.Proofs
theorem idxf_ints_ (F : FuncId) (p : Int → Bool) (l : List Int)  (hF : ∀ x ∈ l, ACall Try.prog F [.one (.int .i64 x)] [] (fun ov oh => ov = .one (.bool (p x)) ∧ oh = [])) : ACall Try.prog 62 [.one (.ro (.ints .i64 l)), .one (.fn F [])] [] (fun ov oh => ov = .one (.int .i64 (idxOf p l)) ∧ oh = []) := by
  refine acall_intro hT Try.func62 rfl (by kernel_rfl) rfl (by kernel_rfl) ?_
  refine awp_len 0 0 (.ints .i64 l) (by kernel_rfl) (fun hlen => ?_)
  simp only [C0.len, maxLen] at hlen
  refine awp_run_seq [0, 1] [] [] ⟨19, [(0, .one (.ro (.ints .i64 l))), (1, .one (.fn F []))], []⟩ hT (by kernel_rfl) trivial ?_
  refine awp_seq ?_
  refine awp_run_seq [0, 1, 7, 8] [] [] ⟨19, [(0, .one (.ro (.ints .i64 l))), (1, .one (.fn F [])), (7, .one (.int .i64 ((l.length : Nat) : Int))), (8, .one (.int .i64 0))], []⟩ hT (by kernel_rfl) trivial ?_
  refine awp_block ?_
  refine awp_loop (I := fun κ σ => ∃ (i : Nat), ((i ≤ l.length) ∧ (∀ j, j < i → p (List.getD l j 0) = false) ∧ l.length - i = κ) ∧ σ = ⟨19, [(0, .one (.ro (.ints .i64 l))), (1, .one (.fn F [])), (7, .one (.int .i64 ((l.length : Nat) : Int))), (8, .one (.int .i64 (i : Int)))], []⟩) _ ⟨0, ⟨(by omega), (by intro j hj; omega), rfl⟩, (by kernel_rfl)⟩ ?_
  rintro κ _ ⟨i, ⟨hi, hp, rfl⟩, rfl⟩
  refine awp_run_seq [0, 1, 7, 8, 9] [] [] ⟨19, [(0, .one (.ro (.ints .i64 l))), (1, .one (.fn F [])), (7, .one (.int .i64 ((l.length : Nat) : Int))), (8, .one (.int .i64 (i : Int))), (9, .one (.bool (decide ((i : Int) < ((l.length : Nat) : Int)))))], []⟩ hT (by kernel_rfl) trivial ?_
  refine awp_seq ?_
  refine awp_cond (b := (decide ((i : Int) < ((l.length : Nat) : Int)))) (by kernel_rfl) (fun c2 => ?_) (fun c2 => ?_)
  ·
    try simp only [bs] at c2
    refine awp_skip ?_
    refine awp_seq ?_
    refine awp_block ?_
    refine awp_run_seq [0, 1, 5, 7, 8] [] [] ⟨19, [(0, .one (.ro (.ints .i64 l))), (1, .one (.fn F [])), (5, .one (.int .i64 (i : Int))), (7, .one (.int .i64 ((l.length : Nat) : Int))), (8, .one (.int .i64 (i : Int)))], []⟩ hT (by kernel_rfl) trivial ?_
    refine awp_seq (awp_region ?_)
    refine aops_run 5 [0, 1, 5, 7, 8, 11, 15] [] [((0 : Int) ≤ (i : Int)), ((i : Int) < ((l.length : Nat) : Int))] ⟨19, [(0, .one (.ro (.ints .i64 l))), (1, .one (.fn F [])), (5, .one (.int .i64 (i : Int))), (7, .one (.int .i64 ((l.length : Nat) : Int))), (8, .one (.int .i64 (i : Int))), (11, .one (.fn F [])), (15, .one (.int .i64 (List.getD l i 0)))], []⟩ hT (by kernel_rfl) (by kernel_rfl) ⟨(by omega), (by omega), trivial⟩ ?_
    refine aops_pure false ⟨true, [], F, [.one (.int .i64 (List.getD l i 0))], []⟩ [.one (.int .i64 (List.getD l i 0))] (.one (.bool (p (List.getD l i 0)))) ⟨19, [(0, .one (.ro (.ints .i64 l))), (1, .one (.fn F [])), (5, .one (.int .i64 (i : Int))), (7, .one (.int .i64 ((l.length : Nat) : Int))), (8, .one (.int .i64 (i : Int))), (11, .one (.fn F [])), (15, .one (.int .i64 (List.getD l i 0))), (16, .one (.bool (p (List.getD l i 0))))], []⟩ (by kernel_rfl) (by kernel_rfl) (fun _ => trivial) rfl (fun _ => hF _ (getD_mem (by omega))) ?_
    refine aops_cut [0, 1, 5, 7, 8, 16] [] ⟨19, [(0, .one (.ro (.ints .i64 l))), (1, .one (.fn F [])), (5, .one (.int .i64 (i : Int))), (7, .one (.int .i64 ((l.length : Nat) : Int))), (8, .one (.int .i64 (i : Int))), (16, .one (.bool (p (List.getD l i 0))))], []⟩ (by kernel_rfl) ?_
    refine aops_end_seq (by kernel_rfl) ?_
    refine awp_cond (b := (p (List.getD l i 0))) (by kernel_rfl) (fun c4 => ?_) (fun c4 => ?_)
    ·
      try simp only [bs] at c4
      refine awp_run_seq [4] [] [] ⟨19, [(4, .one (.int .i64 (i : Int)))], []⟩ hT (by kernel_rfl) trivial ?_
      refine awp_ret ?_
      refine kRet.ret _ [] [] (.one (.int .i64 (i : Int))) [] (by kernel_rfl) trivial ?_
      exact ⟨congrArg (fun x1 => (.one (.int .i64 x1) : AV)) (show (i : Int) = (idxOf p l) from by rw [idxOf_at hp (by omega) c4]), rfl⟩
    ·
      try simp only [bs] at c4
      refine awp_skip ?_
      refine awp_run [0, 1, 7, 8] [] [(-9223372036854775808 ≤ (((i + 1) : Nat) : Int) ∧ (((i + 1) : Nat) : Int) ≤ 9223372036854775807)] ⟨19, [(0, .one (.ro (.ints .i64 l))), (1, .one (.fn F [])), (7, .one (.int .i64 ((l.length : Nat) : Int))), (8, .one (.int .i64 (((i + 1) : Nat) : Int)))], []⟩ hT (by kernel_rfl) ⟨(by omega), trivial⟩ ?_
      refine loop_end _ ?_ ⟨(i + 1), ⟨(by omega), (by intro j hj; rcases Nat.lt_succ_iff_lt_or_eq.1 hj with h | h; exact hp j h; subst h; exact c4), rfl⟩, (by kernel_rfl)⟩
      omega
  ·
    try simp only [bs] at c2
    refine awp_exit ?_
    refine awp_run_seq [4] [] [] ⟨19, [(4, .one (.int .i64 (-1)))], []⟩ hT (by kernel_rfl) trivial ?_
    refine awp_ret ?_
    refine kRet.ret _ [] [] (.one (.int .i64 (-1))) [] (by kernel_rfl) trivial ?_
    exact ⟨congrArg (fun x1 => (.one (.int .i64 x1) : AV)) (show (-1) = (idxOf p l) from by rw [idxOf_none (d := 0) fun j hj => hp j (by omega)]), rfl⟩
end Go.Ab
