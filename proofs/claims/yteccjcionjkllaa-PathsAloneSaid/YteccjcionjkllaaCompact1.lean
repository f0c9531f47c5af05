/- Of slices: Compact. -/
import Derived.Test.YteccjcionjkllaaTab
set_option maxRecDepth 100000
namespace Go.Ab
open Go Go.Proofs
theorem compact_ints (l : List Int) (hs : ∀ i, i + 1 < l.length → l.getD i 0 ≠ l.getD (i + 1) 0) (hle : l.length ≤ 1000) : ACall Try.prog 45 [.one (.ro (.ints .i64 l))] [] (fun ov oh => ov = .one (.ro (.ints .i64 l)) ∧ oh = []) := by
  refine acall_intro hT Try.func45 rfl (by kernel_rfl) rfl (by kernel_rfl) ?_
  refine awp_run_seq [0] [] [] ⟨61, [(0, .one (.ro (.ints .i64 l)))], []⟩ hT (by kernel_rfl) trivial ?_
  refine awp_seq ?_
  refine awp_run_seq [0, 8] [] [] ⟨61, [(0, .one (.ro (.ints .i64 l))), (8, .one (.bool (decide (((l.length : Nat) : Int) < 2))))], []⟩ hT (by kernel_rfl) trivial ?_
  refine awp_cond (b := (decide (((l.length : Nat) : Int) < 2))) (by kernel_rfl) (fun c1 => ?_) (fun c1 => ?_)
  ·
    try simp only [bs] at c1
    refine awp_run_seq [2] [] [] ⟨61, [(2, .one (.ro (.ints .i64 l)))], []⟩ hT (by kernel_rfl) trivial ?_
    refine awp_ret ?_
    refine kRet.ret _ [] [] (.one (.ro (.ints .i64 l))) [] (by kernel_rfl) trivial ?_
    exact ⟨rfl, rfl⟩
  ·
    try simp only [bs] at c1
    refine awp_skip ?_
    refine awp_seq ?_
    refine awp_run_seq [0, 3] [] [] ⟨61, [(0, .one (.ro (.ints .i64 l))), (3, .one (.int .i64 1))], []⟩ hT (by kernel_rfl) trivial ?_
    refine awp_block ?_
    refine awp_loop (I := fun κ σ => ∃ (k : Nat), ((1 ≤ k) ∧ l.length - k = κ) ∧ σ = ⟨61, [(0, .one (.ro (.ints .i64 l))), (3, .one (.int .i64 (k : Int)))], []⟩) _ ⟨1, ⟨(by omega), rfl⟩, (by kernel_rfl)⟩ ?_
    rintro κ _ ⟨k, ⟨hk, rfl⟩, rfl⟩
    refine awp_seq ?_
    refine awp_run_seq [0, 3, 13] [] [] ⟨61, [(0, .one (.ro (.ints .i64 l))), (3, .one (.int .i64 (k : Int))), (13, .one (.bool (decide ((k : Int) < ((l.length : Nat) : Int)))))], []⟩ hT (by kernel_rfl) trivial ?_
    refine awp_cond (b := (decide ((k : Int) < ((l.length : Nat) : Int)))) (by kernel_rfl) (fun c4 => ?_) (fun c4 => ?_)
    ·
      try simp only [bs] at c4
      have hk1 : ((k : Int) - 1).toNat = k - 1 := by omega
      refine awp_skip ?_
      refine awp_seq ?_
      refine awp_block ?_
      refine awp_seq (awp_still [0, 3, 25] [] [((0 : Int) ≤ (k : Int)), ((k : Int) < ((l.length : Nat) : Int)), (-9223372036854775808 ≤ ((k : Int) - 1) ∧ ((k : Int) - 1) ≤ 9223372036854775807), ((0 : Int) ≤ ((k : Int) - 1)), (((k : Int) - 1) < ((l.length : Nat) : Int))] ⟨61, [(0, .one (.ro (.ints .i64 l))), (3, .one (.int .i64 (k : Int))), (25, .one (.bool (decide ((List.getD l k 0) = (List.getD l (Int.toNat ((k : Int) - 1)) 0)))))], []⟩ (by kernel_rfl) (by kernel_rfl) hT (by kernel_rfl) ⟨(by omega), (by omega), (by omega), (by omega), (by omega), trivial⟩ ?_)
      refine awp_cond (b := (decide ((List.getD l k 0) = (List.getD l (Int.toNat ((k : Int) - 1)) 0)))) (by kernel_rfl) (fun c6 => ?_) (fun c6 => ?_)
      ·
        try simp only [bs] at c6
        exfalso; have := hs (k - 1) (by omega); rw [show k - 1 + 1 = k by omega] at this; rw [show ((k : Int) - 1).toNat = k - 1 by omega] at c6; omega
      ·
        try simp only [bs] at c6
        refine awp_skip ?_
        refine awp_run [0, 3] [] [(-9223372036854775808 ≤ (((k + 1) : Nat) : Int) ∧ (((k + 1) : Nat) : Int) ≤ 9223372036854775807)] ⟨61, [(0, .one (.ro (.ints .i64 l))), (3, .one (.int .i64 (((k + 1) : Nat) : Int)))], []⟩ hT (by kernel_rfl) ⟨(by omega), trivial⟩ ?_
        refine loop_end _ ?_ ⟨(k + 1), ⟨(by omega), rfl⟩, (by kernel_rfl)⟩
        omega
    ·
      try simp only [bs] at c4
      refine awp_exit ?_
      refine awp_run_seq [2] [] [] ⟨61, [(2, .one (.ro (.ints .i64 l)))], []⟩ hT (by kernel_rfl) trivial ?_
      refine awp_ret ?_
      refine kRet.ret _ [] [] (.one (.ro (.ints .i64 l))) [] (by kernel_rfl) trivial ?_
      exact ⟨rfl, rfl⟩
end Go.Ab
