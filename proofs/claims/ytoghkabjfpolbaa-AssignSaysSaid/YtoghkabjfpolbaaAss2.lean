/- Of assign: how many a set has. -/
import Derived.Test.YtoghkabjfpolbaaTab
import Derived.Test.YtoghkabjfpolbaaPlAssign
set_option maxRecDepth 100000
namespace Go.Ab
open Go Go.Proofs
theorem assign_ones (z : Int) (h0 : 0 ≤ z) (h1 : z < 64) : ACall Try.prog 91 [.one (.int .i64 z)] [] (fun ov oh => ov = .one (.int .i64 (((many z 6) : Nat) : Int)) ∧ oh = []) := by
  refine acall_intro hT Try.func91 rfl (by kernel_rfl) rfl (by kernel_rfl) ?_
  refine awp_run_seq [0] [] [] ⟨13, [(0, .one (.int .i64 z))], []⟩ hT (by kernel_rfl) trivial ?_
  refine awp_run_seq [0, 3] [] [] ⟨13, [(0, .one (.int .i64 z)), (3, .one (.int .i64 0))], []⟩ hT (by kernel_rfl) trivial ?_
  refine awp_seq ?_
  refine awp_block ?_
  refine awp_loop (I := fun κ σ => ∃ (y : Int) (o : Nat), ((0 ≤ y ∧ y < 64) ∧ (o + many y 6 = many z 6) ∧ y.toNat = κ) ∧ σ = ⟨13, [(0, .one (.int .i64 y)), (3, .one (.int .i64 ((o : Nat) : Int)))], []⟩) _ ⟨z, 0, ⟨(by omega), (by omega), rfl⟩, (by kernel_rfl)⟩ ?_
  rintro κ _ ⟨y, o, ⟨hy, ho, rfl⟩, rfl⟩
  refine awp_seq ?_
  refine awp_run_seq [0, 3, 5] [] [] ⟨13, [(0, .one (.int .i64 y)), (3, .one (.int .i64 ((o : Nat) : Int))), (5, .one (.bool (decide ((0 : Int) < y))))], []⟩ hT (by kernel_rfl) trivial ?_
  refine awp_cond (b := (decide ((0 : Int) < y))) (by kernel_rfl) (fun c2 => ?_) (fun c2 => ?_)
  · -- yes 2
    try simp only [bs] at c2
    have hst := ones_step (z := y) (by omega) (by omega)
    have hy0 := iand0 y (y - 1)
    have hy1 := iand_le (a := y) (b := y - 1) (by omega)
    have hml := many_le z 6
    refine awp_skip ?_
    refine awp_seq ?_
    refine awp_block ?_
    refine awp_run [0, 3] [] [(-9223372036854775808 ≤ (((o + 1) : Nat) : Int) ∧ (((o + 1) : Nat) : Int) ≤ 9223372036854775807)] ⟨13, [(0, .one (.int .i64 y)), (3, .one (.int .i64 (((o + 1) : Nat) : Int)))], []⟩ hT (by kernel_rfl) ⟨(by first | omega | (simp only [lens]; omega) | (simp only [Bool.cond_decide]; omega)), trivial⟩ ?_
    refine awp_run [0, 3] [] [(-9223372036854775808 ≤ (y - 1) ∧ (y - 1) ≤ 9223372036854775807), ((0 : Int) ≤ y ∧ (-9223372036854775808 ≤ y ∧ y ≤ 9223372036854775807)), ((0 : Int) ≤ (y - 1) ∧ (-9223372036854775808 ≤ (y - 1) ∧ (y - 1) ≤ 9223372036854775807))] ⟨13, [(0, .one (.int .i64 (iand y (y - 1)))), (3, .one (.int .i64 (((o + 1) : Nat) : Int)))], []⟩ hT (by kernel_rfl) ⟨(by first | omega | (simp only [lens]; omega) | (simp only [Bool.cond_decide]; omega)), (by first | omega | (simp only [lens]; omega) | (simp only [Bool.cond_decide]; omega)), (by first | omega | (simp only [lens]; omega) | (simp only [Bool.cond_decide]; omega)), trivial⟩ ?_
    refine loop_end _ ?_ ⟨(iand y (y - 1)), (o + 1), ⟨(by omega), (by omega), rfl⟩, (by kernel_rfl)⟩
    omega
  · -- no 2
    try simp only [bs] at c2
    have hyz : y = 0 := by omega
    rw [hyz, ones_zero] at ho
    refine awp_exit ?_
    refine awp_run_seq [2] [] [] ⟨13, [(2, .one (.int .i64 ((o : Nat) : Int)))], []⟩ hT (by kernel_rfl) trivial ?_
    refine awp_ret ?_
    refine kRet.ret _ [] [] (.one (.int .i64 ((o : Nat) : Int))) [] (by kernel_rfl) trivial ?_
    exact ⟨congrArg (fun x1 => (.one (.int .i64 x1) : AV)) (show ((o : Nat) : Int) = (((many z 6) : Nat) : Int) from by omega), rfl⟩

end Go.Ab
