/- Of slices: Reverse. -/
import Derived.Test.YtglkldhjffnhhaaTab
set_option maxRecDepth 100000
namespace Go.Ab
open Go Go.Proofs
theorem reverse_ints (d : List Int) (hd : d.length ≤ 1000000) : ACall Try.prog 130 [.one (.rw 1 0 d.length)] [(1, .flat (.ints .i64 d))] (fun ov oh => ov = .tup [] ∧ oh = [(1, .flat (.ints .i64 d.reverse))]) := by
  refine acall_intro hT Try.func130 rfl (by kernel_rfl) rfl (by kernel_rfl) ?_
  refine awp_run_seq [0, 2, 3] [] [(-9223372036854775808 ≤ (((d.length : Nat) : Int) - 1) ∧ (((d.length : Nat) : Int) - 1) ≤ 9223372036854775807)] ⟨28, [(0, .one (.rw 1 0 d.length)), (2, .one (.int .i64 0)), (3, .one (.int .i64 (((d.length : Nat) : Int) - 1)))], [(1, .flat (.ints .i64 d))]⟩ hT (by kernel_rfl) ⟨(by first | omega | (simp only [lens]; omega) | (simp only [Bool.cond_decide]; omega) | (simp only [nadd_eq]; omega)), trivial⟩ ?_
  refine awp_block ?_
  refine awp_loop (I := fun κ σ => ∃ (i : Nat) (j : Int) (x : List Int), ((RevTo d x i j) ∧ d.length - i = κ) ∧ σ = ⟨28, [(0, .one (.rw 1 0 d.length)), (2, .one (.int .i64 ((i : Nat) : Int))), (3, .one (.int .i64 j))], [(1, .flat (.ints .i64 x))]⟩) _ ⟨0, (((d.length : Nat) : Int) - 1), d, ⟨(by exact RevTo.start d), rfl⟩, (by kernel_rfl)⟩ ?_
  rintro κ _ ⟨i, j, x, ⟨hr, rfl⟩, rfl⟩
  have hxl := hr.len
  have hij := hr.ij
  refine awp_seq ?_
  refine awp_run_seq [0, 2, 3, 9] [] [] ⟨28, [(0, .one (.rw 1 0 d.length)), (2, .one (.int .i64 ((i : Nat) : Int))), (3, .one (.int .i64 j)), (9, .one (.bool (decide (((i : Nat) : Int) < j))))], [(1, .flat (.ints .i64 x))]⟩ hT (by kernel_rfl) trivial ?_
  refine awp_cond (b := (decide (((i : Nat) : Int) < j))) (by kernel_rfl) (fun c1 => ?_) (fun c1 => ?_)
  · -- yes 1
    try simp only [bs] at c1
    refine awp_skip ?_
    refine awp_seq ?_
    refine awp_block ?_
    -- 2 orders
    refine awp_any [] false [0, 2, 3] [] 2 [(0, []), (1, []), (2, []), (3, []), (4, []), (5, []), (6, [((0 : Int) ≤ j), (j < ((d.length : Nat) : Int))]), (7, [((Int.toNat j) < x.length)]), (8, []), (9, []), (10, [((0 : Int) ≤ ((i : Nat) : Int)), (((i : Nat) : Int) < ((d.length : Nat) : Int))]), (11, [(i < x.length)]), (12, [((0 : Int) ≤ ((i : Nat) : Int)), (((i : Nat) : Int) < ((d.length : Nat) : Int))]), (13, [(i < x.length)]), (14, [((0 : Int) ≤ j), (j < ((d.length : Nat) : Int))]), (15, [((Int.toNat j) < (List.length (List.set x i (List.getD x (Int.toNat j) 0))))])] ⟨28, [(0, .one (.rw 1 0 d.length)), (2, .one (.int .i64 ((i : Nat) : Int))), (3, .one (.int .i64 j))], [(1, .flat (.ints .i64 (List.set (List.set x i (List.getD x (Int.toNat j) 0)) (Int.toNat j) (List.getD x i 0))))]⟩ (by kernel_rfl) (by kernel_rfl) hT (by kernel_rfl) ⟨trivial, trivial, trivial, trivial, trivial, trivial, ⟨(by first | omega | (simp only [lens]; omega) | (simp only [Bool.cond_decide]; omega) | (simp only [nadd_eq]; omega)), (by first | omega | (simp only [lens]; omega) | (simp only [Bool.cond_decide]; omega) | (simp only [nadd_eq]; omega)), trivial⟩, ⟨(by first | omega | (simp only [lens]; omega) | (simp only [Bool.cond_decide]; omega) | (simp only [nadd_eq]; omega)), trivial⟩, trivial, trivial, ⟨(by first | omega | (simp only [lens]; omega) | (simp only [Bool.cond_decide]; omega) | (simp only [nadd_eq]; omega)), (by first | omega | (simp only [lens]; omega) | (simp only [Bool.cond_decide]; omega) | (simp only [nadd_eq]; omega)), trivial⟩, ⟨(by first | omega | (simp only [lens]; omega) | (simp only [Bool.cond_decide]; omega) | (simp only [nadd_eq]; omega)), trivial⟩, ⟨(by first | omega | (simp only [lens]; omega) | (simp only [Bool.cond_decide]; omega) | (simp only [nadd_eq]; omega)), (by first | omega | (simp only [lens]; omega) | (simp only [Bool.cond_decide]; omega) | (simp only [nadd_eq]; omega)), trivial⟩, ⟨(by first | omega | (simp only [lens]; omega) | (simp only [Bool.cond_decide]; omega) | (simp only [nadd_eq]; omega)), trivial⟩, ⟨(by first | omega | (simp only [lens]; omega) | (simp only [Bool.cond_decide]; omega) | (simp only [nadd_eq]; omega)), (by first | omega | (simp only [lens]; omega) | (simp only [Bool.cond_decide]; omega) | (simp only [nadd_eq]; omega)), trivial⟩, ⟨(by first | omega | (simp only [lens]; omega) | (simp only [Bool.cond_decide]; omega) | (simp only [nadd_eq]; omega)), trivial⟩, trivial⟩ ?_
    refine awp_run [0, 2, 3] [] [(-9223372036854775808 ≤ (((i + 1) : Nat) : Int) ∧ (((i + 1) : Nat) : Int) ≤ 9223372036854775807), (-9223372036854775808 ≤ (j - 1) ∧ (j - 1) ≤ 9223372036854775807)] ⟨28, [(0, .one (.rw 1 0 d.length)), (2, .one (.int .i64 (((i + 1) : Nat) : Int))), (3, .one (.int .i64 (j - 1)))], [(1, .flat (.ints .i64 (List.set (List.set x i (List.getD x (Int.toNat j) 0)) (Int.toNat j) (List.getD x i 0))))]⟩ hT (by kernel_rfl) ⟨(by first | omega | (simp only [lens]; omega) | (simp only [Bool.cond_decide]; omega) | (simp only [nadd_eq]; omega)), (by first | omega | (simp only [lens]; omega) | (simp only [Bool.cond_decide]; omega) | (simp only [nadd_eq]; omega)), trivial⟩ ?_
    refine loop_end _ ?_ ⟨(i + 1), (j - 1), (List.set (List.set x i (List.getD x (Int.toNat j) 0)) (Int.toNat j) (List.getD x i 0)), ⟨(by exact hr.step (by omega)), rfl⟩, (by kernel_rfl)⟩
    omega
  · -- no 1
    try simp only [bs] at c1
    have hfin := hr.end_ (by omega)
    refine awp_exit ?_
    refine kRet.normal _ [] [] (.tup []) [(1, .flat (.ints .i64 x))] (by kernel_rfl) trivial ?_
    exact ⟨(by kernel_rfl), (by rw [hfin])⟩

end Go.Ab
