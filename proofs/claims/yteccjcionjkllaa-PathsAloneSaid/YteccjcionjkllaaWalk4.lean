/- Of ways: how far, and which way. -/
import Derived.Test.YteccjcionjkllaaTab
import Derived.Test.YteccjcionjkllaaWays1
import Derived.Test.YteccjcionjkllaaG1
import Derived.Test.YteccjcionjkllaaF2
import Derived.Test.YteccjcionjkllaaFun1
import Derived.Test.YteccjcionjkllaaPlB
set_option maxRecDepth 100000
namespace Go.Ab
open Go Go.Proofs
theorem ref_isWay (es : List Arc) (w : List Int) (s t : Int) : ACall Try.prog 94 [.one (.ro (.arcs es)), .one (.ro (.ints .i64 w)), .one (.int .i64 s), .one (.int .i64 t)] [] (fun ov oh => ov = .one (.bool (isWay es w s t)) ∧ oh = []) := by
  refine acall_intro hT Try.func94 rfl (by kernel_rfl) rfl (by kernel_rfl) ?_
  refine awp_len 1 0 (.ints .i64 w) (by kernel_rfl) (fun hlw => ?_)
  simp only [C0.len, maxLen] at hlw
  refine awp_run_seq [0, 1, 2, 3] [] [] ⟨43, [(0, .one (.ro (.arcs es))), (1, .one (.ro (.ints .i64 w))), (2, .one (.int .i64 s)), (3, .one (.int .i64 t))], []⟩ hT (by kernel_rfl) trivial ?_
  refine awp_seq ?_
  refine awp_run_seq [0, 2, 3, 11, 12, 13] [] [] ⟨43, [(0, .one (.ro (.arcs es))), (2, .one (.int .i64 s)), (3, .one (.int .i64 t)), (11, .one (.ro (.ints .i64 w))), (12, .one (.int .i64 ((w.length : Nat) : Int))), (13, .one (.int .i64 0))], []⟩ hT (by kernel_rfl) trivial ?_
  refine awp_block ?_
  refine awp_loop (I := fun κ σ => ∃ (i : Nat) (c : Int), ((i ≤ w.length) ∧ (isWay es (w.drop i) c t = isWay es w s t) ∧ w.length - i = κ) ∧ σ = ⟨43, [(0, .one (.ro (.arcs es))), (2, .one (.int .i64 c)), (3, .one (.int .i64 t)), (11, .one (.ro (.ints .i64 w))), (12, .one (.int .i64 ((w.length : Nat) : Int))), (13, .one (.int .i64 (i : Int)))], []⟩) _ ⟨0, s, ⟨(by omega), (by rfl), rfl⟩, (by kernel_rfl)⟩ ?_
  rintro κ _ ⟨i, c, ⟨hi, hq, rfl⟩, rfl⟩
  refine awp_run_seq [0, 2, 3, 11, 12, 13, 14] [] [] ⟨43, [(0, .one (.ro (.arcs es))), (2, .one (.int .i64 c)), (3, .one (.int .i64 t)), (11, .one (.ro (.ints .i64 w))), (12, .one (.int .i64 ((w.length : Nat) : Int))), (13, .one (.int .i64 (i : Int))), (14, .one (.bool (decide ((i : Int) < ((w.length : Nat) : Int)))))], []⟩ hT (by kernel_rfl) trivial ?_
  refine awp_seq ?_
  refine awp_cond (b := (decide ((i : Int) < ((w.length : Nat) : Int)))) (by kernel_rfl) (fun c2 => ?_) (fun c2 => ?_)
  ·
    try simp only [bs] at c2
    have hiw : i < w.length := by omega
    refine awp_skip ?_
    refine awp_seq ?_
    refine awp_block ?_
    refine awp_run_seq [0, 2, 3, 10, 11, 12, 13] [] [((0 : Int) ≤ (i : Int)), ((i : Int) < ((w.length : Nat) : Int))] ⟨43, [(0, .one (.ro (.arcs es))), (2, .one (.int .i64 c)), (3, .one (.int .i64 t)), (10, .one (.int .i64 (List.getD w i 0))), (11, .one (.ro (.ints .i64 w))), (12, .one (.int .i64 ((w.length : Nat) : Int))), (13, .one (.int .i64 (i : Int)))], []⟩ hT (by kernel_rfl) ⟨(by omega), (by omega), trivial⟩ ?_
    refine awp_seq ?_
    refine awp_run_seq [0, 3, 10, 11, 12, 13, 33] [] [((!(decide ((List.getD w i 0) < 0))) = true → ((!(decide ((List.getD w i 0) < 0))) = true → (!(decide ((List.getD w i 0) < 0))) = true)), ((!(decide ((List.getD w i 0) < 0))) = true → ((!(decide ((List.getD w i 0) < 0))) = true → (!(decide ((List.getD w i 0) < 0))) = true)), ((!(decide ((List.getD w i 0) < 0))) = true → ((!(decide ((List.getD w i 0) < 0))) = true → (!(decide ((List.getD w i 0) < 0))) = true)), ((!(decide ((List.getD w i 0) < 0))) = true → (!(decide ((List.getD w i 0) < 0))) = true), ((!((decide ((List.getD w i 0) < 0)) || (decide (((es.length : Nat) : Int) ≤ (List.getD w i 0))))) = true → ((!((decide ((List.getD w i 0) < 0)) || (decide (((es.length : Nat) : Int) ≤ (List.getD w i 0))))) = true → (!((decide ((List.getD w i 0) < 0)) || (decide (((es.length : Nat) : Int) ≤ (List.getD w i 0))))) = true)), ((!((decide ((List.getD w i 0) < 0)) || (decide (((es.length : Nat) : Int) ≤ (List.getD w i 0))))) = true → ((!((decide ((List.getD w i 0) < 0)) || (decide (((es.length : Nat) : Int) ≤ (List.getD w i 0))))) = true → (!((decide ((List.getD w i 0) < 0)) || (decide (((es.length : Nat) : Int) ≤ (List.getD w i 0))))) = true)), ((!((decide ((List.getD w i 0) < 0)) || (decide (((es.length : Nat) : Int) ≤ (List.getD w i 0))))) = true → ((0 : Int) ≤ (List.getD w i 0))), ((!((decide ((List.getD w i 0) < 0)) || (decide (((es.length : Nat) : Int) ≤ (List.getD w i 0))))) = true → ((List.getD w i 0) < ((es.length : Nat) : Int))), ((!((decide ((List.getD w i 0) < 0)) || (decide (((es.length : Nat) : Int) ≤ (List.getD w i 0))))) = true → ((!((decide ((List.getD w i 0) < 0)) || (decide (((es.length : Nat) : Int) ≤ (List.getD w i 0))))) = true → (!((decide ((List.getD w i 0) < 0)) || (decide (((es.length : Nat) : Int) ≤ (List.getD w i 0))))) = true)), ((!((decide ((List.getD w i 0) < 0)) || (decide (((es.length : Nat) : Int) ≤ (List.getD w i 0))))) = true → ((!((decide ((List.getD w i 0) < 0)) || (decide (((es.length : Nat) : Int) ≤ (List.getD w i 0))))) = true → (!((decide ((List.getD w i 0) < 0)) || (decide (((es.length : Nat) : Int) ≤ (List.getD w i 0))))) = true)), ((!((decide ((List.getD w i 0) < 0)) || (decide (((es.length : Nat) : Int) ≤ (List.getD w i 0))))) = true → ((!((decide ((List.getD w i 0) < 0)) || (decide (((es.length : Nat) : Int) ≤ (List.getD w i 0))))) = true → (!((decide ((List.getD w i 0) < 0)) || (decide (((es.length : Nat) : Int) ≤ (List.getD w i 0))))) = true)), ((!((decide ((List.getD w i 0) < 0)) || (decide (((es.length : Nat) : Int) ≤ (List.getD w i 0))))) = true → ((!((decide ((List.getD w i 0) < 0)) || (decide (((es.length : Nat) : Int) ≤ (List.getD w i 0))))) = true → (!((decide ((List.getD w i 0) < 0)) || (decide (((es.length : Nat) : Int) ≤ (List.getD w i 0))))) = true)), ((!((decide ((List.getD w i 0) < 0)) || (decide (((es.length : Nat) : Int) ≤ (List.getD w i 0))))) = true → (!((decide ((List.getD w i 0) < 0)) || (decide (((es.length : Nat) : Int) ≤ (List.getD w i 0))))) = true)] ⟨43, [(0, .one (.ro (.arcs es))), (3, .one (.int .i64 t)), (10, .one (.int .i64 (List.getD w i 0))), (11, .one (.ro (.ints .i64 w))), (12, .one (.int .i64 ((w.length : Nat) : Int))), (13, .one (.int .i64 (i : Int))), (33, .one (.bool (((decide ((List.getD w i 0) < 0)) || (decide (((es.length : Nat) : Int) ≤ (List.getD w i 0)))) || (decide (((List.getD es (Int.toNat (List.getD w i 0)) default).src) ≠ c)))))], []⟩ hT (by kernel_rfl) ⟨(by intro hg; first | exact hg | skip; (try simp only [bs] at hg ⊢); first | exact hg | first | omega | (simp only [lens]; omega) | (simp only [Bool.cond_decide]; omega) | (simp only [nadd_eq]; omega) | grind), (by intro hg; first | exact hg | skip; (try simp only [bs] at hg ⊢); first | exact hg | first | omega | (simp only [lens]; omega) | (simp only [Bool.cond_decide]; omega) | (simp only [nadd_eq]; omega) | grind), (by intro hg; first | exact hg | skip; (try simp only [bs] at hg ⊢); first | exact hg | first | omega | (simp only [lens]; omega) | (simp only [Bool.cond_decide]; omega) | (simp only [nadd_eq]; omega) | grind), (fun h => h), (by intro hg; first | exact hg | skip; (try simp only [bs] at hg ⊢); first | exact hg | first | omega | (simp only [lens]; omega) | (simp only [Bool.cond_decide]; omega) | (simp only [nadd_eq]; omega) | grind), (by intro hg; first | exact hg | skip; (try simp only [bs] at hg ⊢); first | exact hg | first | omega | (simp only [lens]; omega) | (simp only [Bool.cond_decide]; omega) | (simp only [nadd_eq]; omega) | grind), (by intro hg; first | exact hg | skip; (try simp only [bs] at hg); first | exact hg | first | omega | (simp only [lens]; omega) | (simp only [Bool.cond_decide]; omega) | (simp only [nadd_eq]; omega) | grind), (by intro hg; first | exact hg | skip; (try simp only [bs] at hg); first | exact hg | first | omega | (simp only [lens]; omega) | (simp only [Bool.cond_decide]; omega) | (simp only [nadd_eq]; omega) | grind), (by intro hg; first | exact hg | skip; (try simp only [bs] at hg ⊢); first | exact hg | first | omega | (simp only [lens]; omega) | (simp only [Bool.cond_decide]; omega) | (simp only [nadd_eq]; omega) | grind), (by intro hg; first | exact hg | skip; (try simp only [bs] at hg ⊢); first | exact hg | first | omega | (simp only [lens]; omega) | (simp only [Bool.cond_decide]; omega) | (simp only [nadd_eq]; omega) | grind), (by intro hg; first | exact hg | skip; (try simp only [bs] at hg ⊢); first | exact hg | first | omega | (simp only [lens]; omega) | (simp only [Bool.cond_decide]; omega) | (simp only [nadd_eq]; omega) | grind), (by intro hg; first | exact hg | skip; (try simp only [bs] at hg ⊢); first | exact hg | first | omega | (simp only [lens]; omega) | (simp only [Bool.cond_decide]; omega) | (simp only [nadd_eq]; omega) | grind), (fun h => h), trivial⟩ ?_
    refine awp_cond (b := (((decide ((List.getD w i 0) < 0)) || (decide (((es.length : Nat) : Int) ≤ (List.getD w i 0)))) || (decide (((List.getD es (Int.toNat (List.getD w i 0)) default).src) ≠ c)))) (by kernel_rfl) (fun c4 => ?_) (fun c4 => ?_)
    ·
      try simp only [bs] at c4
      refine awp_run_seq [8] [] [] ⟨43, [(8, .one (.bool false))], []⟩ hT (by kernel_rfl) trivial ?_
      refine awp_ret ?_
      refine kRet.ret _ [] [] (.one (.bool false)) [] (by kernel_rfl) trivial ?_
      exact ⟨congrArg (fun x1 => (.one (.bool x1) : AV)) (show false = (isWay es w s t) from by rw [← hq, isWay_drop hiw, decide_eq_false (by omega), Bool.false_and]), rfl⟩
    ·
      try simp only [bs] at c4
      refine awp_skip ?_
      refine awp_run [0, 2, 3, 11, 12, 13] [] [((0 : Int) ≤ (List.getD w i 0)), ((List.getD w i 0) < ((es.length : Nat) : Int))] ⟨43, [(0, .one (.ro (.arcs es))), (2, .one (.int .i64 ((List.getD es (Int.toNat (List.getD w i 0)) default).dst))), (3, .one (.int .i64 t)), (11, .one (.ro (.ints .i64 w))), (12, .one (.int .i64 ((w.length : Nat) : Int))), (13, .one (.int .i64 (i : Int)))], []⟩ hT (by kernel_rfl) ⟨(by omega), (by omega), trivial⟩ ?_
      refine awp_run [0, 2, 3, 11, 12, 13] [] [(-9223372036854775808 ≤ (((i + 1) : Nat) : Int) ∧ (((i + 1) : Nat) : Int) ≤ 9223372036854775807)] ⟨43, [(0, .one (.ro (.arcs es))), (2, .one (.int .i64 ((List.getD es (Int.toNat (List.getD w i 0)) default).dst))), (3, .one (.int .i64 t)), (11, .one (.ro (.ints .i64 w))), (12, .one (.int .i64 ((w.length : Nat) : Int))), (13, .one (.int .i64 (((i + 1) : Nat) : Int)))], []⟩ hT (by kernel_rfl) ⟨(by omega), trivial⟩ ?_
      refine loop_end _ ?_ ⟨(i + 1), ((List.getD es (Int.toNat (List.getD w i 0)) default).dst), ⟨(by omega), (by rw [← hq, isWay_drop hiw, decide_eq_true (by omega), Bool.true_and]), rfl⟩, (by kernel_rfl)⟩
      omega
  ·
    try simp only [bs] at c2
    rw [List.drop_of_length_le (by omega)] at hq
    refine awp_exit ?_
    refine awp_run_seq [8] [] [] ⟨43, [(8, .one (.bool (decide (c = t))))], []⟩ hT (by kernel_rfl) trivial ?_
    refine awp_ret ?_
    refine kRet.ret _ [] [] (.one (.bool (decide (c = t)))) [] (by kernel_rfl) trivial ?_
    exact ⟨congrArg (fun x1 => (.one (.bool x1) : AV)) (show (decide (c = t)) = (isWay es w s t) from by rw [← hq]; rfl), rfl⟩
end Go.Ab
