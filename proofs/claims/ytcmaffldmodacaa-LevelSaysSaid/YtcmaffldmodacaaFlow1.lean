/- Of flows: the checks of the reference. -/
import Derived.Test.YtcmaffldmodacaaTab
import Derived.Test.YtcmaffldmodacaaG1
set_option maxRecDepth 100000
namespace Go.Ab
open Go Go.Proofs
theorem ref_gone (n s t : Int) (es : List Arc) (f : List Int) (v : Int) (hlen : f.length = es.length) (hle : es.length ≤ 60) (hf : ∀ k, k < es.length → 0 ≤ f.getD k 0 ∧ f.getD k 0 ≤ 10000) : ACall Try.prog 28 [.agg [(.int .i64 n), (.int .i64 s), (.int .i64 t), (.ro (.arcs es))], .one (.ro (.ints .i64 f)), .one (.int .i64 v)] [] (fun ov oh => ov = .one (.int .i64 (gone es f v)) ∧ oh = []) := by
  refine acall_intro hT Try.func28 rfl (by kernel_rfl) rfl (by kernel_rfl) ?_
  refine awp_run_seq [1, 2, 3] [103] [] ⟨40, [(1, .one (.ro (.ints .i64 f))), (2, .one (.int .i64 v)), (3, .one (.ptr 103 0 0))], [(103, .box 1 4 [(.int .i64 n), (.int .i64 s), (.int .i64 t), (.ro (.arcs es))])]⟩ hT (by kernel_rfl) trivial ?_
  refine awp_run_seq [1, 2, 3, 7] [103] [] ⟨40, [(1, .one (.ro (.ints .i64 f))), (2, .one (.int .i64 v)), (3, .one (.ptr 103 0 0)), (7, .one (.int .i64 0))], [(103, .box 1 4 [(.int .i64 n), (.int .i64 s), (.int .i64 t), (.ro (.arcs es))])]⟩ hT (by kernel_rfl) trivial ?_
  refine awp_seq ?_
  refine awp_run_seq [1, 2, 7, 11, 12, 13] [] [(0 < 1)] ⟨40, [(1, .one (.ro (.ints .i64 f))), (2, .one (.int .i64 v)), (7, .one (.int .i64 0)), (11, .one (.ro (.arcs es))), (12, .one (.int .i64 ((es.length : Nat) : Int))), (13, .one (.int .i64 0))], []⟩ hT (by kernel_rfl) ⟨(by decide), trivial⟩ ?_
  refine awp_block ?_
  refine awp_loop (I := fun κ σ => ∃ (i : Nat) (u : Int), ((i ≤ es.length) ∧ (u + gone (es.drop i) (f.drop i) v = gone es f v) ∧ (-(10000 * i) ≤ u ∧ u ≤ 10000 * (i : Int)) ∧ es.length - i = κ) ∧ σ = ⟨40, [(1, .one (.ro (.ints .i64 f))), (2, .one (.int .i64 v)), (7, .one (.int .i64 u)), (11, .one (.ro (.arcs es))), (12, .one (.int .i64 ((es.length : Nat) : Int))), (13, .one (.int .i64 ((i : Nat) : Int)))], []⟩) _ ⟨0, 0, ⟨(by omega), (by simp), (by omega), rfl⟩, (by kernel_rfl)⟩ ?_
  rintro κ _ ⟨i, u, ⟨hi, hu, hb, rfl⟩, rfl⟩
  refine awp_run_seq [1, 2, 7, 11, 12, 13, 14] [] [] ⟨40, [(1, .one (.ro (.ints .i64 f))), (2, .one (.int .i64 v)), (7, .one (.int .i64 u)), (11, .one (.ro (.arcs es))), (12, .one (.int .i64 ((es.length : Nat) : Int))), (13, .one (.int .i64 ((i : Nat) : Int))), (14, .one (.bool (decide (((i : Nat) : Int) < ((es.length : Nat) : Int)))))], []⟩ hT (by kernel_rfl) trivial ?_
  refine awp_seq ?_
  refine awp_cond (b := (decide (((i : Nat) : Int) < ((es.length : Nat) : Int)))) (by kernel_rfl) (fun c3 => ?_) (fun c3 => ?_)
  · -- yes 3
    try simp only [bs] at c3
    have hg := gone_drop (i := i) (f := f) v (by omega) hlen
    have hfi := hf i (by omega)
    refine awp_skip ?_
    refine awp_seq ?_
    refine awp_block ?_
    refine awp_run_seq [1, 2, 7, 8, 9, 11, 12, 13] [109] [((0 : Int) ≤ ((i : Nat) : Int)), (((i : Nat) : Int) < ((es.length : Nat) : Int)), (0 < 1)] ⟨40, [(1, .one (.ro (.ints .i64 f))), (2, .one (.int .i64 v)), (7, .one (.int .i64 u)), (8, .one (.int .i64 ((i : Nat) : Int))), (9, .one (.ptr 109 0 0)), (11, .one (.ro (.arcs es))), (12, .one (.int .i64 ((es.length : Nat) : Int))), (13, .one (.int .i64 ((i : Nat) : Int)))], [(109, .box 1 3 [(.int .i64 ((List.getD es i default).src)), (.int .i64 ((List.getD es i default).dst)), (.int .i64 ((List.getD es i default).cap))])]⟩ hT (by kernel_rfl) ⟨(by first | omega | (simp only [lens]; omega) | (simp only [Bool.cond_decide]; omega) | (simp only [nadd_eq]; omega)), (by first | omega | (simp only [lens]; omega) | (simp only [Bool.cond_decide]; omega) | (simp only [nadd_eq]; omega)), (by decide), trivial⟩ ?_
    refine awp_seq ?_
    refine awp_run_seq [1, 2, 7, 8, 9, 11, 12, 13, 21] [109] [(0 < 1)] ⟨40, [(1, .one (.ro (.ints .i64 f))), (2, .one (.int .i64 v)), (7, .one (.int .i64 u)), (8, .one (.int .i64 ((i : Nat) : Int))), (9, .one (.ptr 109 0 0)), (11, .one (.ro (.arcs es))), (12, .one (.int .i64 ((es.length : Nat) : Int))), (13, .one (.int .i64 ((i : Nat) : Int))), (21, .one (.bool (decide (((List.getD es i default).src) = v))))], [(109, .box 1 3 [(.int .i64 ((List.getD es i default).src)), (.int .i64 ((List.getD es i default).dst)), (.int .i64 ((List.getD es i default).cap))])]⟩ hT (by kernel_rfl) ⟨(by decide), trivial⟩ ?_
    refine awp_cond (b := (decide (((List.getD es i default).src) = v))) (by kernel_rfl) (fun c5 => ?_) (fun c5 => ?_)
    · -- yes 5
      try simp only [bs] at c5
      refine awp_run [1, 2, 7, 8, 9, 11, 12, 13] [109] [((0 : Int) ≤ ((i : Nat) : Int)), (((i : Nat) : Int) < ((f.length : Nat) : Int)), (-9223372036854775808 ≤ (u + (List.getD f i 0)) ∧ (u + (List.getD f i 0)) ≤ 9223372036854775807)] ⟨40, [(1, .one (.ro (.ints .i64 f))), (2, .one (.int .i64 v)), (7, .one (.int .i64 (u + (List.getD f i 0)))), (8, .one (.int .i64 ((i : Nat) : Int))), (9, .one (.ptr 109 0 0)), (11, .one (.ro (.arcs es))), (12, .one (.int .i64 ((es.length : Nat) : Int))), (13, .one (.int .i64 ((i : Nat) : Int)))], [(109, .box 1 3 [(.int .i64 ((List.getD es i default).src)), (.int .i64 ((List.getD es i default).dst)), (.int .i64 ((List.getD es i default).cap))])]⟩ hT (by kernel_rfl) ⟨(by first | omega | (simp only [lens]; omega) | (simp only [Bool.cond_decide]; omega) | (simp only [nadd_eq]; omega)), (by first | omega | (simp only [lens]; omega) | (simp only [Bool.cond_decide]; omega) | (simp only [nadd_eq]; omega)), (by first | omega | (simp only [lens]; omega) | (simp only [Bool.cond_decide]; omega) | (simp only [nadd_eq]; omega)), trivial⟩ ?_
      refine awp_run_seq [1, 2, 7, 8, 11, 12, 13, 31] [] [(0 < 1)] ⟨40, [(1, .one (.ro (.ints .i64 f))), (2, .one (.int .i64 v)), (7, .one (.int .i64 (u + (List.getD f i 0)))), (8, .one (.int .i64 ((i : Nat) : Int))), (11, .one (.ro (.arcs es))), (12, .one (.int .i64 ((es.length : Nat) : Int))), (13, .one (.int .i64 ((i : Nat) : Int))), (31, .one (.bool (decide (((List.getD es i default).dst) = v))))], []⟩ hT (by kernel_rfl) ⟨(by decide), trivial⟩ ?_
      refine awp_cond (b := (decide (((List.getD es i default).dst) = v))) (by kernel_rfl) (fun c7 => ?_) (fun c7 => ?_)
      · -- yes 7
        try simp only [bs] at c7
        refine awp_run [1, 2, 7, 11, 12, 13] [] [((0 : Int) ≤ ((i : Nat) : Int)), (((i : Nat) : Int) < ((f.length : Nat) : Int)), (-9223372036854775808 ≤ ((u + (List.getD f i 0)) - (List.getD f i 0)) ∧ ((u + (List.getD f i 0)) - (List.getD f i 0)) ≤ 9223372036854775807)] ⟨40, [(1, .one (.ro (.ints .i64 f))), (2, .one (.int .i64 v)), (7, .one (.int .i64 ((u + (List.getD f i 0)) - (List.getD f i 0)))), (11, .one (.ro (.arcs es))), (12, .one (.int .i64 ((es.length : Nat) : Int))), (13, .one (.int .i64 ((i : Nat) : Int)))], []⟩ hT (by kernel_rfl) ⟨(by first | omega | (simp only [lens]; omega) | (simp only [Bool.cond_decide]; omega) | (simp only [nadd_eq]; omega)), (by first | omega | (simp only [lens]; omega) | (simp only [Bool.cond_decide]; omega) | (simp only [nadd_eq]; omega)), (by first | omega | (simp only [lens]; omega) | (simp only [Bool.cond_decide]; omega) | (simp only [nadd_eq]; omega)), trivial⟩ ?_
        refine awp_run [1, 2, 7, 11, 12, 13] [] [(-9223372036854775808 ≤ (((i + 1) : Nat) : Int) ∧ (((i + 1) : Nat) : Int) ≤ 9223372036854775807)] ⟨40, [(1, .one (.ro (.ints .i64 f))), (2, .one (.int .i64 v)), (7, .one (.int .i64 ((u + (List.getD f i 0)) - (List.getD f i 0)))), (11, .one (.ro (.arcs es))), (12, .one (.int .i64 ((es.length : Nat) : Int))), (13, .one (.int .i64 (((i + 1) : Nat) : Int)))], []⟩ hT (by kernel_rfl) ⟨(by first | omega | (simp only [lens]; omega) | (simp only [Bool.cond_decide]; omega) | (simp only [nadd_eq]; omega)), trivial⟩ ?_
        refine loop_end _ ?_ ⟨(i + 1), ((u + (List.getD f i 0)) - (List.getD f i 0)), ⟨(by omega), (by omega), (by omega), rfl⟩, (by kernel_rfl)⟩
        omega
      · -- no 7
        try simp only [bs] at c7
        refine awp_skip ?_
        refine awp_run [1, 2, 7, 11, 12, 13] [] [(-9223372036854775808 ≤ (((i + 1) : Nat) : Int) ∧ (((i + 1) : Nat) : Int) ≤ 9223372036854775807)] ⟨40, [(1, .one (.ro (.ints .i64 f))), (2, .one (.int .i64 v)), (7, .one (.int .i64 (u + (List.getD f i 0)))), (11, .one (.ro (.arcs es))), (12, .one (.int .i64 ((es.length : Nat) : Int))), (13, .one (.int .i64 (((i + 1) : Nat) : Int)))], []⟩ hT (by kernel_rfl) ⟨(by first | omega | (simp only [lens]; omega) | (simp only [Bool.cond_decide]; omega) | (simp only [nadd_eq]; omega)), trivial⟩ ?_
        refine loop_end _ ?_ ⟨(i + 1), (u + (List.getD f i 0)), ⟨(by omega), (by omega), (by omega), rfl⟩, (by kernel_rfl)⟩
        omega
    · -- no 5
      try simp only [bs] at c5
      refine awp_skip ?_
      refine awp_run_seq [1, 2, 7, 8, 11, 12, 13, 31] [] [(0 < 1)] ⟨40, [(1, .one (.ro (.ints .i64 f))), (2, .one (.int .i64 v)), (7, .one (.int .i64 u)), (8, .one (.int .i64 ((i : Nat) : Int))), (11, .one (.ro (.arcs es))), (12, .one (.int .i64 ((es.length : Nat) : Int))), (13, .one (.int .i64 ((i : Nat) : Int))), (31, .one (.bool (decide (((List.getD es i default).dst) = v))))], []⟩ hT (by kernel_rfl) ⟨(by decide), trivial⟩ ?_
      refine awp_cond (b := (decide (((List.getD es i default).dst) = v))) (by kernel_rfl) (fun c7 => ?_) (fun c7 => ?_)
      · -- yes 7
        try simp only [bs] at c7
        refine awp_run [1, 2, 7, 11, 12, 13] [] [((0 : Int) ≤ ((i : Nat) : Int)), (((i : Nat) : Int) < ((f.length : Nat) : Int)), (-9223372036854775808 ≤ (u - (List.getD f i 0)) ∧ (u - (List.getD f i 0)) ≤ 9223372036854775807)] ⟨40, [(1, .one (.ro (.ints .i64 f))), (2, .one (.int .i64 v)), (7, .one (.int .i64 (u - (List.getD f i 0)))), (11, .one (.ro (.arcs es))), (12, .one (.int .i64 ((es.length : Nat) : Int))), (13, .one (.int .i64 ((i : Nat) : Int)))], []⟩ hT (by kernel_rfl) ⟨(by first | omega | (simp only [lens]; omega) | (simp only [Bool.cond_decide]; omega) | (simp only [nadd_eq]; omega)), (by first | omega | (simp only [lens]; omega) | (simp only [Bool.cond_decide]; omega) | (simp only [nadd_eq]; omega)), (by first | omega | (simp only [lens]; omega) | (simp only [Bool.cond_decide]; omega) | (simp only [nadd_eq]; omega)), trivial⟩ ?_
        refine awp_run [1, 2, 7, 11, 12, 13] [] [(-9223372036854775808 ≤ (((i + 1) : Nat) : Int) ∧ (((i + 1) : Nat) : Int) ≤ 9223372036854775807)] ⟨40, [(1, .one (.ro (.ints .i64 f))), (2, .one (.int .i64 v)), (7, .one (.int .i64 (u - (List.getD f i 0)))), (11, .one (.ro (.arcs es))), (12, .one (.int .i64 ((es.length : Nat) : Int))), (13, .one (.int .i64 (((i + 1) : Nat) : Int)))], []⟩ hT (by kernel_rfl) ⟨(by first | omega | (simp only [lens]; omega) | (simp only [Bool.cond_decide]; omega) | (simp only [nadd_eq]; omega)), trivial⟩ ?_
        refine loop_end _ ?_ ⟨(i + 1), (u - (List.getD f i 0)), ⟨(by omega), (by omega), (by omega), rfl⟩, (by kernel_rfl)⟩
        omega
      · -- no 7
        try simp only [bs] at c7
        refine awp_skip ?_
        refine awp_run [1, 2, 7, 11, 12, 13] [] [(-9223372036854775808 ≤ (((i + 1) : Nat) : Int) ∧ (((i + 1) : Nat) : Int) ≤ 9223372036854775807)] ⟨40, [(1, .one (.ro (.ints .i64 f))), (2, .one (.int .i64 v)), (7, .one (.int .i64 u)), (11, .one (.ro (.arcs es))), (12, .one (.int .i64 ((es.length : Nat) : Int))), (13, .one (.int .i64 (((i + 1) : Nat) : Int)))], []⟩ hT (by kernel_rfl) ⟨(by first | omega | (simp only [lens]; omega) | (simp only [Bool.cond_decide]; omega) | (simp only [nadd_eq]; omega)), trivial⟩ ?_
        refine loop_end _ ?_ ⟨(i + 1), u, ⟨(by omega), (by omega), (by omega), rfl⟩, (by kernel_rfl)⟩
        omega
  · -- no 3
    try simp only [bs] at c3
    refine awp_exit ?_
    refine awp_run_seq [6] [] [] ⟨40, [(6, .one (.int .i64 u))], []⟩ hT (by kernel_rfl) trivial ?_
    refine awp_ret ?_
    rw [gone_end v (by omega)] at hu
    refine kRet.ret _ [] [] (.one (.int .i64 u)) [] (by kernel_rfl) trivial ?_
    exact ⟨congrArg (fun x1 => (.one (.int .i64 x1) : AV)) (show u = (gone es f v) from by omega), rfl⟩

theorem ref_flowErr (n s t : Int) (es : List Arc) (f : List Int) : ACall Try.prog 27 [.agg [(.int .i64 n), (.int .i64 s), (.int .i64 t), (.ro (.arcs es))], .one (.ro (.ints .i64 f))] [] (fun ov oh => ov = .one (.int .i64 (flowErr n s t es f)) ∧ oh = []) := by
  refine acall_intro hT Try.func27 rfl (by kernel_rfl) rfl (by kernel_rfl) ?_
  refine awp_run_seq [1, 2] [102] [] ⟨66, [(1, .one (.ro (.ints .i64 f))), (2, .one (.ptr 102 0 0))], [(102, .box 1 4 [(.int .i64 n), (.int .i64 s), (.int .i64 t), (.ro (.arcs es))])]⟩ hT (by kernel_rfl) trivial ?_
  refine awp_seq ?_
  refine awp_seq (awp_region ?_)
  refine aops_run 1 [1, 2, 9] [102] [(0 < 1)] ⟨66, [(1, .one (.ro (.ints .i64 f))), (2, .one (.ptr 102 0 0)), (9, .agg [(.int .i64 n), (.int .i64 s), (.int .i64 t), (.ro (.arcs es))])], [(102, .box 1 4 [(.int .i64 n), (.int .i64 s), (.int .i64 t), (.ro (.arcs es))])]⟩ hT (by kernel_rfl) (by kernel_rfl) ⟨(by decide), trivial⟩ ?_
  refine aops_pure false ⟨true, [], 7, [.agg [(.int .i64 n), (.int .i64 s), (.int .i64 t), (.ro (.arcs es))]], []⟩ [.agg [(.int .i64 n), (.int .i64 s), (.int .i64 t), (.ro (.arcs es))]] (.one (.int .i64 (netErr n s t es))) ⟨66, [(1, .one (.ro (.ints .i64 f))), (2, .one (.ptr 102 0 0)), (9, .agg [(.int .i64 n), (.int .i64 s), (.int .i64 t), (.ro (.arcs es))]), (10, .one (.int .i64 (netErr n s t es)))], [(102, .box 1 4 [(.int .i64 n), (.int .i64 s), (.int .i64 t), (.ro (.arcs es))])]⟩ (by kernel_rfl) (by kernel_rfl) (fun _ => trivial) rfl (fun _ => ref_NetErr n s t es) ?_
  refine aops_run 1 [1, 2, 5] [102] [] ⟨66, [(1, .one (.ro (.ints .i64 f))), (2, .one (.ptr 102 0 0)), (5, .one (.int .i64 (netErr n s t es)))], [(102, .box 1 4 [(.int .i64 n), (.int .i64 s), (.int .i64 t), (.ro (.arcs es))])]⟩ hT (by kernel_rfl) (by kernel_rfl) trivial ?_
  refine aops_end_seq (by kernel_rfl) ?_
  refine awp_run_seq [1, 2, 5, 12] [102] [] ⟨66, [(1, .one (.ro (.ints .i64 f))), (2, .one (.ptr 102 0 0)), (5, .one (.int .i64 (netErr n s t es))), (12, .one (.bool (decide ((netErr n s t es) ≠ 0))))], [(102, .box 1 4 [(.int .i64 n), (.int .i64 s), (.int .i64 t), (.ro (.arcs es))])]⟩ hT (by kernel_rfl) trivial ?_
  refine awp_cond (b := (decide ((netErr n s t es) ≠ 0))) (by kernel_rfl) (fun c2 => ?_) (fun c2 => ?_)
  · -- yes 2
    try simp only [bs] at c2
    refine awp_run_seq [4] [] [] ⟨66, [(4, .one (.int .i64 (netErr n s t es)))], []⟩ hT (by kernel_rfl) trivial ?_
    refine awp_ret ?_
    refine kRet.ret _ [] [] (.one (.int .i64 (netErr n s t es))) [] (by kernel_rfl) trivial ?_
    exact ⟨congrArg (fun x1 => (.one (.int .i64 x1) : AV)) (show (netErr n s t es) = (flowErr n s t es f) from by rw [flowErr, if_pos c2]), rfl⟩
  · -- no 2
    try simp only [bs] at c2
    have hE : netErr n s t es = 0 := by omega
    have hok := netErr_ok hE
    have h1 := hok.n1
    have h2 := hok.n2
    have h3 := hok.len
    have h4 := hok.s0
    have h5 := hok.s1
    have h6 := hok.t0
    have h7 := hok.t1
    refine awp_skip ?_
    refine awp_seq ?_
    refine awp_run_seq [1, 2, 19] [102] [(0 < 1)] ⟨66, [(1, .one (.ro (.ints .i64 f))), (2, .one (.ptr 102 0 0)), (19, .one (.bool (decide (((f.length : Nat) : Int) ≠ ((es.length : Nat) : Int)))))], [(102, .box 1 4 [(.int .i64 n), (.int .i64 s), (.int .i64 t), (.ro (.arcs es))])]⟩ hT (by kernel_rfl) ⟨(by decide), trivial⟩ ?_
    refine awp_cond (b := (decide (((f.length : Nat) : Int) ≠ ((es.length : Nat) : Int)))) (by kernel_rfl) (fun c4 => ?_) (fun c4 => ?_)
    · -- yes 4
      try simp only [bs] at c4
      refine awp_run_seq [4] [] [] ⟨66, [(4, .one (.int .i64 3))], []⟩ hT (by kernel_rfl) trivial ?_
      refine awp_ret ?_
      refine kRet.ret _ [] [] (.one (.int .i64 3)) [] (by kernel_rfl) trivial ?_
      exact ⟨congrArg (fun x1 => (.one (.int .i64 x1) : AV)) (show 3 = (flowErr n s t es f) from by rw [flowErr, if_neg c2, if_pos (by omega)]), rfl⟩
    · -- no 4
      try simp only [bs] at c4
      have hlen : f.length = es.length := by omega
      refine awp_skip ?_
      refine awp_seq ?_
      refine awp_run_seq [1, 2, 21, 22, 23] [102] [(0 < 1)] ⟨66, [(1, .one (.ro (.ints .i64 f))), (2, .one (.ptr 102 0 0)), (21, .one (.ro (.arcs es))), (22, .one (.int .i64 ((es.length : Nat) : Int))), (23, .one (.int .i64 0))], [(102, .box 1 4 [(.int .i64 n), (.int .i64 s), (.int .i64 t), (.ro (.arcs es))])]⟩ hT (by kernel_rfl) ⟨(by decide), trivial⟩ ?_
      refine awp_block ?_
      refine awp_loop (I := fun κ σ => ∃ (i : Nat), ((i ≤ es.length) ∧ (over (es.drop i) (f.drop i) = over es f) ∧ es.length - i = κ) ∧ σ = ⟨66, [(1, .one (.ro (.ints .i64 f))), (2, .one (.ptr 102 0 0)), (21, .one (.ro (.arcs es))), (22, .one (.int .i64 ((es.length : Nat) : Int))), (23, .one (.int .i64 ((i : Nat) : Int)))], [(102, .box 1 4 [(.int .i64 n), (.int .i64 s), (.int .i64 t), (.ro (.arcs es))])]⟩) _ ⟨0, ⟨(by omega), (by rfl), rfl⟩, (by kernel_rfl)⟩ ?_
      rintro κ _ ⟨i, ⟨hi, ho, rfl⟩, rfl⟩
      refine awp_run_seq [1, 2, 21, 22, 23, 24] [102] [] ⟨66, [(1, .one (.ro (.ints .i64 f))), (2, .one (.ptr 102 0 0)), (21, .one (.ro (.arcs es))), (22, .one (.int .i64 ((es.length : Nat) : Int))), (23, .one (.int .i64 ((i : Nat) : Int))), (24, .one (.bool (decide (((i : Nat) : Int) < ((es.length : Nat) : Int)))))], [(102, .box 1 4 [(.int .i64 n), (.int .i64 s), (.int .i64 t), (.ro (.arcs es))])]⟩ hT (by kernel_rfl) trivial ?_
      refine awp_seq ?_
      refine awp_cond (b := (decide (((i : Nat) : Int) < ((es.length : Nat) : Int)))) (by kernel_rfl) (fun c7 => ?_) (fun c7 => ?_)
      · -- yes 7
        try simp only [bs] at c7
        have hod := over_drop (i := i) (f := f) (by omega) hlen
        rw [ho] at hod
        refine awp_skip ?_
        refine awp_seq ?_
        refine awp_block ?_
        refine awp_run_seq [1, 2, 6, 7, 21, 22, 23] [102, 107] [((0 : Int) ≤ ((i : Nat) : Int)), (((i : Nat) : Int) < ((es.length : Nat) : Int)), (0 < 1)] ⟨66, [(1, .one (.ro (.ints .i64 f))), (2, .one (.ptr 102 0 0)), (6, .one (.int .i64 ((i : Nat) : Int))), (7, .one (.ptr 107 0 0)), (21, .one (.ro (.arcs es))), (22, .one (.int .i64 ((es.length : Nat) : Int))), (23, .one (.int .i64 ((i : Nat) : Int)))], [(102, .box 1 4 [(.int .i64 n), (.int .i64 s), (.int .i64 t), (.ro (.arcs es))]), (107, .box 1 3 [(.int .i64 ((List.getD es i default).src)), (.int .i64 ((List.getD es i default).dst)), (.int .i64 ((List.getD es i default).cap))])]⟩ hT (by kernel_rfl) ⟨(by first | omega | (simp only [lens]; omega) | (simp only [Bool.cond_decide]; omega) | (simp only [nadd_eq]; omega)), (by first | omega | (simp only [lens]; omega) | (simp only [Bool.cond_decide]; omega) | (simp only [nadd_eq]; omega)), (by decide), trivial⟩ ?_
        refine awp_seq (awp_still [1, 2, 21, 22, 23, 41] [102] [((0 : Int) ≤ ((i : Nat) : Int)), (((i : Nat) : Int) < ((f.length : Nat) : Int)), ((!(decide ((List.getD f i 0) < 0))) = true → ((!(decide ((List.getD f i 0) < 0))) = true → (!(decide ((List.getD f i 0) < 0))) = true)), ((!(decide ((List.getD f i 0) < 0))) = true → ((!(decide ((List.getD f i 0) < 0))) = true → (!(decide ((List.getD f i 0) < 0))) = true)), ((!(decide ((List.getD f i 0) < 0))) = true → ((0 : Int) ≤ ((i : Nat) : Int))), ((!(decide ((List.getD f i 0) < 0))) = true → (((i : Nat) : Int) < ((f.length : Nat) : Int))), ((!(decide ((List.getD f i 0) < 0))) = true → ((!(decide ((List.getD f i 0) < 0))) = true → (!(decide ((List.getD f i 0) < 0))) = true)), ((!(decide ((List.getD f i 0) < 0))) = true → ((!(decide ((List.getD f i 0) < 0))) = true → (!(decide ((List.getD f i 0) < 0))) = true)), ((!(decide ((List.getD f i 0) < 0))) = true → (0 < 1)), ((!(decide ((List.getD f i 0) < 0))) = true → ((!(decide ((List.getD f i 0) < 0))) = true → (!(decide ((List.getD f i 0) < 0))) = true)), ((!(decide ((List.getD f i 0) < 0))) = true → ((!(decide ((List.getD f i 0) < 0))) = true → (!(decide ((List.getD f i 0) < 0))) = true)), ((!(decide ((List.getD f i 0) < 0))) = true → (!(decide ((List.getD f i 0) < 0))) = true)] ⟨66, [(1, .one (.ro (.ints .i64 f))), (2, .one (.ptr 102 0 0)), (21, .one (.ro (.arcs es))), (22, .one (.int .i64 ((es.length : Nat) : Int))), (23, .one (.int .i64 ((i : Nat) : Int))), (41, .one (.bool ((decide ((List.getD f i 0) < 0)) || (decide (((List.getD es i default).cap) < (List.getD f i 0))))))], [(102, .box 1 4 [(.int .i64 n), (.int .i64 s), (.int .i64 t), (.ro (.arcs es))])]⟩ (by kernel_rfl) (by kernel_rfl) hT (by kernel_rfl) ⟨(by first | omega | (simp only [lens]; omega) | (simp only [Bool.cond_decide]; omega) | (simp only [nadd_eq]; omega)), (by first | omega | (simp only [lens]; omega) | (simp only [Bool.cond_decide]; omega) | (simp only [nadd_eq]; omega)), (by intro hg; first | exact hg | skip; (try simp only [bs] at hg ⊢); first | exact hg | first | omega | (simp only [lens]; omega) | (simp only [Bool.cond_decide]; omega) | (simp only [nadd_eq]; omega) | grind), (by intro hg; first | exact hg | skip; (try simp only [bs] at hg ⊢); first | exact hg | first | omega | (simp only [lens]; omega) | (simp only [Bool.cond_decide]; omega) | (simp only [nadd_eq]; omega) | grind), (by intro hg; first | exact hg | skip; (try simp only [bs] at hg); first | exact hg | first | omega | (simp only [lens]; omega) | (simp only [Bool.cond_decide]; omega) | (simp only [nadd_eq]; omega) | grind), (by intro hg; first | exact hg | skip; (try simp only [bs] at hg); first | exact hg | first | omega | (simp only [lens]; omega) | (simp only [Bool.cond_decide]; omega) | (simp only [nadd_eq]; omega) | grind), (by intro hg; first | exact hg | skip; (try simp only [bs] at hg ⊢); first | exact hg | first | omega | (simp only [lens]; omega) | (simp only [Bool.cond_decide]; omega) | (simp only [nadd_eq]; omega) | grind), (by intro hg; first | exact hg | skip; (try simp only [bs] at hg ⊢); first | exact hg | first | omega | (simp only [lens]; omega) | (simp only [Bool.cond_decide]; omega) | (simp only [nadd_eq]; omega) | grind), (by intro hg; first | exact hg | skip; (try simp only [bs] at hg); first | exact hg | first | omega | (simp only [lens]; omega) | (simp only [Bool.cond_decide]; omega) | (simp only [nadd_eq]; omega) | grind), (by intro hg; first | exact hg | skip; (try simp only [bs] at hg ⊢); first | exact hg | first | omega | (simp only [lens]; omega) | (simp only [Bool.cond_decide]; omega) | (simp only [nadd_eq]; omega) | grind), (by intro hg; first | exact hg | skip; (try simp only [bs] at hg ⊢); first | exact hg | first | omega | (simp only [lens]; omega) | (simp only [Bool.cond_decide]; omega) | (simp only [nadd_eq]; omega) | grind), (fun h => h), trivial⟩ ?_)
        refine awp_cond (b := ((decide ((List.getD f i 0) < 0)) || (decide (((List.getD es i default).cap) < (List.getD f i 0))))) (by kernel_rfl) (fun c9 => ?_) (fun c9 => ?_)
        · -- yes 9
          try simp only [bs] at c9
          have hov : over es f = true := by rw [hod]; simp only [bs]; omega
          refine awp_run_seq [4] [] [] ⟨66, [(4, .one (.int .i64 7))], []⟩ hT (by kernel_rfl) trivial ?_
          refine awp_ret ?_
          refine kRet.ret _ [] [] (.one (.int .i64 7)) [] (by kernel_rfl) trivial ?_
          exact ⟨congrArg (fun x1 => (.one (.int .i64 x1) : AV)) (show 7 = (flowErr n s t es f) from by rw [flowErr, if_neg c2, if_neg (by omega), if_pos hov]), rfl⟩
        · -- no 9
          try simp only [bs] at c9
          have hstep : over (es.drop (i + 1)) (f.drop (i + 1)) = over es f := by rw [hod]; simp only [show decide (f.getD i 0 < 0) = false from by simp only [bs]; omega, show decide ((es.getD i default).cap < f.getD i 0) = false from by simp only [bs]; omega, Bool.false_or]
          refine awp_skip ?_
          refine awp_run [1, 2, 21, 22, 23] [102] [(-9223372036854775808 ≤ (((i + 1) : Nat) : Int) ∧ (((i + 1) : Nat) : Int) ≤ 9223372036854775807)] ⟨66, [(1, .one (.ro (.ints .i64 f))), (2, .one (.ptr 102 0 0)), (21, .one (.ro (.arcs es))), (22, .one (.int .i64 ((es.length : Nat) : Int))), (23, .one (.int .i64 (((i + 1) : Nat) : Int)))], [(102, .box 1 4 [(.int .i64 n), (.int .i64 s), (.int .i64 t), (.ro (.arcs es))])]⟩ hT (by kernel_rfl) ⟨(by first | omega | (simp only [lens]; omega) | (simp only [Bool.cond_decide]; omega) | (simp only [nadd_eq]; omega)), trivial⟩ ?_
          refine loop_end _ ?_ ⟨(i + 1), ⟨(by omega), (by omega), rfl⟩, (by kernel_rfl)⟩
          omega
      · -- no 7
        try simp only [bs] at c7
        have hov : over es f = false := by rw [← ho]; exact over_end (by omega)
        have hin := over_in hlen hov
        have hf10 : ∀ k, k < es.length → 0 ≤ f.getD k 0 ∧ f.getD k 0 ≤ 10000 := fun k hk => by have h1 := hin.at_ k hk; obtain ⟨_, _, _, _, _, h2⟩ := hok.at_ hk; omega
        refine awp_exit ?_
        refine awp_seq ?_
        refine awp_run_seq [1, 2, 44, 45] [102] [(0 < 1)] ⟨66, [(1, .one (.ro (.ints .i64 f))), (2, .one (.ptr 102 0 0)), (44, .one (.int .i64 n)), (45, .one (.int .i64 0))], [(102, .box 1 4 [(.int .i64 n), (.int .i64 s), (.int .i64 t), (.ro (.arcs es))])]⟩ hT (by kernel_rfl) ⟨(by decide), trivial⟩ ?_
        refine awp_block ?_
        refine awp_loop (I := fun κ σ => ∃ (k : Nat), ((k ≤ n.toNat) ∧ (∀ j, j < k → (j : Int) ≠ s → (j : Int) ≠ t → gone es f (j : Int) = 0) ∧ n.toNat - k = κ) ∧ σ = ⟨66, [(1, .one (.ro (.ints .i64 f))), (2, .one (.ptr 102 0 0)), (44, .one (.int .i64 n)), (45, .one (.int .i64 ((k : Nat) : Int)))], [(102, .box 1 4 [(.int .i64 n), (.int .i64 s), (.int .i64 t), (.ro (.arcs es))])]⟩) _ ⟨0, ⟨(by omega), (by intro j hj; omega), rfl⟩, (by kernel_rfl)⟩ ?_
        rintro κ _ ⟨k, ⟨hk, hl, rfl⟩, rfl⟩
        refine awp_run_seq [1, 2, 44, 45, 46] [102] [] ⟨66, [(1, .one (.ro (.ints .i64 f))), (2, .one (.ptr 102 0 0)), (44, .one (.int .i64 n)), (45, .one (.int .i64 ((k : Nat) : Int))), (46, .one (.bool (decide (((k : Nat) : Int) < n))))], [(102, .box 1 4 [(.int .i64 n), (.int .i64 s), (.int .i64 t), (.ro (.arcs es))])]⟩ hT (by kernel_rfl) trivial ?_
        refine awp_seq ?_
        refine awp_cond (b := (decide (((k : Nat) : Int) < n))) (by kernel_rfl) (fun c13 => ?_) (fun c13 => ?_)
        · -- yes 13
          try simp only [bs] at c13
          refine awp_skip ?_
          refine awp_seq ?_
          refine awp_block ?_
          refine awp_run_seq [1, 2, 8, 44, 45] [102] [] ⟨66, [(1, .one (.ro (.ints .i64 f))), (2, .one (.ptr 102 0 0)), (8, .one (.int .i64 ((k : Nat) : Int))), (44, .one (.int .i64 n)), (45, .one (.int .i64 ((k : Nat) : Int)))], [(102, .box 1 4 [(.int .i64 n), (.int .i64 s), (.int .i64 t), (.ro (.arcs es))])]⟩ hT (by kernel_rfl) trivial ?_
          refine awp_seq (awp_region ?_)
          refine aops_run 14 [1, 2, 44, 45, 58, 59, 60, 61] [102] [(0 < 1), ((decide (((k : Nat) : Int) ≠ s)) = true → ((decide (((k : Nat) : Int) ≠ s)) = true → (decide (((k : Nat) : Int) ≠ s)) = true)), ((decide (((k : Nat) : Int) ≠ s)) = true → (0 < 1)), ((decide (((k : Nat) : Int) ≠ s)) = true → ((decide (((k : Nat) : Int) ≠ s)) = true → (decide (((k : Nat) : Int) ≠ s)) = true)), ((decide (((k : Nat) : Int) ≠ s)) = true → ((decide (((k : Nat) : Int) ≠ s)) = true → (decide (((k : Nat) : Int) ≠ s)) = true)), ((decide (((k : Nat) : Int) ≠ s)) = true → (decide (((k : Nat) : Int) ≠ s)) = true), (((decide (((k : Nat) : Int) ≠ s)) && (decide (((k : Nat) : Int) ≠ t))) = true → (0 < 1))] ⟨66, [(1, .one (.ro (.ints .i64 f))), (2, .one (.ptr 102 0 0)), (44, .one (.int .i64 n)), (45, .one (.int .i64 ((k : Nat) : Int))), (58, .one (.bool ((decide (((k : Nat) : Int) ≠ s)) && (decide (((k : Nat) : Int) ≠ t))))), (59, .whn ((decide (((k : Nat) : Int) ≠ s)) && (decide (((k : Nat) : Int) ≠ t))) (.agg [(.int .i64 n), (.int .i64 s), (.int .i64 t), (.ro (.arcs es))])), (60, .whn ((decide (((k : Nat) : Int) ≠ s)) && (decide (((k : Nat) : Int) ≠ t))) (.one (.ro (.ints .i64 f)))), (61, .whn ((decide (((k : Nat) : Int) ≠ s)) && (decide (((k : Nat) : Int) ≠ t))) (.one (.int .i64 ((k : Nat) : Int))))], [(102, .box 1 4 [(.int .i64 n), (.int .i64 s), (.int .i64 t), (.ro (.arcs es))])]⟩ hT (by kernel_rfl) (by kernel_rfl) ⟨(by decide), (by intro hg; first | exact hg | skip; (try simp only [bs] at hg ⊢); first | exact hg | first | omega | (simp only [lens]; omega) | (simp only [Bool.cond_decide]; omega) | (simp only [nadd_eq]; omega) | grind), (by intro hg; first | exact hg | skip; (try simp only [bs] at hg); first | exact hg | first | omega | (simp only [lens]; omega) | (simp only [Bool.cond_decide]; omega) | (simp only [nadd_eq]; omega) | grind), (by intro hg; first | exact hg | skip; (try simp only [bs] at hg ⊢); first | exact hg | first | omega | (simp only [lens]; omega) | (simp only [Bool.cond_decide]; omega) | (simp only [nadd_eq]; omega) | grind), (by intro hg; first | exact hg | skip; (try simp only [bs] at hg ⊢); first | exact hg | first | omega | (simp only [lens]; omega) | (simp only [Bool.cond_decide]; omega) | (simp only [nadd_eq]; omega) | grind), (fun h => h), (by intro hg; first | exact hg | skip; (try simp only [bs] at hg); first | exact hg | first | omega | (simp only [lens]; omega) | (simp only [Bool.cond_decide]; omega) | (simp only [nadd_eq]; omega) | grind), trivial⟩ ?_
          refine aops_pure false ⟨((decide (((k : Nat) : Int) ≠ s)) && (decide (((k : Nat) : Int) ≠ t))), [(((decide (((k : Nat) : Int) ≠ s)) && (decide (((k : Nat) : Int) ≠ t))) = true → ((decide (((k : Nat) : Int) ≠ s)) && (decide (((k : Nat) : Int) ≠ t))) = true), (((decide (((k : Nat) : Int) ≠ s)) && (decide (((k : Nat) : Int) ≠ t))) = true → ((decide (((k : Nat) : Int) ≠ s)) && (decide (((k : Nat) : Int) ≠ t))) = true), (((decide (((k : Nat) : Int) ≠ s)) && (decide (((k : Nat) : Int) ≠ t))) = true → ((decide (((k : Nat) : Int) ≠ s)) && (decide (((k : Nat) : Int) ≠ t))) = true)], 28, [.agg [(.int .i64 n), (.int .i64 s), (.int .i64 t), (.ro (.arcs es))], .one (.ro (.ints .i64 f)), .one (.int .i64 ((k : Nat) : Int))], []⟩ [.agg [(.int .i64 n), (.int .i64 s), (.int .i64 t), (.ro (.arcs es))], .one (.ro (.ints .i64 f)), .one (.int .i64 ((k : Nat) : Int))] (.one (.int .i64 (gone es f ((k : Nat) : Int)))) ⟨66, [(1, .one (.ro (.ints .i64 f))), (2, .one (.ptr 102 0 0)), (44, .one (.int .i64 n)), (45, .one (.int .i64 ((k : Nat) : Int))), (58, .one (.bool ((decide (((k : Nat) : Int) ≠ s)) && (decide (((k : Nat) : Int) ≠ t))))), (59, .whn ((decide (((k : Nat) : Int) ≠ s)) && (decide (((k : Nat) : Int) ≠ t))) (.agg [(.int .i64 n), (.int .i64 s), (.int .i64 t), (.ro (.arcs es))])), (60, .whn ((decide (((k : Nat) : Int) ≠ s)) && (decide (((k : Nat) : Int) ≠ t))) (.one (.ro (.ints .i64 f)))), (61, .whn ((decide (((k : Nat) : Int) ≠ s)) && (decide (((k : Nat) : Int) ≠ t))) (.one (.int .i64 ((k : Nat) : Int)))), (62, .whn ((decide (((k : Nat) : Int) ≠ s)) && (decide (((k : Nat) : Int) ≠ t))) (.one (.int .i64 (gone es f ((k : Nat) : Int)))))], [(102, .box 1 4 [(.int .i64 n), (.int .i64 s), (.int .i64 t), (.ro (.arcs es))])]⟩ (by kernel_rfl) (by kernel_rfl) (fun _ => ⟨(fun h => h), (fun h => h), (fun h => h), trivial⟩) rfl (fun _ => ref_gone n s t es f ((k : Nat) : Int) (by assumption) (by assumption) (by assumption)) ?_
          refine aops_run 2 [1, 2, 44, 45, 64] [102] [(((decide (((k : Nat) : Int) ≠ s)) && (decide (((k : Nat) : Int) ≠ t))) = true → (((decide (((k : Nat) : Int) ≠ s)) && (decide (((k : Nat) : Int) ≠ t))) = true → ((decide (((k : Nat) : Int) ≠ s)) && (decide (((k : Nat) : Int) ≠ t))) = true)), (((decide (((k : Nat) : Int) ≠ s)) && (decide (((k : Nat) : Int) ≠ t))) = true → ((decide (((k : Nat) : Int) ≠ s)) && (decide (((k : Nat) : Int) ≠ t))) = true)] ⟨66, [(1, .one (.ro (.ints .i64 f))), (2, .one (.ptr 102 0 0)), (44, .one (.int .i64 n)), (45, .one (.int .i64 ((k : Nat) : Int))), (64, .one (.bool (((decide (((k : Nat) : Int) ≠ s)) && (decide (((k : Nat) : Int) ≠ t))) && (decide ((gone es f ((k : Nat) : Int)) ≠ 0)))))], [(102, .box 1 4 [(.int .i64 n), (.int .i64 s), (.int .i64 t), (.ro (.arcs es))])]⟩ hT (by kernel_rfl) (by kernel_rfl) ⟨(by intro hg; first | exact hg | skip; (try simp only [bs] at hg ⊢); first | exact hg | first | omega | (simp only [lens]; omega) | (simp only [Bool.cond_decide]; omega) | (simp only [nadd_eq]; omega) | grind), (fun h => h), trivial⟩ ?_
          refine aops_end_seq (by kernel_rfl) ?_
          refine awp_cond (b := (((decide (((k : Nat) : Int) ≠ s)) && (decide (((k : Nat) : Int) ≠ t))) && (decide ((gone es f ((k : Nat) : Int)) ≠ 0)))) (by kernel_rfl) (fun c15 => ?_) (fun c15 => ?_)
          · -- yes 15
            try simp only [bs] at c15
            refine awp_run_seq [4] [] [] ⟨66, [(4, .one (.int .i64 8))], []⟩ hT (by kernel_rfl) trivial ?_
            refine awp_ret ?_
            refine kRet.ret _ [] [] (.one (.int .i64 8)) [] (by kernel_rfl) trivial ?_
            exact ⟨congrArg (fun x1 => (.one (.int .i64 x1) : AV)) (show 8 = (flowErr n s t es f) from by rw [flowErr, if_neg c2, if_neg (by omega), if_neg (by rw [hov]; decide), if_pos ⟨k, by omega, by omega, by omega, by omega⟩]), rfl⟩
          · -- no 15
            try simp only [bs] at c15
            refine awp_skip ?_
            refine awp_run [1, 2, 44, 45] [102] [(-9223372036854775808 ≤ (((k + 1) : Nat) : Int) ∧ (((k + 1) : Nat) : Int) ≤ 9223372036854775807)] ⟨66, [(1, .one (.ro (.ints .i64 f))), (2, .one (.ptr 102 0 0)), (44, .one (.int .i64 n)), (45, .one (.int .i64 (((k + 1) : Nat) : Int)))], [(102, .box 1 4 [(.int .i64 n), (.int .i64 s), (.int .i64 t), (.ro (.arcs es))])]⟩ hT (by kernel_rfl) ⟨(by first | omega | (simp only [lens]; omega) | (simp only [Bool.cond_decide]; omega) | (simp only [nadd_eq]; omega)), trivial⟩ ?_
            refine loop_end _ ?_ ⟨(k + 1), ⟨(by omega), (by intro j hj hjs hjt; rcases Nat.lt_succ_iff_lt_or_eq.1 hj with h | h; exact hl j h hjs hjt; subst h; omega), rfl⟩, (by kernel_rfl)⟩
            omega
        · -- no 13
          try simp only [bs] at c13
          refine awp_exit ?_
          refine awp_run_seq [4] [] [] ⟨66, [(4, .one (.int .i64 0))], []⟩ hT (by kernel_rfl) trivial ?_
          refine awp_ret ?_
          refine kRet.ret _ [] [] (.one (.int .i64 0)) [] (by kernel_rfl) trivial ?_
          exact ⟨congrArg (fun x1 => (.one (.int .i64 x1) : AV)) (show 0 = (flowErr n s t es f) from by rw [flowErr, if_neg c2, if_neg (by omega), if_neg (by rw [hov]; decide), if_neg (by rintro ⟨j, j1, j2, j3, j4⟩; exact j4 (hl j (by omega) j2 j3))]), rfl⟩

end Go.Ab
