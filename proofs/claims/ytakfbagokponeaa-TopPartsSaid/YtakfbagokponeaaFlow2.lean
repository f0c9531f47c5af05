/- Of flows: the check. -/
import Derived.Test.YtakfbagokponeaaTab
import Derived.Test.YtakfbagokponeaaG1
set_option maxRecDepth 100000
namespace Go.Ab
open Go Go.Proofs
theorem flow_check (n s t : Int) (es : List Arc) (f : List Int) : ACall Try.prog 130 [.agg [(.int .i64 n), (.int .i64 s), (.int .i64 t), (.ro (.arcs es))], .one (.ro (.ints .i64 f))] [] (fun ov oh => ov = .one (.int .i64 (flowErr n s t es f)) ∧ oh = []) := by
  refine acall_intro hT Try.func130 rfl (by kernel_rfl) rfl (by kernel_rfl) ?_
  refine awp_run_seq [1, 2] [102] [] ⟨84, [(1, .one (.ro (.ints .i64 f))), (2, .one (.ptr 102 0 0))], [(102, .box 1 4 [(.int .i64 n), (.int .i64 s), (.int .i64 t), (.ro (.arcs es))])]⟩ hT (by kernel_rfl) trivial ?_
  refine awp_seq ?_
  refine awp_seq (awp_region ?_)
  refine aops_run 1 [1, 2, 11] [102] [(0 < 1)] ⟨84, [(1, .one (.ro (.ints .i64 f))), (2, .one (.ptr 102 0 0)), (11, .agg [(.int .i64 n), (.int .i64 s), (.int .i64 t), (.ro (.arcs es))])], [(102, .box 1 4 [(.int .i64 n), (.int .i64 s), (.int .i64 t), (.ro (.arcs es))])]⟩ hT (by kernel_rfl) (by kernel_rfl) ⟨(by decide), trivial⟩ ?_
  refine aops_pure false ⟨true, [], 57, [.agg [(.int .i64 n), (.int .i64 s), (.int .i64 t), (.ro (.arcs es))]], []⟩ [.agg [(.int .i64 n), (.int .i64 s), (.int .i64 t), (.ro (.arcs es))]] (.one (.int .i64 (netErr n s t es))) ⟨84, [(1, .one (.ro (.ints .i64 f))), (2, .one (.ptr 102 0 0)), (11, .agg [(.int .i64 n), (.int .i64 s), (.int .i64 t), (.ro (.arcs es))]), (12, .one (.int .i64 (netErr n s t es)))], [(102, .box 1 4 [(.int .i64 n), (.int .i64 s), (.int .i64 t), (.ro (.arcs es))])]⟩ (by kernel_rfl) (by kernel_rfl) (fun _ => trivial) rfl (fun _ => graph_CheckNet n s t es) ?_
  refine aops_run 1 [1, 2, 5] [102] [] ⟨84, [(1, .one (.ro (.ints .i64 f))), (2, .one (.ptr 102 0 0)), (5, .one (.int .i64 (netErr n s t es)))], [(102, .box 1 4 [(.int .i64 n), (.int .i64 s), (.int .i64 t), (.ro (.arcs es))])]⟩ hT (by kernel_rfl) (by kernel_rfl) trivial ?_
  refine aops_end_seq (by kernel_rfl) ?_
  refine awp_run_seq [1, 2, 5, 14] [102] [] ⟨84, [(1, .one (.ro (.ints .i64 f))), (2, .one (.ptr 102 0 0)), (5, .one (.int .i64 (netErr n s t es))), (14, .one (.bool (decide ((netErr n s t es) ≠ 0))))], [(102, .box 1 4 [(.int .i64 n), (.int .i64 s), (.int .i64 t), (.ro (.arcs es))])]⟩ hT (by kernel_rfl) trivial ?_
  refine awp_cond (b := (decide ((netErr n s t es) ≠ 0))) (by kernel_rfl) (fun c2 => ?_) (fun c2 => ?_)
  ·
    try simp only [bs] at c2
    refine awp_run_seq [4] [] [] ⟨84, [(4, .one (.int .i64 (netErr n s t es)))], []⟩ hT (by kernel_rfl) trivial ?_
    refine awp_ret ?_
    refine kRet.ret _ [] [] (.one (.int .i64 (netErr n s t es))) [] (by kernel_rfl) trivial ?_
    exact ⟨congrArg (fun x1 => (.one (.int .i64 x1) : AV)) (show (netErr n s t es) = (flowErr n s t es f) from by rw [flowErr, if_pos c2]), rfl⟩
  ·
    try simp only [bs] at c2
    have hE : netErr n s t es = 0 := by omega
    have hok := netErr_ok hE
    have h1 := hok.n1
    have h2 := hok.n2
    have h3 := hok.len
    have h4 := hok.s0
    have h5 := hok.s1
    have h6 := hok.t0
    have h7 := hok.t1
    refine awp_skip ?_
    refine awp_seq ?_
    refine awp_run_seq [1, 2, 21] [102] [(0 < 1)] ⟨84, [(1, .one (.ro (.ints .i64 f))), (2, .one (.ptr 102 0 0)), (21, .one (.bool (decide (((f.length : Nat) : Int) ≠ ((es.length : Nat) : Int)))))], [(102, .box 1 4 [(.int .i64 n), (.int .i64 s), (.int .i64 t), (.ro (.arcs es))])]⟩ hT (by kernel_rfl) ⟨(by decide), trivial⟩ ?_
    refine awp_cond (b := (decide (((f.length : Nat) : Int) ≠ ((es.length : Nat) : Int)))) (by kernel_rfl) (fun c4 => ?_) (fun c4 => ?_)
    ·
      try simp only [bs] at c4
      refine awp_run_seq [4] [] [] ⟨84, [(4, .one (.int .i64 3))], []⟩ hT (by kernel_rfl) trivial ?_
      refine awp_ret ?_
      refine kRet.ret _ [] [] (.one (.int .i64 3)) [] (by kernel_rfl) trivial ?_
      exact ⟨congrArg (fun x1 => (.one (.int .i64 x1) : AV)) (show 3 = (flowErr n s t es f) from by rw [flowErr, if_neg c2, if_pos (by omega)]), rfl⟩
    ·
      try simp only [bs] at c4
      have hlen : f.length = es.length := by omega
      refine awp_skip ?_
      refine awp_run_seq [1, 2, 6] [102, 106] [] ⟨84, [(1, .one (.ro (.ints .i64 f))), (2, .one (.ptr 102 0 0)), (6, .one (.ptr 106 0 0))], [(102, .box 1 4 [(.int .i64 n), (.int .i64 s), (.int .i64 t), (.ro (.arcs es))]), (106, .flat (.ints .i64 [0, 0, 0, 0, 0, 0, 0, 0, 0, 0, 0, 0]))]⟩ hT (by kernel_rfl) trivial ?_
      refine awp_seq ?_
      refine awp_run_seq [2, 6, 22, 23, 24] [102, 106] [] ⟨84, [(2, .one (.ptr 102 0 0)), (6, .one (.ptr 106 0 0)), (22, .one (.ro (.ints .i64 f))), (23, .one (.int .i64 ((f.length : Nat) : Int))), (24, .one (.int .i64 0))], [(102, .box 1 4 [(.int .i64 n), (.int .i64 s), (.int .i64 t), (.ro (.arcs es))]), (106, .flat (.ints .i64 [0, 0, 0, 0, 0, 0, 0, 0, 0, 0, 0, 0]))]⟩ hT (by kernel_rfl) trivial ?_
      refine awp_block ?_
      refine awp_loop (I := fun κ σ => ∃ (i : Nat) (m : List Int), ((i ≤ es.length) ∧ (over (es.drop i) (f.drop i) = over es f) ∧ (m.length = 12) ∧ (∀ k, k < 12 → m.getD k 0 = gone (es.drop i) (f.drop i) (k : Int) - gone es f (k : Int)) ∧ (∀ k, -(10000 * (i : Int)) ≤ m.getD k 0 ∧ m.getD k 0 ≤ 10000 * (i : Int)) ∧ es.length - i = κ) ∧ σ = ⟨84, [(2, .one (.ptr 102 0 0)), (6, .one (.ptr 106 0 0)), (22, .one (.ro (.ints .i64 f))), (23, .one (.int .i64 ((f.length : Nat) : Int))), (24, .one (.int .i64 (i : Int)))], [(102, .box 1 4 [(.int .i64 n), (.int .i64 s), (.int .i64 t), (.ro (.arcs es))]), (106, .flat (.ints .i64 m))]⟩) _ ⟨0, [0, 0, 0, 0, 0, 0, 0, 0, 0, 0, 0, 0], ⟨(by omega), (by rfl), (by rfl), (by intro k hk; rw [getD_zeros12]; simp), (by intro k; rw [getD_zeros12]; simp), rfl⟩, (by kernel_rfl)⟩ ?_
      rintro κ _ ⟨i, m, ⟨hi, ho, hm, hg, hb, rfl⟩, rfl⟩
      refine awp_run_seq [2, 6, 22, 23, 24, 25] [102, 106] [] ⟨84, [(2, .one (.ptr 102 0 0)), (6, .one (.ptr 106 0 0)), (22, .one (.ro (.ints .i64 f))), (23, .one (.int .i64 ((f.length : Nat) : Int))), (24, .one (.int .i64 (i : Int))), (25, .one (.bool (decide ((i : Int) < ((f.length : Nat) : Int)))))], [(102, .box 1 4 [(.int .i64 n), (.int .i64 s), (.int .i64 t), (.ro (.arcs es))]), (106, .flat (.ints .i64 m))]⟩ hT (by kernel_rfl) trivial ?_
      refine awp_seq ?_
      refine awp_cond (b := (decide ((i : Int) < ((f.length : Nat) : Int)))) (by kernel_rfl) (fun c8 => ?_) (fun c8 => ?_)
      ·
        try simp only [bs] at c8
        have ci : i < es.length := by omega
        have hod := over_drop (i := i) (f := f) ci hlen
        rw [ho] at hod
        obtain ⟨a1, a2, a3, a4, a5, a6⟩ := hok.at_ ci
        have h12 : n ≤ 12 := h2
        refine awp_skip ?_
        refine awp_seq ?_
        refine awp_block ?_
        refine awp_run_seq [2, 6, 7, 8, 22, 23, 24] [102, 106] [((0 : Int) ≤ (i : Int)), ((i : Int) < ((f.length : Nat) : Int))] ⟨84, [(2, .one (.ptr 102 0 0)), (6, .one (.ptr 106 0 0)), (7, .one (.int .i64 (i : Int))), (8, .one (.int .i64 (List.getD f i 0))), (22, .one (.ro (.ints .i64 f))), (23, .one (.int .i64 ((f.length : Nat) : Int))), (24, .one (.int .i64 (i : Int)))], [(102, .box 1 4 [(.int .i64 n), (.int .i64 s), (.int .i64 t), (.ro (.arcs es))]), (106, .flat (.ints .i64 m))]⟩ hT (by kernel_rfl) ⟨(by omega), (by omega), trivial⟩ ?_
        refine awp_seq ?_
        refine awp_run_seq [2, 6, 7, 8, 22, 23, 24, 40] [102, 106] [((!(decide ((List.getD f i 0) < 0))) = true → ((!(decide ((List.getD f i 0) < 0))) = true → (!(decide ((List.getD f i 0) < 0))) = true)), ((!(decide ((List.getD f i 0) < 0))) = true → (0 < 1)), ((!(decide ((List.getD f i 0) < 0))) = true → ((!(decide ((List.getD f i 0) < 0))) = true → (!(decide ((List.getD f i 0) < 0))) = true)), ((!(decide ((List.getD f i 0) < 0))) = true → ((!(decide ((List.getD f i 0) < 0))) = true → (!(decide ((List.getD f i 0) < 0))) = true)), ((!(decide ((List.getD f i 0) < 0))) = true → ((0 : Int) ≤ (i : Int))), ((!(decide ((List.getD f i 0) < 0))) = true → ((i : Int) < ((es.length : Nat) : Int))), ((!(decide ((List.getD f i 0) < 0))) = true → ((!(decide ((List.getD f i 0) < 0))) = true → (!(decide ((List.getD f i 0) < 0))) = true)), ((!(decide ((List.getD f i 0) < 0))) = true → ((!(decide ((List.getD f i 0) < 0))) = true → (!(decide ((List.getD f i 0) < 0))) = true)), ((!(decide ((List.getD f i 0) < 0))) = true → ((!(decide ((List.getD f i 0) < 0))) = true → (!(decide ((List.getD f i 0) < 0))) = true)), ((!(decide ((List.getD f i 0) < 0))) = true → ((!(decide ((List.getD f i 0) < 0))) = true → (!(decide ((List.getD f i 0) < 0))) = true)), ((!(decide ((List.getD f i 0) < 0))) = true → (!(decide ((List.getD f i 0) < 0))) = true)] ⟨84, [(2, .one (.ptr 102 0 0)), (6, .one (.ptr 106 0 0)), (7, .one (.int .i64 (i : Int))), (8, .one (.int .i64 (List.getD f i 0))), (22, .one (.ro (.ints .i64 f))), (23, .one (.int .i64 ((f.length : Nat) : Int))), (24, .one (.int .i64 (i : Int))), (40, .one (.bool ((decide ((List.getD f i 0) < 0)) || (decide (((List.getD es i default).cap) < (List.getD f i 0))))))], [(102, .box 1 4 [(.int .i64 n), (.int .i64 s), (.int .i64 t), (.ro (.arcs es))]), (106, .flat (.ints .i64 m))]⟩ hT (by kernel_rfl) ⟨(by intro hg; first | exact hg | skip; (try simp only [bs] at hg ⊢); first | exact hg | first | omega | (simp only [lens]; omega) | (simp only [Bool.cond_decide]; omega) | (simp only [nadd_eq]; omega) | grind), (by intro hg; first | exact hg | skip; (try simp only [bs] at hg); first | exact hg | first | omega | (simp only [lens]; omega) | (simp only [Bool.cond_decide]; omega) | (simp only [nadd_eq]; omega) | grind), (by intro hg; first | exact hg | skip; (try simp only [bs] at hg ⊢); first | exact hg | first | omega | (simp only [lens]; omega) | (simp only [Bool.cond_decide]; omega) | (simp only [nadd_eq]; omega) | grind), (by intro hg; first | exact hg | skip; (try simp only [bs] at hg ⊢); first | exact hg | first | omega | (simp only [lens]; omega) | (simp only [Bool.cond_decide]; omega) | (simp only [nadd_eq]; omega) | grind), (by intro hg; first | exact hg | skip; (try simp only [bs] at hg); first | exact hg | first | omega | (simp only [lens]; omega) | (simp only [Bool.cond_decide]; omega) | (simp only [nadd_eq]; omega) | grind), (by intro hg; first | exact hg | skip; (try simp only [bs] at hg); first | exact hg | first | omega | (simp only [lens]; omega) | (simp only [Bool.cond_decide]; omega) | (simp only [nadd_eq]; omega) | grind), (by intro hg; first | exact hg | skip; (try simp only [bs] at hg ⊢); first | exact hg | first | omega | (simp only [lens]; omega) | (simp only [Bool.cond_decide]; omega) | (simp only [nadd_eq]; omega) | grind), (by intro hg; first | exact hg | skip; (try simp only [bs] at hg ⊢); first | exact hg | first | omega | (simp only [lens]; omega) | (simp only [Bool.cond_decide]; omega) | (simp only [nadd_eq]; omega) | grind), (by intro hg; first | exact hg | skip; (try simp only [bs] at hg ⊢); first | exact hg | first | omega | (simp only [lens]; omega) | (simp only [Bool.cond_decide]; omega) | (simp only [nadd_eq]; omega) | grind), (by intro hg; first | exact hg | skip; (try simp only [bs] at hg ⊢); first | exact hg | first | omega | (simp only [lens]; omega) | (simp only [Bool.cond_decide]; omega) | (simp only [nadd_eq]; omega) | grind), (fun h => h), trivial⟩ ?_
        refine awp_cond (b := ((decide ((List.getD f i 0) < 0)) || (decide (((List.getD es i default).cap) < (List.getD f i 0))))) (by kernel_rfl) (fun c10 => ?_) (fun c10 => ?_)
        ·
          try simp only [bs] at c10
          have hov : over es f = true := by rw [hod]; simp only [bs]; omega
          refine awp_run_seq [4] [] [] ⟨84, [(4, .one (.int .i64 7))], []⟩ hT (by kernel_rfl) trivial ?_
          refine awp_ret ?_
          refine kRet.ret _ [] [] (.one (.int .i64 7)) [] (by kernel_rfl) trivial ?_
          exact ⟨congrArg (fun x1 => (.one (.int .i64 x1) : AV)) (show 7 = (flowErr n s t es f) from by rw [flowErr, if_neg c2, if_neg (by omega), if_pos hov]), rfl⟩
        ·
          try simp only [bs] at c10
          have hstep : over (es.drop (i + 1)) (f.drop (i + 1)) = over es f := by rw [hod]; simp only [show decide (f.getD i 0 < 0) = false from by simp only [bs]; omega, show decide ((es.getD i default).cap < f.getD i 0) = false from by simp only [bs]; omega, Bool.false_or]
          have x0 : 0 ≤ f.getD i 0 := by omega
          have x1 : f.getD i 0 ≤ 10000 := by omega
          have hb1 := hb (es.getD i default).src.toNat
          have hb2 : -(10000 * (i : Int)) - 10000 ≤ (m.set (es.getD i default).src.toNat (m.getD (es.getD i default).src.toNat 0 - f.getD i 0)).getD (es.getD i default).dst.toNat 0 ∧ (m.set (es.getD i default).src.toNat (m.getD (es.getD i default).src.toNat 0 - f.getD i 0)).getD (es.getD i default).dst.toNat 0 ≤ 10000 * (i : Int) + 10000 := by
            rw [set1_get _ _ _ _ (by omega)]
            have := hb (es.getD i default).dst.toNat
            split <;> omega
          refine awp_skip ?_
          refine awp_run_seq [2, 6, 7, 8, 22, 23, 24] [102, 106] [(0 < 1), ((0 : Int) ≤ (i : Int)), ((i : Int) < ((es.length : Nat) : Int)), ((0 : Int) ≤ ((List.getD es i default).src)), (((List.getD es i default).src) < 12), ((Int.toNat ((List.getD es i default).src)) < m.length), (-9223372036854775808 ≤ ((List.getD m (Int.toNat ((List.getD es i default).src)) 0) - (List.getD f i 0)) ∧ ((List.getD m (Int.toNat ((List.getD es i default).src)) 0) - (List.getD f i 0)) ≤ 9223372036854775807), ((0 : Int) ≤ ((List.getD es i default).src)), (((List.getD es i default).src) < 12), ((Int.toNat ((List.getD es i default).src)) < m.length)] ⟨84, [(2, .one (.ptr 102 0 0)), (6, .one (.ptr 106 0 0)), (7, .one (.int .i64 (i : Int))), (8, .one (.int .i64 (List.getD f i 0))), (22, .one (.ro (.ints .i64 f))), (23, .one (.int .i64 ((f.length : Nat) : Int))), (24, .one (.int .i64 (i : Int)))], [(102, .box 1 4 [(.int .i64 n), (.int .i64 s), (.int .i64 t), (.ro (.arcs es))]), (106, .flat (.ints .i64 (List.set m (Int.toNat ((List.getD es i default).src)) ((List.getD m (Int.toNat ((List.getD es i default).src)) 0) - (List.getD f i 0)))))]⟩ hT (by kernel_rfl) ⟨(by decide), (by omega), (by omega), (by omega), (by omega), (by omega), (by omega), (by omega), (by omega), (by omega), trivial⟩ ?_
          refine awp_run [2, 6, 22, 23, 24] [102, 106] [(0 < 1), ((0 : Int) ≤ (i : Int)), ((i : Int) < ((es.length : Nat) : Int)), ((0 : Int) ≤ ((List.getD es i default).dst)), (((List.getD es i default).dst) < 12), ((Int.toNat ((List.getD es i default).dst)) < (List.length (List.set m (Int.toNat ((List.getD es i default).src)) ((List.getD m (Int.toNat ((List.getD es i default).src)) 0) - (List.getD f i 0))))), (-9223372036854775808 ≤ ((List.getD (List.set m (Int.toNat ((List.getD es i default).src)) ((List.getD m (Int.toNat ((List.getD es i default).src)) 0) - (List.getD f i 0))) (Int.toNat ((List.getD es i default).dst)) 0) + (List.getD f i 0)) ∧ ((List.getD (List.set m (Int.toNat ((List.getD es i default).src)) ((List.getD m (Int.toNat ((List.getD es i default).src)) 0) - (List.getD f i 0))) (Int.toNat ((List.getD es i default).dst)) 0) + (List.getD f i 0)) ≤ 9223372036854775807), ((0 : Int) ≤ ((List.getD es i default).dst)), (((List.getD es i default).dst) < 12), ((Int.toNat ((List.getD es i default).dst)) < (List.length (List.set m (Int.toNat ((List.getD es i default).src)) ((List.getD m (Int.toNat ((List.getD es i default).src)) 0) - (List.getD f i 0)))))] ⟨84, [(2, .one (.ptr 102 0 0)), (6, .one (.ptr 106 0 0)), (22, .one (.ro (.ints .i64 f))), (23, .one (.int .i64 ((f.length : Nat) : Int))), (24, .one (.int .i64 (i : Int)))], [(102, .box 1 4 [(.int .i64 n), (.int .i64 s), (.int .i64 t), (.ro (.arcs es))]), (106, .flat (.ints .i64 (List.set (List.set m (Int.toNat ((List.getD es i default).src)) ((List.getD m (Int.toNat ((List.getD es i default).src)) 0) - (List.getD f i 0))) (Int.toNat ((List.getD es i default).dst)) ((List.getD (List.set m (Int.toNat ((List.getD es i default).src)) ((List.getD m (Int.toNat ((List.getD es i default).src)) 0) - (List.getD f i 0))) (Int.toNat ((List.getD es i default).dst)) 0) + (List.getD f i 0)))))]⟩ hT (by kernel_rfl) ⟨(by decide), (by first | omega | (simp only [lens]; omega) | (simp only [Bool.cond_decide]; omega) | (simp only [nadd_eq]; omega)), (by first | omega | (simp only [lens]; omega) | (simp only [Bool.cond_decide]; omega) | (simp only [nadd_eq]; omega)), (by first | omega | (simp only [lens]; omega) | (simp only [Bool.cond_decide]; omega) | (simp only [nadd_eq]; omega)), (by first | omega | (simp only [lens]; omega) | (simp only [Bool.cond_decide]; omega) | (simp only [nadd_eq]; omega)), (by first | omega | (simp only [lens]; omega) | (simp only [Bool.cond_decide]; omega) | (simp only [nadd_eq]; omega)), (by first | omega | (simp only [lens]; omega) | (simp only [Bool.cond_decide]; omega) | (simp only [nadd_eq]; omega)), (by first | omega | (simp only [lens]; omega) | (simp only [Bool.cond_decide]; omega) | (simp only [nadd_eq]; omega)), (by first | omega | (simp only [lens]; omega) | (simp only [Bool.cond_decide]; omega) | (simp only [nadd_eq]; omega)), (by first | omega | (simp only [lens]; omega) | (simp only [Bool.cond_decide]; omega) | (simp only [nadd_eq]; omega)), trivial⟩ ?_
          refine awp_run [2, 6, 22, 23, 24] [102, 106] [(-9223372036854775808 ≤ (((i + 1) : Nat) : Int) ∧ (((i + 1) : Nat) : Int) ≤ 9223372036854775807)] ⟨84, [(2, .one (.ptr 102 0 0)), (6, .one (.ptr 106 0 0)), (22, .one (.ro (.ints .i64 f))), (23, .one (.int .i64 ((f.length : Nat) : Int))), (24, .one (.int .i64 (((i + 1) : Nat) : Int)))], [(102, .box 1 4 [(.int .i64 n), (.int .i64 s), (.int .i64 t), (.ro (.arcs es))]), (106, .flat (.ints .i64 (List.set (List.set m (Int.toNat ((List.getD es i default).src)) ((List.getD m (Int.toNat ((List.getD es i default).src)) 0) - (List.getD f i 0))) (Int.toNat ((List.getD es i default).dst)) ((List.getD (List.set m (Int.toNat ((List.getD es i default).src)) ((List.getD m (Int.toNat ((List.getD es i default).src)) 0) - (List.getD f i 0))) (Int.toNat ((List.getD es i default).dst)) 0) + (List.getD f i 0)))))]⟩ hT (by kernel_rfl) ⟨(by omega), trivial⟩ ?_
          refine loop_end _ ?_ ⟨(i + 1), (List.set (List.set m (Int.toNat ((List.getD es i default).src)) ((List.getD m (Int.toNat ((List.getD es i default).src)) 0) - (List.getD f i 0))) (Int.toNat ((List.getD es i default).dst)) ((List.getD (List.set m (Int.toNat ((List.getD es i default).src)) ((List.getD m (Int.toNat ((List.getD es i default).src)) 0) - (List.getD f i 0))) (Int.toNat ((List.getD es i default).dst)) 0) + (List.getD f i 0))), ⟨(by omega), (by exact hstep), (by simp only [lens]; exact hm), (by exact check_step hm h12 hlen ci a1 a2 a3 a4 hg), (by exact check_bound hm a1 (by omega) a3 (by omega) x0 x1 hb), rfl⟩, (by kernel_rfl)⟩
          omega
      ·
        try simp only [bs] at c8
        have hov : over es f = false := by rw [← ho]; exact over_end (by omega)
        have hgm : ∀ k, k < 12 → m.getD k 0 = - gone es f (k : Int) := fun k hk => by rw [hg k hk, gone_end _ (by omega)]; omega
        refine awp_exit ?_
        refine awp_seq ?_
        refine awp_run_seq [2, 64, 65] [102] [(12 ≤ m.length), (0 = 0)] ⟨84, [(2, .one (.ptr 102 0 0)), (64, .agg [(.int .i64 (List.getD m 0 0)), (.int .i64 (List.getD m 1 0)), (.int .i64 (List.getD m 2 0)), (.int .i64 (List.getD m 3 0)), (.int .i64 (List.getD m 4 0)), (.int .i64 (List.getD m 5 0)), (.int .i64 (List.getD m 6 0)), (.int .i64 (List.getD m 7 0)), (.int .i64 (List.getD m 8 0)), (.int .i64 (List.getD m 9 0)), (.int .i64 (List.getD m 10 0)), (.int .i64 (List.getD m 11 0))]), (65, .one (.int .i64 0))], [(102, .box 1 4 [(.int .i64 n), (.int .i64 s), (.int .i64 t), (.ro (.arcs es))])]⟩ hT (by kernel_rfl) ⟨(by omega), (by decide), trivial⟩ ?_
        refine awp_block ?_
        refine awp_loop (I := fun κ σ => ∃ (k : Nat), ((k ≤ 12) ∧ (∀ j, j < k → (j : Int) ≠ s → (j : Int) ≠ t → m.getD j 0 = 0) ∧ 12 - k = κ) ∧ σ = ⟨84, [(2, .one (.ptr 102 0 0)), (64, .agg [(.int .i64 (List.getD m 0 0)), (.int .i64 (List.getD m 1 0)), (.int .i64 (List.getD m 2 0)), (.int .i64 (List.getD m 3 0)), (.int .i64 (List.getD m 4 0)), (.int .i64 (List.getD m 5 0)), (.int .i64 (List.getD m 6 0)), (.int .i64 (List.getD m 7 0)), (.int .i64 (List.getD m 8 0)), (.int .i64 (List.getD m 9 0)), (.int .i64 (List.getD m 10 0)), (.int .i64 (List.getD m 11 0))]), (65, .one (.int .i64 (k : Int)))], [(102, .box 1 4 [(.int .i64 n), (.int .i64 s), (.int .i64 t), (.ro (.arcs es))])]⟩) _ ⟨0, ⟨(by omega), (by intro j hj; omega), rfl⟩, (by kernel_rfl)⟩ ?_
        rintro κ _ ⟨k, ⟨hk, hl, rfl⟩, rfl⟩
        refine awp_run_seq [2, 64, 65, 66] [102] [] ⟨84, [(2, .one (.ptr 102 0 0)), (64, .agg [(.int .i64 (List.getD m 0 0)), (.int .i64 (List.getD m 1 0)), (.int .i64 (List.getD m 2 0)), (.int .i64 (List.getD m 3 0)), (.int .i64 (List.getD m 4 0)), (.int .i64 (List.getD m 5 0)), (.int .i64 (List.getD m 6 0)), (.int .i64 (List.getD m 7 0)), (.int .i64 (List.getD m 8 0)), (.int .i64 (List.getD m 9 0)), (.int .i64 (List.getD m 10 0)), (.int .i64 (List.getD m 11 0))]), (65, .one (.int .i64 (k : Int))), (66, .one (.bool (decide ((k : Int) < 12))))], [(102, .box 1 4 [(.int .i64 n), (.int .i64 s), (.int .i64 t), (.ro (.arcs es))])]⟩ hT (by kernel_rfl) trivial ?_
        refine awp_seq ?_
        refine awp_cond (b := (decide ((k : Int) < 12))) (by kernel_rfl) (fun c16 => ?_) (fun c16 => ?_)
        ·
          try simp only [bs] at c16
          refine awp_skip ?_
          refine awp_seq ?_
          refine awp_block ?_
          refine awp_run_seq [2, 9, 10, 64, 65] [102] [((0 : Int) ≤ (k : Int)), ((k : Int) < 12), ((k : Int) < 12)] ⟨84, [(2, .one (.ptr 102 0 0)), (9, .one (.int .i64 (k : Int))), (10, .one (.int .i64 (List.getD [(List.getD m 0 0), (List.getD m 1 0), (List.getD m 2 0), (List.getD m 3 0), (List.getD m 4 0), (List.getD m 5 0), (List.getD m 6 0), (List.getD m 7 0), (List.getD m 8 0), (List.getD m 9 0), (List.getD m 10 0), (List.getD m 11 0)] k 0))), (64, .agg [(.int .i64 (List.getD m 0 0)), (.int .i64 (List.getD m 1 0)), (.int .i64 (List.getD m 2 0)), (.int .i64 (List.getD m 3 0)), (.int .i64 (List.getD m 4 0)), (.int .i64 (List.getD m 5 0)), (.int .i64 (List.getD m 6 0)), (.int .i64 (List.getD m 7 0)), (.int .i64 (List.getD m 8 0)), (.int .i64 (List.getD m 9 0)), (.int .i64 (List.getD m 10 0)), (.int .i64 (List.getD m 11 0))]), (65, .one (.int .i64 (k : Int)))], [(102, .box 1 4 [(.int .i64 n), (.int .i64 s), (.int .i64 t), (.ro (.arcs es))])]⟩ hT (by kernel_rfl) ⟨(by omega), (by omega), (by omega), trivial⟩ ?_
          rw [show (List.getD [(List.getD m 0 0), (List.getD m 1 0), (List.getD m 2 0), (List.getD m 3 0), (List.getD m 4 0), (List.getD m 5 0), (List.getD m 6 0), (List.getD m 7 0), (List.getD m 8 0), (List.getD m 9 0), (List.getD m 10 0), (List.getD m 11 0)] k 0) = (List.getD m k 0) from by rw [arr12 m hm]]
          refine awp_run_seq [2, 64, 65, 82] [102] [((decide ((List.getD m k 0) ≠ 0)) = true → ((decide ((List.getD m k 0) ≠ 0)) = true → (decide ((List.getD m k 0) ≠ 0)) = true)), ((decide ((List.getD m k 0) ≠ 0)) = true → (0 < 1)), ((decide ((List.getD m k 0) ≠ 0)) = true → ((decide ((List.getD m k 0) ≠ 0)) = true → (decide ((List.getD m k 0) ≠ 0)) = true)), ((decide ((List.getD m k 0) ≠ 0)) = true → ((decide ((List.getD m k 0) ≠ 0)) = true → (decide ((List.getD m k 0) ≠ 0)) = true)), ((decide ((List.getD m k 0) ≠ 0)) = true → (decide ((List.getD m k 0) ≠ 0)) = true), (((decide ((List.getD m k 0) ≠ 0)) && (decide ((k : Int) ≠ s))) = true → (((decide ((List.getD m k 0) ≠ 0)) && (decide ((k : Int) ≠ s))) = true → ((decide ((List.getD m k 0) ≠ 0)) && (decide ((k : Int) ≠ s))) = true)), (((decide ((List.getD m k 0) ≠ 0)) && (decide ((k : Int) ≠ s))) = true → (0 < 1)), (((decide ((List.getD m k 0) ≠ 0)) && (decide ((k : Int) ≠ s))) = true → (((decide ((List.getD m k 0) ≠ 0)) && (decide ((k : Int) ≠ s))) = true → ((decide ((List.getD m k 0) ≠ 0)) && (decide ((k : Int) ≠ s))) = true)), (((decide ((List.getD m k 0) ≠ 0)) && (decide ((k : Int) ≠ s))) = true → (((decide ((List.getD m k 0) ≠ 0)) && (decide ((k : Int) ≠ s))) = true → ((decide ((List.getD m k 0) ≠ 0)) && (decide ((k : Int) ≠ s))) = true)), (((decide ((List.getD m k 0) ≠ 0)) && (decide ((k : Int) ≠ s))) = true → ((decide ((List.getD m k 0) ≠ 0)) && (decide ((k : Int) ≠ s))) = true)] ⟨84, [(2, .one (.ptr 102 0 0)), (64, .agg [(.int .i64 (List.getD m 0 0)), (.int .i64 (List.getD m 1 0)), (.int .i64 (List.getD m 2 0)), (.int .i64 (List.getD m 3 0)), (.int .i64 (List.getD m 4 0)), (.int .i64 (List.getD m 5 0)), (.int .i64 (List.getD m 6 0)), (.int .i64 (List.getD m 7 0)), (.int .i64 (List.getD m 8 0)), (.int .i64 (List.getD m 9 0)), (.int .i64 (List.getD m 10 0)), (.int .i64 (List.getD m 11 0))]), (65, .one (.int .i64 (k : Int))), (82, .one (.bool (((decide ((List.getD m k 0) ≠ 0)) && (decide ((k : Int) ≠ s))) && (decide ((k : Int) ≠ t)))))], [(102, .box 1 4 [(.int .i64 n), (.int .i64 s), (.int .i64 t), (.ro (.arcs es))])]⟩ hT (by kernel_rfl) ⟨(by intro hg; first | exact hg | skip; (try simp only [bs] at hg ⊢); first | exact hg | first | omega | (simp only [lens]; omega) | (simp only [Bool.cond_decide]; omega) | (simp only [nadd_eq]; omega) | grind), (by intro hg; first | exact hg | skip; (try simp only [bs] at hg); first | exact hg | first | omega | (simp only [lens]; omega) | (simp only [Bool.cond_decide]; omega) | (simp only [nadd_eq]; omega) | grind), (by intro hg; first | exact hg | skip; (try simp only [bs] at hg ⊢); first | exact hg | first | omega | (simp only [lens]; omega) | (simp only [Bool.cond_decide]; omega) | (simp only [nadd_eq]; omega) | grind), (by intro hg; first | exact hg | skip; (try simp only [bs] at hg ⊢); first | exact hg | first | omega | (simp only [lens]; omega) | (simp only [Bool.cond_decide]; omega) | (simp only [nadd_eq]; omega) | grind), (fun h => h), (by intro hg; first | exact hg | skip; (try simp only [bs] at hg ⊢); first | exact hg | first | omega | (simp only [lens]; omega) | (simp only [Bool.cond_decide]; omega) | (simp only [nadd_eq]; omega) | grind), (by intro hg; first | exact hg | skip; (try simp only [bs] at hg); first | exact hg | first | omega | (simp only [lens]; omega) | (simp only [Bool.cond_decide]; omega) | (simp only [nadd_eq]; omega) | grind), (by intro hg; first | exact hg | skip; (try simp only [bs] at hg ⊢); first | exact hg | first | omega | (simp only [lens]; omega) | (simp only [Bool.cond_decide]; omega) | (simp only [nadd_eq]; omega) | grind), (by intro hg; first | exact hg | skip; (try simp only [bs] at hg ⊢); first | exact hg | first | omega | (simp only [lens]; omega) | (simp only [Bool.cond_decide]; omega) | (simp only [nadd_eq]; omega) | grind), (fun h => h), trivial⟩ ?_
          refine awp_cond (b := (((decide ((List.getD m k 0) ≠ 0)) && (decide ((k : Int) ≠ s))) && (decide ((k : Int) ≠ t)))) (by kernel_rfl) (fun c18 => ?_) (fun c18 => ?_)
          ·
            try simp only [bs] at c18
            refine awp_run_seq [4] [] [] ⟨84, [(4, .one (.int .i64 8))], []⟩ hT (by kernel_rfl) trivial ?_
            refine awp_ret ?_
            refine kRet.ret _ [] [] (.one (.int .i64 8)) [] (by kernel_rfl) trivial ?_
            exact ⟨congrArg (fun x1 => (.one (.int .i64 x1) : AV)) (show 8 = (flowErr n s t es f) from by rw [flowErr, if_neg c2, if_neg (by omega), if_neg (by rw [hov]; decide), if_pos (lost_far hok (k := k) (by have := hgm k (by omega); omega) (by omega) (by omega))]), rfl⟩
          ·
            try simp only [bs] at c18
            refine awp_skip ?_
            refine awp_run [2, 64, 65] [102] [(-9223372036854775808 ≤ (((k + 1) : Nat) : Int) ∧ (((k + 1) : Nat) : Int) ≤ 9223372036854775807)] ⟨84, [(2, .one (.ptr 102 0 0)), (64, .agg [(.int .i64 (List.getD m 0 0)), (.int .i64 (List.getD m 1 0)), (.int .i64 (List.getD m 2 0)), (.int .i64 (List.getD m 3 0)), (.int .i64 (List.getD m 4 0)), (.int .i64 (List.getD m 5 0)), (.int .i64 (List.getD m 6 0)), (.int .i64 (List.getD m 7 0)), (.int .i64 (List.getD m 8 0)), (.int .i64 (List.getD m 9 0)), (.int .i64 (List.getD m 10 0)), (.int .i64 (List.getD m 11 0))]), (65, .one (.int .i64 (((k + 1) : Nat) : Int)))], [(102, .box 1 4 [(.int .i64 n), (.int .i64 s), (.int .i64 t), (.ro (.arcs es))])]⟩ hT (by kernel_rfl) ⟨(by omega), trivial⟩ ?_
            refine loop_end _ ?_ ⟨(k + 1), ⟨(by omega), (by intro j hj hjs hjt; rcases Nat.lt_succ_iff_lt_or_eq.1 hj with h | h; exact hl j h hjs hjt; subst h; omega), rfl⟩, (by kernel_rfl)⟩
            omega
        ·
          try simp only [bs] at c16
          refine awp_exit ?_
          refine awp_run_seq [4] [] [] ⟨84, [(4, .one (.int .i64 0))], []⟩ hT (by kernel_rfl) trivial ?_
          refine awp_ret ?_
          refine kRet.ret _ [] [] (.one (.int .i64 0)) [] (by kernel_rfl) trivial ?_
          exact ⟨congrArg (fun x1 => (.one (.int .i64 x1) : AV)) (show 0 = (flowErr n s t es f) from by rw [flowErr, if_neg c2, if_neg (by omega), if_neg (by rw [hov]; decide), if_neg (by rintro ⟨j, j1, j2, j3, j4⟩; have := hgm j (by omega); have := hl j (by omega) j2 j3; omega)]), rfl⟩
theorem flow_value (n s t : Int) (es : List Arc) (f : List Int) : ACall Try.prog 99 [.agg [(.int .i64 n), (.int .i64 s), (.int .i64 t), (.ro (.arcs es))], .one (.ro (.ints .i64 f))] [] (fun ov oh => ov = .tup [(false, [(.int .i64 (okI (flowErr n s t es f) (gone es f s)))]), (false, [(.int .i64 (flowErr n s t es f))])] ∧ oh = []) := by
  refine acall_intro hT Try.func99 rfl (by kernel_rfl) rfl (by kernel_rfl) ?_
  refine awp_run_seq [1, 2] [102] [] ⟨48, [(1, .one (.ro (.ints .i64 f))), (2, .one (.ptr 102 0 0))], [(102, .box 1 4 [(.int .i64 n), (.int .i64 s), (.int .i64 t), (.ro (.arcs es))])]⟩ hT (by kernel_rfl) trivial ?_
  refine awp_seq ?_
  refine awp_seq (awp_region ?_)
  refine aops_run 2 [1, 2, 10, 11] [102] [(0 < 1)] ⟨48, [(1, .one (.ro (.ints .i64 f))), (2, .one (.ptr 102 0 0)), (10, .agg [(.int .i64 n), (.int .i64 s), (.int .i64 t), (.ro (.arcs es))]), (11, .one (.ro (.ints .i64 f)))], [(102, .box 1 4 [(.int .i64 n), (.int .i64 s), (.int .i64 t), (.ro (.arcs es))])]⟩ hT (by kernel_rfl) (by kernel_rfl) ⟨(by decide), trivial⟩ ?_
  refine aops_pure false ⟨true, [], 130, [.agg [(.int .i64 n), (.int .i64 s), (.int .i64 t), (.ro (.arcs es))], .one (.ro (.ints .i64 f))], []⟩ [.agg [(.int .i64 n), (.int .i64 s), (.int .i64 t), (.ro (.arcs es))], .one (.ro (.ints .i64 f))] (.one (.int .i64 (flowErr n s t es f))) ⟨48, [(1, .one (.ro (.ints .i64 f))), (2, .one (.ptr 102 0 0)), (10, .agg [(.int .i64 n), (.int .i64 s), (.int .i64 t), (.ro (.arcs es))]), (11, .one (.ro (.ints .i64 f))), (12, .one (.int .i64 (flowErr n s t es f)))], [(102, .box 1 4 [(.int .i64 n), (.int .i64 s), (.int .i64 t), (.ro (.arcs es))])]⟩ (by kernel_rfl) (by kernel_rfl) (fun _ => trivial) rfl (fun _ => flow_check n s t es f) ?_
  refine aops_run 1 [1, 2, 6] [102] [] ⟨48, [(1, .one (.ro (.ints .i64 f))), (2, .one (.ptr 102 0 0)), (6, .one (.int .i64 (flowErr n s t es f)))], [(102, .box 1 4 [(.int .i64 n), (.int .i64 s), (.int .i64 t), (.ro (.arcs es))])]⟩ hT (by kernel_rfl) (by kernel_rfl) trivial ?_
  refine aops_end_seq (by kernel_rfl) ?_
  refine awp_run_seq [1, 2, 6, 14] [102] [] ⟨48, [(1, .one (.ro (.ints .i64 f))), (2, .one (.ptr 102 0 0)), (6, .one (.int .i64 (flowErr n s t es f))), (14, .one (.bool (decide ((flowErr n s t es f) ≠ 0))))], [(102, .box 1 4 [(.int .i64 n), (.int .i64 s), (.int .i64 t), (.ro (.arcs es))])]⟩ hT (by kernel_rfl) trivial ?_
  refine awp_cond (b := (decide ((flowErr n s t es f) ≠ 0))) (by kernel_rfl) (fun c2 => ?_) (fun c2 => ?_)
  ·
    try simp only [bs] at c2
    refine awp_run_seq [4, 5] [] [] ⟨48, [(4, .one (.int .i64 0)), (5, .one (.int .i64 (flowErr n s t es f)))], []⟩ hT (by kernel_rfl) trivial ?_
    refine awp_ret ?_
    refine kRet.ret _ [] [] (.tup [(false, [(.int .i64 0)]), (false, [(.int .i64 (flowErr n s t es f))])]) [] (by kernel_rfl) trivial ?_
    exact ⟨congrArg (fun x1 => (.tup [(false, [(.int .i64 x1)]), (false, [(.int .i64 (flowErr n s t es f))])] : AV)) (show 0 = (okI (flowErr n s t es f) (gone es f s)) from by first | exact (okI_no _ c2).symm), rfl⟩
  ·
    try simp only [bs] at c2
    have hE : flowErr n s t es f = 0 := by omega
    have hfl := flowErr_ok hE
    have hok := hfl.net
    have h1 := hok.n1
    have h2 := hok.n2
    have h3 := hok.len
    have h4 := hok.s0
    have h5 := hok.s1
    have h6 := hok.t0
    have h7 := hok.t1
    have hlen := hfl.fin.len
    have hf10 := hfl.f10
    refine awp_skip ?_
    refine awp_run_seq [1, 2, 7] [102] [] ⟨48, [(1, .one (.ro (.ints .i64 f))), (2, .one (.ptr 102 0 0)), (7, .one (.int .i64 0))], [(102, .box 1 4 [(.int .i64 n), (.int .i64 s), (.int .i64 t), (.ro (.arcs es))])]⟩ hT (by kernel_rfl) trivial ?_
    refine awp_seq ?_
    refine awp_run_seq [1, 2, 7, 17, 18, 19] [102] [(0 < 1)] ⟨48, [(1, .one (.ro (.ints .i64 f))), (2, .one (.ptr 102 0 0)), (7, .one (.int .i64 0)), (17, .one (.ro (.arcs es))), (18, .one (.int .i64 ((es.length : Nat) : Int))), (19, .one (.int .i64 0))], [(102, .box 1 4 [(.int .i64 n), (.int .i64 s), (.int .i64 t), (.ro (.arcs es))])]⟩ hT (by kernel_rfl) ⟨(by decide), trivial⟩ ?_
    refine awp_block ?_
    refine awp_loop (I := fun κ σ => ∃ (i : Nat) (u : Int), ((i ≤ es.length) ∧ (u + gone (es.drop i) (f.drop i) s = gone es f s) ∧ (-(10000 * i) ≤ u ∧ u ≤ 10000 * (i : Int)) ∧ es.length - i = κ) ∧ σ = ⟨48, [(1, .one (.ro (.ints .i64 f))), (2, .one (.ptr 102 0 0)), (7, .one (.int .i64 u)), (17, .one (.ro (.arcs es))), (18, .one (.int .i64 ((es.length : Nat) : Int))), (19, .one (.int .i64 (i : Int)))], [(102, .box 1 4 [(.int .i64 n), (.int .i64 s), (.int .i64 t), (.ro (.arcs es))])]⟩) _ ⟨0, 0, ⟨(by omega), (by simp), (by omega), rfl⟩, (by kernel_rfl)⟩ ?_
    rintro κ _ ⟨i, u, ⟨hi, hu, hb, rfl⟩, rfl⟩
    refine awp_run_seq [1, 2, 7, 17, 18, 19, 20] [102] [] ⟨48, [(1, .one (.ro (.ints .i64 f))), (2, .one (.ptr 102 0 0)), (7, .one (.int .i64 u)), (17, .one (.ro (.arcs es))), (18, .one (.int .i64 ((es.length : Nat) : Int))), (19, .one (.int .i64 (i : Int))), (20, .one (.bool (decide ((i : Int) < ((es.length : Nat) : Int)))))], [(102, .box 1 4 [(.int .i64 n), (.int .i64 s), (.int .i64 t), (.ro (.arcs es))])]⟩ hT (by kernel_rfl) trivial ?_
    refine awp_seq ?_
    refine awp_cond (b := (decide ((i : Int) < ((es.length : Nat) : Int)))) (by kernel_rfl) (fun c6 => ?_) (fun c6 => ?_)
    ·
      try simp only [bs] at c6
      have hg := gone_drop (i := i) (f := f) s (by omega) hlen
      have hfi := hf10 i (by omega)
      refine awp_skip ?_
      refine awp_seq ?_
      refine awp_block ?_
      refine awp_run_seq [1, 2, 7, 8, 9, 17, 18, 19] [102, 109] [((0 : Int) ≤ (i : Int)), ((i : Int) < ((es.length : Nat) : Int)), (0 < 1)] ⟨48, [(1, .one (.ro (.ints .i64 f))), (2, .one (.ptr 102 0 0)), (7, .one (.int .i64 u)), (8, .one (.int .i64 (i : Int))), (9, .one (.ptr 109 0 0)), (17, .one (.ro (.arcs es))), (18, .one (.int .i64 ((es.length : Nat) : Int))), (19, .one (.int .i64 (i : Int)))], [(102, .box 1 4 [(.int .i64 n), (.int .i64 s), (.int .i64 t), (.ro (.arcs es))]), (109, .box 1 3 [(.int .i64 ((List.getD es i default).src)), (.int .i64 ((List.getD es i default).dst)), (.int .i64 ((List.getD es i default).cap))])]⟩ hT (by kernel_rfl) ⟨(by omega), (by omega), (by decide), trivial⟩ ?_
      refine awp_seq ?_
      refine awp_run_seq [1, 2, 7, 8, 9, 17, 18, 19, 28] [102, 109] [(0 < 1), (0 < 1)] ⟨48, [(1, .one (.ro (.ints .i64 f))), (2, .one (.ptr 102 0 0)), (7, .one (.int .i64 u)), (8, .one (.int .i64 (i : Int))), (9, .one (.ptr 109 0 0)), (17, .one (.ro (.arcs es))), (18, .one (.int .i64 ((es.length : Nat) : Int))), (19, .one (.int .i64 (i : Int))), (28, .one (.bool (decide (((List.getD es i default).src) = s))))], [(102, .box 1 4 [(.int .i64 n), (.int .i64 s), (.int .i64 t), (.ro (.arcs es))]), (109, .box 1 3 [(.int .i64 ((List.getD es i default).src)), (.int .i64 ((List.getD es i default).dst)), (.int .i64 ((List.getD es i default).cap))])]⟩ hT (by kernel_rfl) ⟨(by decide), (by decide), trivial⟩ ?_
      refine awp_cond (b := (decide (((List.getD es i default).src) = s))) (by kernel_rfl) (fun c8 => ?_) (fun c8 => ?_)
      ·
        try simp only [bs] at c8
        refine awp_run [1, 2, 7, 8, 9, 17, 18, 19] [102, 109] [((0 : Int) ≤ (i : Int)), ((i : Int) < ((f.length : Nat) : Int)), (-9223372036854775808 ≤ (u + (List.getD f i 0)) ∧ (u + (List.getD f i 0)) ≤ 9223372036854775807)] ⟨48, [(1, .one (.ro (.ints .i64 f))), (2, .one (.ptr 102 0 0)), (7, .one (.int .i64 (u + (List.getD f i 0)))), (8, .one (.int .i64 (i : Int))), (9, .one (.ptr 109 0 0)), (17, .one (.ro (.arcs es))), (18, .one (.int .i64 ((es.length : Nat) : Int))), (19, .one (.int .i64 (i : Int)))], [(102, .box 1 4 [(.int .i64 n), (.int .i64 s), (.int .i64 t), (.ro (.arcs es))]), (109, .box 1 3 [(.int .i64 ((List.getD es i default).src)), (.int .i64 ((List.getD es i default).dst)), (.int .i64 ((List.getD es i default).cap))])]⟩ hT (by kernel_rfl) ⟨(by omega), (by omega), (by omega), trivial⟩ ?_
        refine awp_run_seq [1, 2, 7, 8, 17, 18, 19, 39] [102] [(0 < 1), (0 < 1)] ⟨48, [(1, .one (.ro (.ints .i64 f))), (2, .one (.ptr 102 0 0)), (7, .one (.int .i64 (u + (List.getD f i 0)))), (8, .one (.int .i64 (i : Int))), (17, .one (.ro (.arcs es))), (18, .one (.int .i64 ((es.length : Nat) : Int))), (19, .one (.int .i64 (i : Int))), (39, .one (.bool (decide (((List.getD es i default).dst) = s))))], [(102, .box 1 4 [(.int .i64 n), (.int .i64 s), (.int .i64 t), (.ro (.arcs es))])]⟩ hT (by kernel_rfl) ⟨(by decide), (by decide), trivial⟩ ?_
        refine awp_cond (b := (decide (((List.getD es i default).dst) = s))) (by kernel_rfl) (fun c10 => ?_) (fun c10 => ?_)
        ·
          try simp only [bs] at c10
          refine awp_run [1, 2, 7, 17, 18, 19] [102] [((0 : Int) ≤ (i : Int)), ((i : Int) < ((f.length : Nat) : Int)), (-9223372036854775808 ≤ ((u + (List.getD f i 0)) - (List.getD f i 0)) ∧ ((u + (List.getD f i 0)) - (List.getD f i 0)) ≤ 9223372036854775807)] ⟨48, [(1, .one (.ro (.ints .i64 f))), (2, .one (.ptr 102 0 0)), (7, .one (.int .i64 ((u + (List.getD f i 0)) - (List.getD f i 0)))), (17, .one (.ro (.arcs es))), (18, .one (.int .i64 ((es.length : Nat) : Int))), (19, .one (.int .i64 (i : Int)))], [(102, .box 1 4 [(.int .i64 n), (.int .i64 s), (.int .i64 t), (.ro (.arcs es))])]⟩ hT (by kernel_rfl) ⟨(by omega), (by omega), (by omega), trivial⟩ ?_
          refine awp_run [1, 2, 7, 17, 18, 19] [102] [(-9223372036854775808 ≤ (((i + 1) : Nat) : Int) ∧ (((i + 1) : Nat) : Int) ≤ 9223372036854775807)] ⟨48, [(1, .one (.ro (.ints .i64 f))), (2, .one (.ptr 102 0 0)), (7, .one (.int .i64 ((u + (List.getD f i 0)) - (List.getD f i 0)))), (17, .one (.ro (.arcs es))), (18, .one (.int .i64 ((es.length : Nat) : Int))), (19, .one (.int .i64 (((i + 1) : Nat) : Int)))], [(102, .box 1 4 [(.int .i64 n), (.int .i64 s), (.int .i64 t), (.ro (.arcs es))])]⟩ hT (by kernel_rfl) ⟨(by omega), trivial⟩ ?_
          refine loop_end _ ?_ ⟨(i + 1), ((u + (List.getD f i 0)) - (List.getD f i 0)), ⟨(by omega), (by omega), (by omega), rfl⟩, (by kernel_rfl)⟩
          omega
        ·
          try simp only [bs] at c10
          refine awp_skip ?_
          refine awp_run [1, 2, 7, 17, 18, 19] [102] [(-9223372036854775808 ≤ (((i + 1) : Nat) : Int) ∧ (((i + 1) : Nat) : Int) ≤ 9223372036854775807)] ⟨48, [(1, .one (.ro (.ints .i64 f))), (2, .one (.ptr 102 0 0)), (7, .one (.int .i64 (u + (List.getD f i 0)))), (17, .one (.ro (.arcs es))), (18, .one (.int .i64 ((es.length : Nat) : Int))), (19, .one (.int .i64 (((i + 1) : Nat) : Int)))], [(102, .box 1 4 [(.int .i64 n), (.int .i64 s), (.int .i64 t), (.ro (.arcs es))])]⟩ hT (by kernel_rfl) ⟨(by omega), trivial⟩ ?_
          refine loop_end _ ?_ ⟨(i + 1), (u + (List.getD f i 0)), ⟨(by omega), (by omega), (by omega), rfl⟩, (by kernel_rfl)⟩
          omega
      ·
        try simp only [bs] at c8
        refine awp_skip ?_
        refine awp_run_seq [1, 2, 7, 8, 17, 18, 19, 39] [102] [(0 < 1), (0 < 1)] ⟨48, [(1, .one (.ro (.ints .i64 f))), (2, .one (.ptr 102 0 0)), (7, .one (.int .i64 u)), (8, .one (.int .i64 (i : Int))), (17, .one (.ro (.arcs es))), (18, .one (.int .i64 ((es.length : Nat) : Int))), (19, .one (.int .i64 (i : Int))), (39, .one (.bool (decide (((List.getD es i default).dst) = s))))], [(102, .box 1 4 [(.int .i64 n), (.int .i64 s), (.int .i64 t), (.ro (.arcs es))])]⟩ hT (by kernel_rfl) ⟨(by decide), (by decide), trivial⟩ ?_
        refine awp_cond (b := (decide (((List.getD es i default).dst) = s))) (by kernel_rfl) (fun c10 => ?_) (fun c10 => ?_)
        ·
          try simp only [bs] at c10
          refine awp_run [1, 2, 7, 17, 18, 19] [102] [((0 : Int) ≤ (i : Int)), ((i : Int) < ((f.length : Nat) : Int)), (-9223372036854775808 ≤ (u - (List.getD f i 0)) ∧ (u - (List.getD f i 0)) ≤ 9223372036854775807)] ⟨48, [(1, .one (.ro (.ints .i64 f))), (2, .one (.ptr 102 0 0)), (7, .one (.int .i64 (u - (List.getD f i 0)))), (17, .one (.ro (.arcs es))), (18, .one (.int .i64 ((es.length : Nat) : Int))), (19, .one (.int .i64 (i : Int)))], [(102, .box 1 4 [(.int .i64 n), (.int .i64 s), (.int .i64 t), (.ro (.arcs es))])]⟩ hT (by kernel_rfl) ⟨(by omega), (by omega), (by omega), trivial⟩ ?_
          refine awp_run [1, 2, 7, 17, 18, 19] [102] [(-9223372036854775808 ≤ (((i + 1) : Nat) : Int) ∧ (((i + 1) : Nat) : Int) ≤ 9223372036854775807)] ⟨48, [(1, .one (.ro (.ints .i64 f))), (2, .one (.ptr 102 0 0)), (7, .one (.int .i64 (u - (List.getD f i 0)))), (17, .one (.ro (.arcs es))), (18, .one (.int .i64 ((es.length : Nat) : Int))), (19, .one (.int .i64 (((i + 1) : Nat) : Int)))], [(102, .box 1 4 [(.int .i64 n), (.int .i64 s), (.int .i64 t), (.ro (.arcs es))])]⟩ hT (by kernel_rfl) ⟨(by omega), trivial⟩ ?_
          refine loop_end _ ?_ ⟨(i + 1), (u - (List.getD f i 0)), ⟨(by omega), (by omega), (by omega), rfl⟩, (by kernel_rfl)⟩
          omega
        ·
          try simp only [bs] at c10
          refine awp_skip ?_
          refine awp_run [1, 2, 7, 17, 18, 19] [102] [(-9223372036854775808 ≤ (((i + 1) : Nat) : Int) ∧ (((i + 1) : Nat) : Int) ≤ 9223372036854775807)] ⟨48, [(1, .one (.ro (.ints .i64 f))), (2, .one (.ptr 102 0 0)), (7, .one (.int .i64 u)), (17, .one (.ro (.arcs es))), (18, .one (.int .i64 ((es.length : Nat) : Int))), (19, .one (.int .i64 (((i + 1) : Nat) : Int)))], [(102, .box 1 4 [(.int .i64 n), (.int .i64 s), (.int .i64 t), (.ro (.arcs es))])]⟩ hT (by kernel_rfl) ⟨(by omega), trivial⟩ ?_
          refine loop_end _ ?_ ⟨(i + 1), u, ⟨(by omega), (by omega), (by omega), rfl⟩, (by kernel_rfl)⟩
          omega
    ·
      try simp only [bs] at c6
      refine awp_exit ?_
      refine awp_run_seq [4, 5] [] [] ⟨48, [(4, .one (.int .i64 u)), (5, .one (.int .i64 0))], []⟩ hT (by kernel_rfl) trivial ?_
      refine awp_ret ?_
      rw [gone_end s (by omega)] at hu
      refine kRet.ret _ [] [] (.tup [(false, [(.int .i64 u)]), (false, [(.int .i64 0)])]) [] (by kernel_rfl) trivial ?_
      exact ⟨by first | rw [show (okI (flowErr n s t es f) (gone es f s)) = u from Eq.symm (by first | exact hE.symm | (rw [okI_ok _ hE]; omega)), show (flowErr n s t es f) = 0 from Eq.symm (by first | exact hE.symm | (rw [okI_ok _ hE]; omega))] | rw [show (okI (flowErr n s t es f) (gone es f s)) = u from Eq.symm (by first | exact hE.symm | (rw [okI_ok _ hE]; omega))] | rw [show (flowErr n s t es f) = 0 from Eq.symm (by first | exact hE.symm | (rw [okI_ok _ hE]; omega))], rfl⟩
end Go.Ab
