/- Of spans: Wide. -/
import Derived.Test.YtglkldhjffnhhaaTab
import Derived.Test.YtglkldhjffnhhaaSort1
import Derived.Test.YtglkldhjffnhhaaWalk1
import Derived.Test.YtglkldhjffnhhaaPlSpan
set_option maxRecDepth 100000
namespace Go.Ab
open Go Go.Proofs
theorem span_wide (n : Int) (es : List Arc) (s t : Int) : ACall Try.prog 75 [.agg [(.int .i64 n), (.ro (.arcs es))], .one (.int .i64 s), .one (.int .i64 t)] [] (fun ov oh => ∃ (c e : Int), (WideOk n es s t c e) ∧ ov = .tup [(false, [(.int .i64 c)]), (false, [(.int .i64 e)])] ∧ oh = []) := by
  refine acall_intro hT Try.func75 rfl (by kernel_rfl) rfl (by kernel_rfl) ?_
  refine awp_run_seq [1, 2, 3] [103] [] ⟨104, [(1, .one (.int .i64 s)), (2, .one (.int .i64 t)), (3, .one (.ptr 103 0 0))], [(103, .box 1 2 [(.int .i64 n), (.ro (.arcs es))])]⟩ hT (by kernel_rfl) trivial ?_
  refine awp_seq ?_
  refine awp_seq (awp_region ?_)
  refine aops_run 1 [1, 2, 3, 19] [103] [(0 < 1)] ⟨104, [(1, .one (.int .i64 s)), (2, .one (.int .i64 t)), (3, .one (.ptr 103 0 0)), (19, .agg [(.int .i64 n), (.ro (.arcs es))])], [(103, .box 1 2 [(.int .i64 n), (.ro (.arcs es))])]⟩ hT (by kernel_rfl) (by kernel_rfl) ⟨(by decide), trivial⟩ ?_
  refine aops_pure false ⟨true, [], 97, [.agg [(.int .i64 n), (.ro (.arcs es))]], []⟩ [.agg [(.int .i64 n), (.ro (.arcs es))]] (.one (.int .i64 (graphErr n es (-10000)))) ⟨104, [(1, .one (.int .i64 s)), (2, .one (.int .i64 t)), (3, .one (.ptr 103 0 0)), (19, .agg [(.int .i64 n), (.ro (.arcs es))]), (20, .one (.int .i64 (graphErr n es (-10000))))], [(103, .box 1 2 [(.int .i64 n), (.ro (.arcs es))])]⟩ (by kernel_rfl) (by kernel_rfl) (fun _ => trivial) rfl (fun _ => graph_CheckLong n es) ?_
  refine aops_run 1 [1, 2, 3, 8] [103] [] ⟨104, [(1, .one (.int .i64 s)), (2, .one (.int .i64 t)), (3, .one (.ptr 103 0 0)), (8, .one (.int .i64 (graphErr n es (-10000))))], [(103, .box 1 2 [(.int .i64 n), (.ro (.arcs es))])]⟩ hT (by kernel_rfl) (by kernel_rfl) trivial ?_
  refine aops_end_seq (by kernel_rfl) ?_
  refine awp_run_seq [1, 2, 3, 8, 22] [103] [] ⟨104, [(1, .one (.int .i64 s)), (2, .one (.int .i64 t)), (3, .one (.ptr 103 0 0)), (8, .one (.int .i64 (graphErr n es (-10000)))), (22, .one (.bool (decide ((graphErr n es (-10000)) ≠ 0))))], [(103, .box 1 2 [(.int .i64 n), (.ro (.arcs es))])]⟩ hT (by kernel_rfl) trivial ?_
  refine awp_cond (b := (decide ((graphErr n es (-10000)) ≠ 0))) (by kernel_rfl) (fun c2 => ?_) (fun c2 => ?_)
  · -- yes 2
    try simp only [bs] at c2
    have hW : (wideErr n es s t) = (graphErr n es (-10000)) := if_pos c2
    have hW0 : (wideErr n es s t) ≠ 0 := by rw [hW]; exact c2
    refine awp_run_seq [6, 7] [] [] ⟨104, [(6, .one (.int .i64 0)), (7, .one (.int .i64 (graphErr n es (-10000))))], []⟩ hT (by kernel_rfl) trivial ?_
    refine awp_ret ?_
    refine kRet.ret _ [] [] (.tup [(false, [(.int .i64 0)]), (false, [(.int .i64 (graphErr n es (-10000)))])]) [] (by kernel_rfl) trivial ?_
    exact ⟨0, (graphErr n es (-10000)), (by exact .inl ⟨hW0, hW.symm, rfl⟩), (by kernel_rfl), (by kernel_rfl)⟩
  · -- no 2
    try simp only [bs] at c2
    have hE : (graphErr n es (-10000)) = 0 := by omega
    have hG := graphErr_ok hE
    have h1 := hG.n1
    have h2 := hG.n2
    have hA := hG.inR
    have hle := hG.len
    refine awp_skip ?_
    refine awp_seq ?_
    refine awp_run_seq [1, 2, 3, 41] [103] [((!(decide (s < 0))) = true → ((!(decide (s < 0))) = true → (!(decide (s < 0))) = true)), ((!(decide (s < 0))) = true → (0 < 1)), ((!(decide (s < 0))) = true → ((!(decide (s < 0))) = true → (!(decide (s < 0))) = true)), ((!(decide (s < 0))) = true → ((!(decide (s < 0))) = true → (!(decide (s < 0))) = true)), ((!(decide (s < 0))) = true → (!(decide (s < 0))) = true), ((!((decide (s < 0)) || (decide (n ≤ s)))) = true → ((!((decide (s < 0)) || (decide (n ≤ s)))) = true → (!((decide (s < 0)) || (decide (n ≤ s)))) = true)), ((!((decide (s < 0)) || (decide (n ≤ s)))) = true → (!((decide (s < 0)) || (decide (n ≤ s)))) = true), ((!(((decide (s < 0)) || (decide (n ≤ s))) || (decide (t < 0)))) = true → ((!(((decide (s < 0)) || (decide (n ≤ s))) || (decide (t < 0)))) = true → (!(((decide (s < 0)) || (decide (n ≤ s))) || (decide (t < 0)))) = true)), ((!(((decide (s < 0)) || (decide (n ≤ s))) || (decide (t < 0)))) = true → (0 < 1)), ((!(((decide (s < 0)) || (decide (n ≤ s))) || (decide (t < 0)))) = true → ((!(((decide (s < 0)) || (decide (n ≤ s))) || (decide (t < 0)))) = true → (!(((decide (s < 0)) || (decide (n ≤ s))) || (decide (t < 0)))) = true)), ((!(((decide (s < 0)) || (decide (n ≤ s))) || (decide (t < 0)))) = true → ((!(((decide (s < 0)) || (decide (n ≤ s))) || (decide (t < 0)))) = true → (!(((decide (s < 0)) || (decide (n ≤ s))) || (decide (t < 0)))) = true)), ((!(((decide (s < 0)) || (decide (n ≤ s))) || (decide (t < 0)))) = true → (!(((decide (s < 0)) || (decide (n ≤ s))) || (decide (t < 0)))) = true)] ⟨104, [(1, .one (.int .i64 s)), (2, .one (.int .i64 t)), (3, .one (.ptr 103 0 0)), (41, .one (.bool ((((decide (s < 0)) || (decide (n ≤ s))) || (decide (t < 0))) || (decide (n ≤ t)))))], [(103, .box 1 2 [(.int .i64 n), (.ro (.arcs es))])]⟩ hT (by kernel_rfl) ⟨(by intro hg; first | exact hg | skip; (try simp only [bs] at hg ⊢); first | exact hg | first | omega | (simp only [lens]; omega) | (simp only [lens]; done) | (simp only [nadd_eq]; omega) | (simp; done) | grind), (by intro hg; first | exact hg | skip; (try simp only [bs] at hg); first | exact hg | first | omega | (simp only [lens]; omega) | (simp only [lens]; done) | (simp only [nadd_eq]; omega) | (simp; done) | grind), (by intro hg; first | exact hg | skip; (try simp only [bs] at hg ⊢); first | exact hg | first | omega | (simp only [lens]; omega) | (simp only [lens]; done) | (simp only [nadd_eq]; omega) | (simp; done) | grind), (by intro hg; first | exact hg | skip; (try simp only [bs] at hg ⊢); first | exact hg | first | omega | (simp only [lens]; omega) | (simp only [lens]; done) | (simp only [nadd_eq]; omega) | (simp; done) | grind), (fun h => h), (by intro hg; first | exact hg | skip; (try simp only [bs] at hg ⊢); first | exact hg | first | omega | (simp only [lens]; omega) | (simp only [lens]; done) | (simp only [nadd_eq]; omega) | (simp; done) | grind), (fun h => h), (by intro hg; first | exact hg | skip; (try simp only [bs] at hg ⊢); first | exact hg | first | omega | (simp only [lens]; omega) | (simp only [lens]; done) | (simp only [nadd_eq]; omega) | (simp; done) | grind), (by intro hg; first | exact hg | skip; (try simp only [bs] at hg); first | exact hg | first | omega | (simp only [lens]; omega) | (simp only [lens]; done) | (simp only [nadd_eq]; omega) | (simp; done) | grind), (by intro hg; first | exact hg | skip; (try simp only [bs] at hg ⊢); first | exact hg | first | omega | (simp only [lens]; omega) | (simp only [lens]; done) | (simp only [nadd_eq]; omega) | (simp; done) | grind), (by intro hg; first | exact hg | skip; (try simp only [bs] at hg ⊢); first | exact hg | first | omega | (simp only [lens]; omega) | (simp only [lens]; done) | (simp only [nadd_eq]; omega) | (simp; done) | grind), (fun h => h), trivial⟩ ?_
    refine awp_cond (b := ((((decide (s < 0)) || (decide (n ≤ s))) || (decide (t < 0))) || (decide (n ≤ t)))) (by kernel_rfl) (fun c4 => ?_) (fun c4 => ?_)
    · -- yes 4
      try simp only [bs] at c4
      have hW : (wideErr n es s t) = 4 := by rw [wideErr, if_neg (by omega), if_pos (by omega)]
      have hW0 : (wideErr n es s t) ≠ 0 := by omega
      refine awp_run_seq [6, 7] [] [] ⟨104, [(6, .one (.int .i64 0)), (7, .one (.int .i64 4))], []⟩ hT (by kernel_rfl) trivial ?_
      refine awp_ret ?_
      refine kRet.ret _ [] [] (.tup [(false, [(.int .i64 0)]), (false, [(.int .i64 4)])]) [] (by kernel_rfl) trivial ?_
      exact ⟨0, 4, (by exact .inl ⟨hW0, hW.symm, rfl⟩), (by kernel_rfl), (by kernel_rfl)⟩
    · -- no 4
      try simp only [bs] at c4
      refine awp_skip ?_
      refine awp_seq ?_
      refine awp_run_seq [1, 2, 3, 44] [103] [] ⟨104, [(1, .one (.int .i64 s)), (2, .one (.int .i64 t)), (3, .one (.ptr 103 0 0)), (44, .one (.bool (decide (s = t))))], [(103, .box 1 2 [(.int .i64 n), (.ro (.arcs es))])]⟩ hT (by kernel_rfl) trivial ?_
      refine awp_cond (b := (decide (s = t))) (by kernel_rfl) (fun c6 => ?_) (fun c6 => ?_)
      · -- yes 6
        try simp only [bs] at c6
        have hW : (wideErr n es s t) = 3 := by rw [wideErr, if_neg (by omega), if_neg (by omega), if_pos (by omega)]
        have hW0 : (wideErr n es s t) ≠ 0 := by omega
        refine awp_run_seq [6, 7] [] [] ⟨104, [(6, .one (.int .i64 0)), (7, .one (.int .i64 3))], []⟩ hT (by kernel_rfl) trivial ?_
        refine awp_ret ?_
        refine kRet.ret _ [] [] (.tup [(false, [(.int .i64 0)]), (false, [(.int .i64 3)])]) [] (by kernel_rfl) trivial ?_
        exact ⟨0, 3, (by exact .inl ⟨hW0, hW.symm, rfl⟩), (by kernel_rfl), (by kernel_rfl)⟩
      · -- no 6
        try simp only [bs] at c6
        have hW0 : (wideErr n es s t) = 0 := by rw [wideErr, if_neg (by omega), if_neg (by omega), if_neg (by omega)]
        have hcl := caps_len es
        refine awp_skip ?_
        refine awp_run_seq [1, 2, 3, 9] [103, 145] [] ⟨104, [(1, .one (.int .i64 s)), (2, .one (.int .i64 t)), (3, .one (.ptr 103 0 0)), (9, .one (.rw 145 0 0))], [(103, .box 1 2 [(.int .i64 n), (.ro (.arcs es))]), (145, .flat (.ints .i64 []))]⟩ hT (by kernel_rfl) trivial ?_
        refine awp_seq ?_
        refine awp_run_seq [1, 2, 3, 9, 47, 48, 49] [103, 145] [(0 < 1)] ⟨104, [(1, .one (.int .i64 s)), (2, .one (.int .i64 t)), (3, .one (.ptr 103 0 0)), (9, .one (.rw 145 0 0)), (47, .one (.ro (.arcs es))), (48, .one (.int .i64 ((es.length : Nat) : Int))), (49, .one (.int .i64 0))], [(103, .box 1 2 [(.int .i64 n), (.ro (.arcs es))]), (145, .flat (.ints .i64 []))]⟩ hT (by kernel_rfl) ⟨(by decide), trivial⟩ ?_
        refine awp_block ?_
        refine awp_loop (I := fun κ σ => ∃ (k : Nat) (acc : List Int), ((k ≤ es.length) ∧ (acc = (es.take k).map Arc.cap) ∧ es.length - k = κ) ∧ σ = ⟨104, [(1, .one (.int .i64 s)), (2, .one (.int .i64 t)), (3, .one (.ptr 103 0 0)), (9, .one (.rw 145 0 acc.length)), (47, .one (.ro (.arcs es))), (48, .one (.int .i64 ((es.length : Nat) : Int))), (49, .one (.int .i64 ((k : Nat) : Int)))], [(103, .box 1 2 [(.int .i64 n), (.ro (.arcs es))]), (145, .flat (.ints .i64 acc))]⟩) _ ⟨0, [], ⟨(by omega), (by rfl), rfl⟩, (by kernel_rfl)⟩ ?_
        rintro κ _ ⟨k, acc, ⟨hk, hac, rfl⟩, rfl⟩
        have hal : acc.length = k := by rw [hac, List.length_map, List.length_take]; omega
        refine awp_run_seq [1, 2, 3, 9, 47, 48, 49, 50] [103, 145] [] ⟨104, [(1, .one (.int .i64 s)), (2, .one (.int .i64 t)), (3, .one (.ptr 103 0 0)), (9, .one (.rw 145 0 acc.length)), (47, .one (.ro (.arcs es))), (48, .one (.int .i64 ((es.length : Nat) : Int))), (49, .one (.int .i64 ((k : Nat) : Int))), (50, .one (.bool (decide (((k : Nat) : Int) < ((es.length : Nat) : Int)))))], [(103, .box 1 2 [(.int .i64 n), (.ro (.arcs es))]), (145, .flat (.ints .i64 acc))]⟩ hT (by kernel_rfl) trivial ?_
        refine awp_seq ?_
        refine awp_cond (b := (decide (((k : Nat) : Int) < ((es.length : Nat) : Int)))) (by kernel_rfl) (fun c10 => ?_) (fun c10 => ?_)
        · -- yes 10
          try simp only [bs] at c10
          have hkl : k < es.length := by omega
          have hms := map_snoc hkl
          refine awp_skip ?_
          refine awp_seq ?_
          refine awp_block ?_
          refine awp_run_seq [1, 2, 3, 9, 11, 47, 48, 49] [103, 111, 145] [((0 : Int) ≤ ((k : Nat) : Int)), (((k : Nat) : Int) < ((es.length : Nat) : Int)), (0 < 1)] ⟨104, [(1, .one (.int .i64 s)), (2, .one (.int .i64 t)), (3, .one (.ptr 103 0 0)), (9, .one (.rw 145 0 acc.length)), (11, .one (.ptr 111 0 0)), (47, .one (.ro (.arcs es))), (48, .one (.int .i64 ((es.length : Nat) : Int))), (49, .one (.int .i64 ((k : Nat) : Int)))], [(103, .box 1 2 [(.int .i64 n), (.ro (.arcs es))]), (111, .box 1 3 [(.int .i64 ((List.getD es k default).src)), (.int .i64 ((List.getD es k default).dst)), (.int .i64 ((List.getD es k default).cap))]), (145, .flat (.ints .i64 acc))]⟩ hT (by kernel_rfl) ⟨(by first | omega | (simp only [lens]; omega) | (simp only [lens]; done) | (simp only [nadd_eq]; omega) | (simp; done)), (by first | omega | (simp only [lens]; omega) | (simp only [lens]; done) | (simp only [nadd_eq]; omega) | (simp; done)), (by decide), trivial⟩ ?_
          refine awp_run [1, 2, 3, 9, 47, 48, 49] [103, 145] [(0 < 1), (acc.length = acc.length), ((acc.length + 1) * 8 ≤ 140737488355328), ((acc.length + 1) ≤ 9223372036854775807)] ⟨104, [(1, .one (.int .i64 s)), (2, .one (.int .i64 t)), (3, .one (.ptr 103 0 0)), (9, .one (.rw 145 0 (acc.length + 1))), (47, .one (.ro (.arcs es))), (48, .one (.int .i64 ((es.length : Nat) : Int))), (49, .one (.int .i64 ((k : Nat) : Int)))], [(103, .box 1 2 [(.int .i64 n), (.ro (.arcs es))]), (145, .flat (.ints .i64 (acc ++ [((List.getD es k default).cap)])))]⟩ hT (by kernel_rfl) ⟨(by decide), (by first | omega | (simp only [lens]; omega) | (simp only [lens]; done) | (simp only [nadd_eq]; omega) | (simp; done)), (by first | omega | (simp only [lens]; omega) | (simp only [lens]; done) | (simp only [nadd_eq]; omega) | (simp; done)), (by first | omega | (simp only [lens]; omega) | (simp only [lens]; done) | (simp only [nadd_eq]; omega) | (simp; done)), trivial⟩ ?_
          refine awp_run [1, 2, 3, 9, 47, 48, 49] [103, 145] [(-9223372036854775808 ≤ (((k + 1) : Nat) : Int) ∧ (((k + 1) : Nat) : Int) ≤ 9223372036854775807)] ⟨104, [(1, .one (.int .i64 s)), (2, .one (.int .i64 t)), (3, .one (.ptr 103 0 0)), (9, .one (.rw 145 0 (acc.length + 1))), (47, .one (.ro (.arcs es))), (48, .one (.int .i64 ((es.length : Nat) : Int))), (49, .one (.int .i64 (((k + 1) : Nat) : Int)))], [(103, .box 1 2 [(.int .i64 n), (.ro (.arcs es))]), (145, .flat (.ints .i64 (acc ++ [((List.getD es k default).cap)])))]⟩ hT (by kernel_rfl) ⟨(by first | omega | (simp only [lens]; omega) | (simp only [lens]; done) | (simp only [nadd_eq]; omega) | (simp; done)), trivial⟩ ?_
          refine loop_end _ ?_ ⟨(k + 1), (acc ++ [((List.getD es k default).cap)]), ⟨(by omega), (by rw [hms, hac]), rfl⟩, (by first | (simp only [lens]; done) | (simp only [Nat.zero_add]; done) | simp only [lens, Nat.zero_add])⟩
          omega
        · -- no 10
          try simp only [bs] at c10
          have hacf : acc = es.map Arc.cap := by rw [hac, List.take_of_length_le (by omega)]
          have hsl := sorted_len acc
          have hso : sorted acc = capList es := by rw [hacf]; rfl
          refine awp_exit ?_
          refine awp_seq (awp_region ?_)
          refine aops_run 1 [1, 2, 3, 9, 59] [103, 145] [] ⟨104, [(1, .one (.int .i64 s)), (2, .one (.int .i64 t)), (3, .one (.ptr 103 0 0)), (9, .one (.rw 145 0 acc.length)), (59, .one (.rw 145 0 acc.length))], [(103, .box 1 2 [(.int .i64 n), (.ro (.arcs es))]), (145, .flat (.ints .i64 acc))]⟩ hT (by kernel_rfl) (by kernel_rfl) trivial ?_
          refine aops_call [(1, 145)] [] false ⟨true, [], 128, [.one (.rw 1 0 acc.length)], [(1, .flat (.ints .i64 acc))]⟩ [.one (.rw 1 0 acc.length)] (sm := ⟨104, [(1, .one (.int .i64 s)), (2, .one (.int .i64 t)), (3, .one (.ptr 103 0 0)), (9, .one (.rw 145 0 acc.length)), (59, .one (.rw 145 0 acc.length)), (60, .whn false (.one .any))], [(103, .box 1 2 [(.int .i64 n), (.ro (.arcs es))]), (145, .flat (.ints .i64 acc))]⟩) (by kernel_rfl) (by kernel_rfl) (by decide) (fun _ => trivial) rfl (fun _ => sort_is 1 acc (by first | omega | (simp; omega))) (fun _ v Hr hv => ?_) (fun h => by cases h)
          obtain ⟨rfl, rfl⟩ := hv
          refine ⟨⟨104, [(1, .one (.int .i64 s)), (2, .one (.int .i64 t)), (3, .one (.ptr 103 0 0)), (9, .one (.rw 145 0 acc.length)), (59, .one (.rw 145 0 acc.length)), (60, .tup [])], [(103, .box 1 2 [(.int .i64 n), (.ro (.arcs es))]), (145, .flat (.ints .i64 (sorted acc)))]⟩, by kernel_rfl, ?_⟩
          refine aops_cut [1, 2, 3, 9] [103, 145] ⟨104, [(1, .one (.int .i64 s)), (2, .one (.int .i64 t)), (3, .one (.ptr 103 0 0)), (9, .one (.rw 145 0 acc.length))], [(103, .box 1 2 [(.int .i64 n), (.ro (.arcs es))]), (145, .flat (.ints .i64 (sorted acc)))]⟩ (by kernel_rfl) ?_
          refine aops_end_seq (by kernel_rfl) ?_
          refine awp_seq ?_
          rw [show (sorted acc) = (capList es) from hso]
          refine awp_run_seq [1, 2, 3, 61, 62, 63] [103, 145] [] ⟨104, [(1, .one (.int .i64 s)), (2, .one (.int .i64 t)), (3, .one (.ptr 103 0 0)), (61, .one (.rw 145 0 acc.length)), (62, .one (.int .i64 ((acc.length : Nat) : Int))), (63, .one (.int .i64 0))], [(103, .box 1 2 [(.int .i64 n), (.ro (.arcs es))]), (145, .flat (.ints .i64 (capList es)))]⟩ hT (by kernel_rfl) trivial ?_
          refine awp_block ?_
          refine awp_loop (I := fun κ σ => ∃ (j : Nat), ((j ≤ es.length) ∧ (NoBelow es s t j) ∧ es.length - j = κ) ∧ σ = ⟨104, [(1, .one (.int .i64 s)), (2, .one (.int .i64 t)), (3, .one (.ptr 103 0 0)), (61, .one (.rw 145 0 acc.length)), (62, .one (.int .i64 ((acc.length : Nat) : Int))), (63, .one (.int .i64 ((j : Nat) : Int)))], [(103, .box 1 2 [(.int .i64 n), (.ro (.arcs es))]), (145, .flat (.ints .i64 (capList es)))]⟩) _ ⟨0, ⟨(by omega), (by exact NoBelow.start (by omega)), rfl⟩, (by kernel_rfl)⟩ ?_
          rintro κ _ ⟨j, ⟨hj, hNB, rfl⟩, rfl⟩
          refine awp_run_seq [1, 2, 3, 61, 62, 63, 64] [103, 145] [] ⟨104, [(1, .one (.int .i64 s)), (2, .one (.int .i64 t)), (3, .one (.ptr 103 0 0)), (61, .one (.rw 145 0 acc.length)), (62, .one (.int .i64 ((acc.length : Nat) : Int))), (63, .one (.int .i64 ((j : Nat) : Int))), (64, .one (.bool (decide (((j : Nat) : Int) < ((acc.length : Nat) : Int)))))], [(103, .box 1 2 [(.int .i64 n), (.ro (.arcs es))]), (145, .flat (.ints .i64 (capList es)))]⟩ hT (by kernel_rfl) trivial ?_
          refine awp_seq ?_
          refine awp_cond (b := (decide (((j : Nat) : Int) < ((acc.length : Nat) : Int)))) (by kernel_rfl) (fun c16 => ?_) (fun c16 => ?_)
          · -- yes 16
            try simp only [bs] at c16
            have hjl : j < es.length := by omega
            have hcj := cap_in hG hjl
            refine awp_skip ?_
            refine awp_seq ?_
            refine awp_block ?_
            refine awp_run_seq [1, 2, 3, 13, 61, 62, 63] [103, 145] [((0 : Int) ≤ ((j : Nat) : Int)), (((j : Nat) : Int) < ((acc.length : Nat) : Int)), (j < (List.length (capList es)))] ⟨104, [(1, .one (.int .i64 s)), (2, .one (.int .i64 t)), (3, .one (.ptr 103 0 0)), (13, .one (.int .i64 (List.getD (capList es) j 0))), (61, .one (.rw 145 0 acc.length)), (62, .one (.int .i64 ((acc.length : Nat) : Int))), (63, .one (.int .i64 ((j : Nat) : Int)))], [(103, .box 1 2 [(.int .i64 n), (.ro (.arcs es))]), (145, .flat (.ints .i64 (capList es)))]⟩ hT (by kernel_rfl) ⟨(by first | omega | (simp only [lens]; omega) | (simp only [lens]; done) | (simp only [nadd_eq]; omega) | (simp; done)), (by first | omega | (simp only [lens]; omega) | (simp only [lens]; done) | (simp only [nadd_eq]; omega) | (simp; done)), (by first | omega | (simp only [lens]; omega) | (simp only [lens]; done) | (simp only [nadd_eq]; omega) | (simp; done)), trivial⟩ ?_
            refine awp_run_seq [1, 2, 3, 13, 14, 61, 62, 63] [103, 114, 145] [(0 < 1), (0 < 1)] ⟨104, [(1, .one (.int .i64 s)), (2, .one (.int .i64 t)), (3, .one (.ptr 103 0 0)), (13, .one (.int .i64 (List.getD (capList es) j 0))), (14, .one (.ptr 114 0 0)), (61, .one (.rw 145 0 acc.length)), (62, .one (.int .i64 ((acc.length : Nat) : Int))), (63, .one (.int .i64 ((j : Nat) : Int)))], [(103, .box 1 2 [(.int .i64 n), (.ro (.arcs es))]), (114, .box 1 2 [(.int .i64 n), .nils]), (145, .flat (.ints .i64 (capList es)))]⟩ hT (by kernel_rfl) ⟨(by decide), (by decide), trivial⟩ ?_
            refine awp_seq ?_
            refine awp_run_seq [1, 2, 3, 13, 14, 61, 62, 63, 71, 72, 73] [103, 114, 145] [(0 < 1)] ⟨104, [(1, .one (.int .i64 s)), (2, .one (.int .i64 t)), (3, .one (.ptr 103 0 0)), (13, .one (.int .i64 (List.getD (capList es) j 0))), (14, .one (.ptr 114 0 0)), (61, .one (.rw 145 0 acc.length)), (62, .one (.int .i64 ((acc.length : Nat) : Int))), (63, .one (.int .i64 ((j : Nat) : Int))), (71, .one (.ro (.arcs es))), (72, .one (.int .i64 ((es.length : Nat) : Int))), (73, .one (.int .i64 0))], [(103, .box 1 2 [(.int .i64 n), (.ro (.arcs es))]), (114, .box 1 2 [(.int .i64 n), .nils]), (145, .flat (.ints .i64 (capList es)))]⟩ hT (by kernel_rfl) ⟨(by decide), trivial⟩ ?_
            refine awp_block ?_
            refine awp_weak (awk_empty 7401 (.flat (.arcs [])) rfl (by decide) _) ?_
            refine awp_weak (awk_boxcell 114 1 1 2 [(.int .i64 n), .nils] .nils (.rw 7401 0 0) _ (by kernel_rfl) rfl (wkv_nils (o := .flat (.arcs [])) (by kernel_rfl))) ?_
            refine awp_loop (I := fun κ σ => ∃ (i : Nat) (A : List Arc), ((i ≤ es.length) ∧ (A = capA (es.take i) (List.getD (capList es) j 0)) ∧ es.length - i = κ) ∧ σ = ⟨104, [(1, .one (.int .i64 s)), (2, .one (.int .i64 t)), (3, .one (.ptr 103 0 0)), (13, .one (.int .i64 (List.getD (capList es) j 0))), (14, .one (.ptr 114 0 0)), (61, .one (.rw 145 0 acc.length)), (62, .one (.int .i64 ((acc.length : Nat) : Int))), (63, .one (.int .i64 ((j : Nat) : Int))), (71, .one (.ro (.arcs es))), (72, .one (.int .i64 ((es.length : Nat) : Int))), (73, .one (.int .i64 ((i : Nat) : Int)))], [(103, .box 1 2 [(.int .i64 n), (.ro (.arcs es))]), (114, .box 1 2 [(.int .i64 n), (.rw 7401 0 A.length)]), (145, .flat (.ints .i64 (capList es))), (7401, .flat (.arcs A))]⟩) _ ⟨0, [], ⟨(by omega), (by rfl), rfl⟩, (by kernel_rfl)⟩ ?_
            rintro κ _ ⟨i, A, ⟨hi, hAe, rfl⟩, rfl⟩
            have hAl : A.length ≤ es.length := by rw [hAe]; unfold capA; exact Nat.le_trans (List.length_filter_le _ _) (by rw [List.length_take]; omega)
            refine awp_run_seq [1, 2, 3, 13, 14, 61, 62, 63, 71, 72, 73, 74] [103, 114, 145, 7401] [] ⟨104, [(1, .one (.int .i64 s)), (2, .one (.int .i64 t)), (3, .one (.ptr 103 0 0)), (13, .one (.int .i64 (List.getD (capList es) j 0))), (14, .one (.ptr 114 0 0)), (61, .one (.rw 145 0 acc.length)), (62, .one (.int .i64 ((acc.length : Nat) : Int))), (63, .one (.int .i64 ((j : Nat) : Int))), (71, .one (.ro (.arcs es))), (72, .one (.int .i64 ((es.length : Nat) : Int))), (73, .one (.int .i64 ((i : Nat) : Int))), (74, .one (.bool (decide (((i : Nat) : Int) < ((es.length : Nat) : Int)))))], [(103, .box 1 2 [(.int .i64 n), (.ro (.arcs es))]), (114, .box 1 2 [(.int .i64 n), (.rw 7401 0 A.length)]), (145, .flat (.ints .i64 (capList es))), (7401, .flat (.arcs A))]⟩ hT (by kernel_rfl) trivial ?_
            refine awp_seq ?_
            refine awp_cond (b := (decide (((i : Nat) : Int) < ((es.length : Nat) : Int)))) (by kernel_rfl) (fun c20 => ?_) (fun c20 => ?_)
            · -- yes 20
              try simp only [bs] at c20
              have hil : i < es.length := by omega
              have hct := capA_take (c := (List.getD (capList es) j 0)) hil
              refine awp_skip ?_
              refine awp_seq ?_
              refine awp_block ?_
              refine awp_run_seq [1, 2, 3, 13, 14, 16, 61, 62, 63, 71, 72, 73] [103, 114, 116, 145, 7401] [((0 : Int) ≤ ((i : Nat) : Int)), (((i : Nat) : Int) < ((es.length : Nat) : Int)), (0 < 1)] ⟨104, [(1, .one (.int .i64 s)), (2, .one (.int .i64 t)), (3, .one (.ptr 103 0 0)), (13, .one (.int .i64 (List.getD (capList es) j 0))), (14, .one (.ptr 114 0 0)), (16, .one (.ptr 116 0 0)), (61, .one (.rw 145 0 acc.length)), (62, .one (.int .i64 ((acc.length : Nat) : Int))), (63, .one (.int .i64 ((j : Nat) : Int))), (71, .one (.ro (.arcs es))), (72, .one (.int .i64 ((es.length : Nat) : Int))), (73, .one (.int .i64 ((i : Nat) : Int)))], [(103, .box 1 2 [(.int .i64 n), (.ro (.arcs es))]), (114, .box 1 2 [(.int .i64 n), (.rw 7401 0 A.length)]), (116, .box 1 3 [(.int .i64 ((List.getD es i default).src)), (.int .i64 ((List.getD es i default).dst)), (.int .i64 ((List.getD es i default).cap))]), (145, .flat (.ints .i64 (capList es))), (7401, .flat (.arcs A))]⟩ hT (by kernel_rfl) ⟨(by first | omega | (simp only [lens]; omega) | (simp only [lens]; done) | (simp only [nadd_eq]; omega) | (simp; done)), (by first | omega | (simp only [lens]; omega) | (simp only [lens]; done) | (simp only [nadd_eq]; omega) | (simp; done)), (by decide), trivial⟩ ?_
              refine awp_run_seq [1, 2, 3, 13, 14, 16, 61, 62, 63, 71, 72, 73, 80] [103, 114, 116, 145, 7401] [(0 < 1)] ⟨104, [(1, .one (.int .i64 s)), (2, .one (.int .i64 t)), (3, .one (.ptr 103 0 0)), (13, .one (.int .i64 (List.getD (capList es) j 0))), (14, .one (.ptr 114 0 0)), (16, .one (.ptr 116 0 0)), (61, .one (.rw 145 0 acc.length)), (62, .one (.int .i64 ((acc.length : Nat) : Int))), (63, .one (.int .i64 ((j : Nat) : Int))), (71, .one (.ro (.arcs es))), (72, .one (.int .i64 ((es.length : Nat) : Int))), (73, .one (.int .i64 ((i : Nat) : Int))), (80, .one (.bool (decide (((List.getD es i default).cap) ≤ (List.getD (capList es) j 0)))))], [(103, .box 1 2 [(.int .i64 n), (.ro (.arcs es))]), (114, .box 1 2 [(.int .i64 n), (.rw 7401 0 A.length)]), (116, .box 1 3 [(.int .i64 ((List.getD es i default).src)), (.int .i64 ((List.getD es i default).dst)), (.int .i64 ((List.getD es i default).cap))]), (145, .flat (.ints .i64 (capList es))), (7401, .flat (.arcs A))]⟩ hT (by kernel_rfl) ⟨(by decide), trivial⟩ ?_
              refine awp_cond (b := (decide (((List.getD es i default).cap) ≤ (List.getD (capList es) j 0)))) (by kernel_rfl) (fun c22 => ?_) (fun c22 => ?_)
              · -- yes 22
                try simp only [bs] at c22
                have hy : A ++ [(es.getD i default)] = capA (es.take (i + 1)) (List.getD (capList es) j 0) := by rw [hct, if_pos (by omega), hAe]
                refine awp_region ?_
                refine aops_run 7 [1, 2, 3, 13, 14, 61, 62, 63, 71, 72, 73] [103, 114, 145, 7401] [(0 < 1), (0 < 1), (A.length = A.length), ((A.length + 1) * 24 ≤ 140737488355328), ((A.length + 1) ≤ 9223372036854775807), (0 < 1)] ⟨104, [(1, .one (.int .i64 s)), (2, .one (.int .i64 t)), (3, .one (.ptr 103 0 0)), (13, .one (.int .i64 (List.getD (capList es) j 0))), (14, .one (.ptr 114 0 0)), (61, .one (.rw 145 0 acc.length)), (62, .one (.int .i64 ((acc.length : Nat) : Int))), (63, .one (.int .i64 ((j : Nat) : Int))), (71, .one (.ro (.arcs es))), (72, .one (.int .i64 ((es.length : Nat) : Int))), (73, .one (.int .i64 ((i : Nat) : Int)))], [(103, .box 1 2 [(.int .i64 n), (.ro (.arcs es))]), (114, .box 1 2 [(.int .i64 n), (.rw 7401 0 (A.length + 1))]), (145, .flat (.ints .i64 (capList es))), (7401, .flat (.arcs (A ++ [⟨((List.getD es i default).src), ((List.getD es i default).dst), ((List.getD es i default).cap)⟩])))]⟩ hT (by kernel_rfl) (by kernel_rfl) ⟨(by decide), (by decide), (by first | omega | (simp only [lens]; omega) | (simp only [lens]; done) | (simp only [nadd_eq]; omega) | (simp; done)), (by first | omega | (simp only [lens]; omega) | (simp only [lens]; done) | (simp only [nadd_eq]; omega) | (simp; done)), (by first | omega | (simp only [lens]; omega) | (simp only [lens]; done) | (simp only [nadd_eq]; omega) | (simp; done)), (by decide), trivial⟩ ?_
                refine aops_end (by kernel_rfl) ?_
                refine awp_run [1, 2, 3, 13, 14, 61, 62, 63, 71, 72, 73] [103, 114, 145, 7401] [(-9223372036854775808 ≤ (((i + 1) : Nat) : Int) ∧ (((i + 1) : Nat) : Int) ≤ 9223372036854775807)] ⟨104, [(1, .one (.int .i64 s)), (2, .one (.int .i64 t)), (3, .one (.ptr 103 0 0)), (13, .one (.int .i64 (List.getD (capList es) j 0))), (14, .one (.ptr 114 0 0)), (61, .one (.rw 145 0 acc.length)), (62, .one (.int .i64 ((acc.length : Nat) : Int))), (63, .one (.int .i64 ((j : Nat) : Int))), (71, .one (.ro (.arcs es))), (72, .one (.int .i64 ((es.length : Nat) : Int))), (73, .one (.int .i64 (((i + 1) : Nat) : Int)))], [(103, .box 1 2 [(.int .i64 n), (.ro (.arcs es))]), (114, .box 1 2 [(.int .i64 n), (.rw 7401 0 (A.length + 1))]), (145, .flat (.ints .i64 (capList es))), (7401, .flat (.arcs (A ++ [⟨((List.getD es i default).src), ((List.getD es i default).dst), ((List.getD es i default).cap)⟩])))]⟩ hT (by kernel_rfl) ⟨(by first | omega | (simp only [lens]; omega) | (simp only [lens]; done) | (simp only [nadd_eq]; omega) | (simp; done)), trivial⟩ ?_
                refine loop_end _ ?_ ⟨(i + 1), (A ++ [⟨((List.getD es i default).src), ((List.getD es i default).dst), ((List.getD es i default).cap)⟩]), ⟨(by omega), (by first | exact hy | exact hn), rfl⟩, (by first | (simp only [lens]; done) | (simp only [Nat.zero_add]; done) | simp only [lens, Nat.zero_add])⟩
                omega
              · -- no 22
                try simp only [bs] at c22
                have hn : A = capA (es.take (i + 1)) (List.getD (capList es) j 0) := by rw [hct, if_neg (by omega), hAe, List.append_nil]
                refine awp_skip ?_
                refine awp_run [1, 2, 3, 13, 14, 61, 62, 63, 71, 72, 73] [103, 114, 145, 7401] [(-9223372036854775808 ≤ (((i + 1) : Nat) : Int) ∧ (((i + 1) : Nat) : Int) ≤ 9223372036854775807)] ⟨104, [(1, .one (.int .i64 s)), (2, .one (.int .i64 t)), (3, .one (.ptr 103 0 0)), (13, .one (.int .i64 (List.getD (capList es) j 0))), (14, .one (.ptr 114 0 0)), (61, .one (.rw 145 0 acc.length)), (62, .one (.int .i64 ((acc.length : Nat) : Int))), (63, .one (.int .i64 ((j : Nat) : Int))), (71, .one (.ro (.arcs es))), (72, .one (.int .i64 ((es.length : Nat) : Int))), (73, .one (.int .i64 (((i + 1) : Nat) : Int)))], [(103, .box 1 2 [(.int .i64 n), (.ro (.arcs es))]), (114, .box 1 2 [(.int .i64 n), (.rw 7401 0 A.length)]), (145, .flat (.ints .i64 (capList es))), (7401, .flat (.arcs A))]⟩ hT (by kernel_rfl) ⟨(by first | omega | (simp only [lens]; omega) | (simp only [lens]; done) | (simp only [nadd_eq]; omega) | (simp; done)), trivial⟩ ?_
                refine loop_end _ ?_ ⟨(i + 1), A, ⟨(by omega), (by first | exact hy | exact hn), rfl⟩, (by kernel_rfl)⟩
                omega
            · -- no 20
              try simp only [bs] at c20
              have hAf : A = capA es (List.getD (capList es) j 0) := by rw [hAe]; exact capA_all (by omega)
              have hGA : GOk n A (-10000) := by rw [hAf]; exact capA_ok hG _
              have hEA := hGA.err
              have hokA : okL (graphErr n A (-10000)) (joinedOf n A) = joinedOf n A := okL_ok _ hEA
              have hjA := joinedOf_len n A
              have hlr := lk_root (u := s.toNat) (v := t.toNat) (by omega) hGA.inR (by omega) (by omega)
              rw [Int.toNat_of_nonneg (by omega : 0 ≤ s), Int.toNat_of_nonneg (by omega : 0 ≤ t)] at hlr
              refine awp_exit ?_
              refine awp_weak (awk_seal 7401 (s' := ⟨104, [(1, .one (.int .i64 s)), (2, .one (.int .i64 t)), (3, .one (.ptr 103 0 0)), (13, .one (.int .i64 (List.getD (capList es) j 0))), (14, .one (.ptr 114 0 0)), (61, .one (.rw 145 0 acc.length)), (62, .one (.int .i64 ((acc.length : Nat) : Int))), (63, .one (.int .i64 ((j : Nat) : Int))), (71, .one (.ro (.arcs es))), (72, .one (.int .i64 ((es.length : Nat) : Int))), (73, .one (.int .i64 ((i : Nat) : Int))), (74, .one (.bool (decide (((i : Nat) : Int) < ((es.length : Nat) : Int)))))], [(103, .box 1 2 [(.int .i64 n), (.ro (.arcs es))]), (114, .box 1 2 [(.int .i64 n), (.ro (.arcs (List.take A.length A)))]), (145, .flat (.ints .i64 (capList es)))]⟩) (by kernel_rfl)) ?_
              rw [show (List.take A.length A) = A from List.take_of_length_le (by first | omega | simp)]
              refine awp_seq (awp_region ?_)
              refine aops_run 1 [1, 2, 3, 13, 61, 62, 63, 89] [103, 145] [(0 < 1)] ⟨104, [(1, .one (.int .i64 s)), (2, .one (.int .i64 t)), (3, .one (.ptr 103 0 0)), (13, .one (.int .i64 (List.getD (capList es) j 0))), (61, .one (.rw 145 0 acc.length)), (62, .one (.int .i64 ((acc.length : Nat) : Int))), (63, .one (.int .i64 ((j : Nat) : Int))), (89, .agg [(.int .i64 n), (.ro (.arcs A))])], [(103, .box 1 2 [(.int .i64 n), (.ro (.arcs es))]), (145, .flat (.ints .i64 (capList es)))]⟩ hT (by kernel_rfl) (by kernel_rfl) ⟨(by decide), trivial⟩ ?_
              refine aops_pure false ⟨true, [], 106, [.agg [(.int .i64 n), (.ro (.arcs A))]], []⟩ [.agg [(.int .i64 n), (.ro (.arcs A))]] (.tup [(false, [(.ro (.ints .i64 (okL (graphErr n A (-10000)) (joinedOf n A))))]), (false, [(.int .i64 (graphErr n A (-10000)))])]) ⟨104, [(1, .one (.int .i64 s)), (2, .one (.int .i64 t)), (3, .one (.ptr 103 0 0)), (13, .one (.int .i64 (List.getD (capList es) j 0))), (61, .one (.rw 145 0 acc.length)), (62, .one (.int .i64 ((acc.length : Nat) : Int))), (63, .one (.int .i64 ((j : Nat) : Int))), (89, .agg [(.int .i64 n), (.ro (.arcs A))]), (90, .tup [(false, [(.ro (.ints .i64 (okL (graphErr n A (-10000)) (joinedOf n A))))]), (false, [(.int .i64 (graphErr n A (-10000)))])])], [(103, .box 1 2 [(.int .i64 n), (.ro (.arcs es))]), (145, .flat (.ints .i64 (capList es)))]⟩ (by kernel_rfl) (by kernel_rfl) (fun _ => trivial) rfl (fun _ => walk_parts n A) ?_
              rw [show (okL (graphErr n A (-10000)) (joinedOf n A)) = (joinedOf n A) from hokA]
              refine aops_run 5 [1, 2, 3, 13, 17, 61, 62, 63] [103, 145] [] ⟨104, [(1, .one (.int .i64 s)), (2, .one (.int .i64 t)), (3, .one (.ptr 103 0 0)), (13, .one (.int .i64 (List.getD (capList es) j 0))), (17, .one (.ro (.ints .i64 (joinedOf n A)))), (61, .one (.rw 145 0 acc.length)), (62, .one (.int .i64 ((acc.length : Nat) : Int))), (63, .one (.int .i64 ((j : Nat) : Int)))], [(103, .box 1 2 [(.int .i64 n), (.ro (.arcs es))]), (145, .flat (.ints .i64 (capList es)))]⟩ hT (by kernel_rfl) (by kernel_rfl) trivial ?_
              refine aops_end_seq (by kernel_rfl) ?_
              refine awp_seq (awp_still [1, 2, 3, 13, 61, 62, 63, 101] [103, 145] [((0 : Int) ≤ s), (s < (((List.length (joinedOf n A)) : Nat) : Int)), ((0 : Int) ≤ t), (t < (((List.length (joinedOf n A)) : Nat) : Int))] ⟨104, [(1, .one (.int .i64 s)), (2, .one (.int .i64 t)), (3, .one (.ptr 103 0 0)), (13, .one (.int .i64 (List.getD (capList es) j 0))), (61, .one (.rw 145 0 acc.length)), (62, .one (.int .i64 ((acc.length : Nat) : Int))), (63, .one (.int .i64 ((j : Nat) : Int))), (101, .one (.bool (decide ((List.getD (joinedOf n A) (Int.toNat s) 0) = (List.getD (joinedOf n A) (Int.toNat t) 0)))))], [(103, .box 1 2 [(.int .i64 n), (.ro (.arcs es))]), (145, .flat (.ints .i64 (capList es)))]⟩ (by kernel_rfl) (by kernel_rfl) hT (by kernel_rfl) ⟨(by first | omega | (simp only [lens]; omega) | (simp only [lens]; done) | (simp only [nadd_eq]; omega) | (simp; done)), (by first | omega | (simp only [lens]; omega) | (simp only [lens]; done) | (simp only [nadd_eq]; omega) | (simp; done)), (by first | omega | (simp only [lens]; omega) | (simp only [lens]; done) | (simp only [nadd_eq]; omega) | (simp; done)), (by first | omega | (simp only [lens]; omega) | (simp only [lens]; done) | (simp only [nadd_eq]; omega) | (simp; done)), trivial⟩ ?_)
              refine awp_cond (b := (decide ((List.getD (joinedOf n A) (Int.toNat s) 0) = (List.getD (joinedOf n A) (Int.toNat t) 0)))) (by kernel_rfl) (fun c26 => ?_) (fun c26 => ?_)
              · -- yes 26
                try simp only [bs] at c26
                have hlk : Lk (capA es (List.getD (capList es) j 0)) s t := by rw [← hAf]; exact hlr.1 c26
                have hlow : ∀ c2, c2 < (List.getD (capList es) j 0) → ¬ Lk (capA es c2) s t := fun c2 h => hNB c2 (fun _ => h)
                refine awp_run_seq [6, 7] [] [] ⟨104, [(6, .one (.int .i64 (List.getD (capList es) j 0))), (7, .one (.int .i64 0))], []⟩ hT (by kernel_rfl) trivial ?_
                refine awp_ret ?_
                refine kRet.ret _ [] [] (.tup [(false, [(.int .i64 (List.getD (capList es) j 0))]), (false, [(.int .i64 0)])]) [] (by kernel_rfl) trivial ?_
                exact ⟨(List.getD (capList es) j 0), 0, (by exact .inr ⟨hW0, .inl ⟨rfl, hlk, hlow, hcj⟩⟩), (by kernel_rfl), (by kernel_rfl)⟩
              · -- no 26
                try simp only [bs] at c26
                have hnx := NoBelow.next (s := s) (t := t) hjl (by rw [← hAf]; exact fun q => c26 (hlr.2 q))
                refine awp_skip ?_
                refine awp_run [1, 2, 3, 61, 62, 63] [103, 145] [(-9223372036854775808 ≤ (((j + 1) : Nat) : Int) ∧ (((j + 1) : Nat) : Int) ≤ 9223372036854775807)] ⟨104, [(1, .one (.int .i64 s)), (2, .one (.int .i64 t)), (3, .one (.ptr 103 0 0)), (61, .one (.rw 145 0 acc.length)), (62, .one (.int .i64 ((acc.length : Nat) : Int))), (63, .one (.int .i64 (((j + 1) : Nat) : Int)))], [(103, .box 1 2 [(.int .i64 n), (.ro (.arcs es))]), (145, .flat (.ints .i64 (capList es)))]⟩ hT (by kernel_rfl) ⟨(by first | omega | (simp only [lens]; omega) | (simp only [lens]; done) | (simp only [nadd_eq]; omega) | (simp; done)), trivial⟩ ?_
                refine loop_end _ ?_ ⟨(j + 1), ⟨(by omega), (by exact hnx), rfl⟩, (by kernel_rfl)⟩
                omega
          · -- no 16
            try simp only [bs] at c16
            have hnone : ∀ c2, ¬ Lk (capA es c2) s t := fun c2 => hNB c2 (fun h => by omega)
            refine awp_exit ?_
            refine awp_run_seq [6, 7] [] [] ⟨104, [(6, .one (.int .i64 0)), (7, .one (.int .i64 5))], []⟩ hT (by kernel_rfl) trivial ?_
            refine awp_ret ?_
            refine kRet.ret _ [] [] (.tup [(false, [(.int .i64 0)]), (false, [(.int .i64 5)])]) [] (by kernel_rfl) trivial ?_
            exact ⟨0, 5, (by exact .inr ⟨hW0, .inr ⟨rfl, rfl, hnone⟩⟩), (by kernel_rfl), (by kernel_rfl)⟩

end Go.Ab
