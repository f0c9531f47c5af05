/- Of short: Heights, All. -/
import Derived.Test.YtglkldhjffnhhaaTab
import Derived.Test.YtglkldhjffnhhaaShort2
set_option maxRecDepth 100000
namespace Go.Ab
open Go Go.Proofs
theorem short_heights (n : Int) (es : List Arc) : ACall Try.prog 29 [.agg [(.int .i64 n), (.ro (.arcs es))]] [] (fun ov oh => ∃ (f : List Int) (e : Int), (HeightOk n es f e) ∧ ov = .tup [(false, [(.ro (.ints .i64 f))]), (false, [(.int .i64 e)])] ∧ oh = []) := by
  refine acall_intro hT Try.func29 rfl (by kernel_rfl) rfl (by kernel_rfl) ?_
  refine awp_run_seq [1] [101] [] ⟨34, [(1, .one (.ptr 101 0 0))], [(101, .box 1 2 [(.int .i64 n), (.ro (.arcs es))])]⟩ hT (by kernel_rfl) trivial ?_
  refine awp_seq ?_
  refine awp_seq (awp_region ?_)
  refine aops_run 1 [1, 8] [101] [(0 < 1)] ⟨34, [(1, .one (.ptr 101 0 0)), (8, .agg [(.int .i64 n), (.ro (.arcs es))])], [(101, .box 1 2 [(.int .i64 n), (.ro (.arcs es))])]⟩ hT (by kernel_rfl) (by kernel_rfl) ⟨(by decide), trivial⟩ ?_
  refine aops_pure false ⟨true, [], 97, [.agg [(.int .i64 n), (.ro (.arcs es))]], []⟩ [.agg [(.int .i64 n), (.ro (.arcs es))]] (.one (.int .i64 (graphErr n es (-10000)))) ⟨34, [(1, .one (.ptr 101 0 0)), (8, .agg [(.int .i64 n), (.ro (.arcs es))]), (9, .one (.int .i64 (graphErr n es (-10000))))], [(101, .box 1 2 [(.int .i64 n), (.ro (.arcs es))])]⟩ (by kernel_rfl) (by kernel_rfl) (fun _ => trivial) rfl (fun _ => graph_CheckLong n es) ?_
  refine aops_run 1 [1, 4] [101] [] ⟨34, [(1, .one (.ptr 101 0 0)), (4, .one (.int .i64 (graphErr n es (-10000))))], [(101, .box 1 2 [(.int .i64 n), (.ro (.arcs es))])]⟩ hT (by kernel_rfl) (by kernel_rfl) trivial ?_
  refine aops_end_seq (by kernel_rfl) ?_
  refine awp_run_seq [1, 4, 11] [101] [] ⟨34, [(1, .one (.ptr 101 0 0)), (4, .one (.int .i64 (graphErr n es (-10000)))), (11, .one (.bool (decide ((graphErr n es (-10000)) ≠ 0))))], [(101, .box 1 2 [(.int .i64 n), (.ro (.arcs es))])]⟩ hT (by kernel_rfl) trivial ?_
  refine awp_cond (b := (decide ((graphErr n es (-10000)) ≠ 0))) (by kernel_rfl) (fun c2 => ?_) (fun c2 => ?_)
  · -- yes 2
    try simp only [bs] at c2
    refine awp_run_seq [2, 3] [] [] ⟨34, [(2, .one .nils), (3, .one (.int .i64 (graphErr n es (-10000))))], []⟩ hT (by kernel_rfl) trivial ?_
    refine awp_weak (awk_slot 2 (.one .nils) (.one (.ro (.ints .i64 []))) _ (by kernel_rfl) (.one (wkv_nil0 rfl))) ?_
    refine awp_ret ?_
    refine kRet.ret _ [] [] (.tup [(false, [(.ro (.ints .i64 []))]), (false, [(.int .i64 (graphErr n es (-10000)))])]) [] (by kernel_rfl) trivial ?_
    exact ⟨[], (graphErr n es (-10000)), (by exact .inl ⟨c2, rfl, rfl⟩), (by kernel_rfl), (by kernel_rfl)⟩
  · -- no 2
    try simp only [bs] at c2
    have hE : (graphErr n es (-10000)) = 0 := by omega
    have hG := graphErr_ok hE
    have h1 := hG.n1
    have h2 := hG.n2
    have hA := hG.inR
    have hle := hG.len
    refine awp_skip ?_
    -- 8 of 8 operations in any order; 1 orders of the rest
    refine awp_seq (awp_calm2 [] false [[], [0], [0, 1], [], [3], [3, 4], [0, 1, 2], [0, 1, 2, 3, 4, 5, 6]] 8 [1, 5, 6] [101, 115, 118] [(0, []), (1, [(0 < 1)]), (2, [((0 : Int) ≤ n), (n ≤ n), ((8 : Int) * n ≤ 281474976710656), (n ≤ 9223372036854775807)]), (3, []), (4, [(0 < 1)]), (5, [((0 : Int) ≤ n), (n ≤ n), ((1 : Int) * n ≤ 281474976710656), (n ≤ 9223372036854775807)]), (6, []), (7, [])] [] 1 ⟨34, [(1, .one (.ptr 101 0 0)), (5, .one (.rw 115 0 (Int.toNat n))), (6, .one (.rw 118 0 (Int.toNat n)))], [(101, .box 1 2 [(.int .i64 n), (.ro (.arcs es))]), (115, .flat (.ints .i64 (List.replicate (Int.toNat n) (0 : Int)))), (118, .flat (.bools (List.replicate (Int.toNat n) false)))]⟩ (by kernel_rfl) (by kernel_rfl) hT (by kernel_rfl) (by kernel_rfl) ⟨trivial, ⟨(by decide), trivial⟩, ⟨(by first | omega | (simp only [lens]; omega) | (simp only [Bool.cond_decide]; omega) | (simp only [nadd_eq]; omega)), (by first | omega | (simp only [lens]; omega) | (simp only [Bool.cond_decide]; omega) | (simp only [nadd_eq]; omega)), (by first | omega | (simp only [lens]; omega) | (simp only [Bool.cond_decide]; omega) | (simp only [nadd_eq]; omega)), (by first | omega | (simp only [lens]; omega) | (simp only [Bool.cond_decide]; omega) | (simp only [nadd_eq]; omega)), trivial⟩, trivial, ⟨(by decide), trivial⟩, ⟨(by first | omega | (simp only [lens]; omega) | (simp only [Bool.cond_decide]; omega) | (simp only [nadd_eq]; omega)), (by first | omega | (simp only [lens]; omega) | (simp only [Bool.cond_decide]; omega) | (simp only [nadd_eq]; omega)), (by first | omega | (simp only [lens]; omega) | (simp only [Bool.cond_decide]; omega) | (simp only [nadd_eq]; omega)), (by first | omega | (simp only [lens]; omega) | (simp only [Bool.cond_decide]; omega) | (simp only [nadd_eq]; omega)), trivial⟩, trivial, trivial, trivial⟩ trivial ?_)
    refine awp_seq ?_
    refine awp_run_seq [1, 5, 6, 20, 21] [101, 115, 118] [] ⟨34, [(1, .one (.ptr 101 0 0)), (5, .one (.rw 115 0 (Int.toNat n))), (6, .one (.rw 118 0 (Int.toNat n))), (20, .one (.int .i64 (((Int.toNat n) : Nat) : Int))), (21, .one (.int .i64 0))], [(101, .box 1 2 [(.int .i64 n), (.ro (.arcs es))]), (115, .flat (.ints .i64 (List.replicate (Int.toNat n) (0 : Int)))), (118, .flat (.bools (List.replicate (Int.toNat n) false)))]⟩ hT (by kernel_rfl) trivial ?_
    refine awp_block ?_
    refine awp_loop (I := fun κ σ => ∃ (k : Nat) (K : List Bool), ((k ≤ n.toNat) ∧ (K.length = n.toNat) ∧ (∀ v, v < k → K.getD v false = true) ∧ n.toNat - k = κ) ∧ σ = ⟨34, [(1, .one (.ptr 101 0 0)), (5, .one (.rw 115 0 (Int.toNat n))), (6, .one (.rw 118 0 (Int.toNat n))), (20, .one (.int .i64 (((Int.toNat n) : Nat) : Int))), (21, .one (.int .i64 ((k : Nat) : Int)))], [(101, .box 1 2 [(.int .i64 n), (.ro (.arcs es))]), (115, .flat (.ints .i64 (List.replicate (Int.toNat n) (0 : Int)))), (118, .flat (.bools K))]⟩) _ ⟨0, (List.replicate (Int.toNat n) false), ⟨(by omega), (by simp), (by intro v hv; omega), rfl⟩, (by kernel_rfl)⟩ ?_
    rintro κ _ ⟨k, K, ⟨hk, hKl, hK, rfl⟩, rfl⟩
    refine awp_run_seq [1, 5, 6, 20, 21, 22] [101, 115, 118] [] ⟨34, [(1, .one (.ptr 101 0 0)), (5, .one (.rw 115 0 (Int.toNat n))), (6, .one (.rw 118 0 (Int.toNat n))), (20, .one (.int .i64 (((Int.toNat n) : Nat) : Int))), (21, .one (.int .i64 ((k : Nat) : Int))), (22, .one (.bool (decide (((k : Nat) : Int) < (((Int.toNat n) : Nat) : Int)))))], [(101, .box 1 2 [(.int .i64 n), (.ro (.arcs es))]), (115, .flat (.ints .i64 (List.replicate (Int.toNat n) (0 : Int)))), (118, .flat (.bools K))]⟩ hT (by kernel_rfl) trivial ?_
    refine awp_seq ?_
    refine awp_cond (b := (decide (((k : Nat) : Int) < (((Int.toNat n) : Nat) : Int)))) (by kernel_rfl) (fun c6 => ?_) (fun c6 => ?_)
    · -- yes 6
      try simp only [bs] at c6
      refine awp_skip ?_
      refine awp_seq ?_
      refine awp_block ?_
      refine awp_run_seq [1, 5, 6, 7, 20, 21] [101, 115, 118] [] ⟨34, [(1, .one (.ptr 101 0 0)), (5, .one (.rw 115 0 (Int.toNat n))), (6, .one (.rw 118 0 (Int.toNat n))), (7, .one (.int .i64 ((k : Nat) : Int))), (20, .one (.int .i64 (((Int.toNat n) : Nat) : Int))), (21, .one (.int .i64 ((k : Nat) : Int)))], [(101, .box 1 2 [(.int .i64 n), (.ro (.arcs es))]), (115, .flat (.ints .i64 (List.replicate (Int.toNat n) (0 : Int)))), (118, .flat (.bools K))]⟩ hT (by kernel_rfl) trivial ?_
      refine awp_run [1, 5, 6, 20, 21] [101, 115, 118] [((0 : Int) ≤ ((k : Nat) : Int)), (((k : Nat) : Int) < (((Int.toNat n) : Nat) : Int)), (k < K.length)] ⟨34, [(1, .one (.ptr 101 0 0)), (5, .one (.rw 115 0 (Int.toNat n))), (6, .one (.rw 118 0 (Int.toNat n))), (20, .one (.int .i64 (((Int.toNat n) : Nat) : Int))), (21, .one (.int .i64 ((k : Nat) : Int)))], [(101, .box 1 2 [(.int .i64 n), (.ro (.arcs es))]), (115, .flat (.ints .i64 (List.replicate (Int.toNat n) (0 : Int)))), (118, .flat (.bools (List.set K k true)))]⟩ hT (by kernel_rfl) ⟨(by first | omega | (simp only [lens]; omega) | (simp only [Bool.cond_decide]; omega) | (simp only [nadd_eq]; omega)), (by first | omega | (simp only [lens]; omega) | (simp only [Bool.cond_decide]; omega) | (simp only [nadd_eq]; omega)), (by first | omega | (simp only [lens]; omega) | (simp only [Bool.cond_decide]; omega) | (simp only [nadd_eq]; omega)), trivial⟩ ?_
      refine awp_run [1, 5, 6, 20, 21] [101, 115, 118] [(-9223372036854775808 ≤ (((k + 1) : Nat) : Int) ∧ (((k + 1) : Nat) : Int) ≤ 9223372036854775807)] ⟨34, [(1, .one (.ptr 101 0 0)), (5, .one (.rw 115 0 (Int.toNat n))), (6, .one (.rw 118 0 (Int.toNat n))), (20, .one (.int .i64 (((Int.toNat n) : Nat) : Int))), (21, .one (.int .i64 (((k + 1) : Nat) : Int)))], [(101, .box 1 2 [(.int .i64 n), (.ro (.arcs es))]), (115, .flat (.ints .i64 (List.replicate (Int.toNat n) (0 : Int)))), (118, .flat (.bools (List.set K k true)))]⟩ hT (by kernel_rfl) ⟨(by first | omega | (simp only [lens]; omega) | (simp only [Bool.cond_decide]; omega) | (simp only [nadd_eq]; omega)), trivial⟩ ?_
      refine loop_end _ ?_ ⟨(k + 1), (List.set K k true), ⟨(by omega), (by rw [List.length_set]; exact hKl), (by intro v hv; rcases Nat.lt_succ_iff_lt_or_eq.1 hv with q | q; rw [getD_set_ne _ _ _ _ _ (by omega)]; exact hK v q; subst q; rw [getD_set_self _ _ _ _ (by omega)]), rfl⟩, (by kernel_rfl)⟩
      omega
    · -- no 6
      try simp only [bs] at c6
      have hSr : ∀ x, (fun x => 0 ≤ x ∧ x < n) x → 0 ≤ x ∧ x < n := fun x hx => hx
      have hRr : Rx n es (fun x => 0 ≤ x ∧ x < n) (List.replicate n.toNat (0 : Int)) K := Rx.all hKl (fun v hv => hK v (by omega))
      refine awp_exit ?_
      refine awp_seq ?_
      refine awp_seq (awp_region ?_)
      refine aops_run 3 [5, 28, 29, 30] [115, 118] [(0 < 1)] ⟨34, [(5, .one (.rw 115 0 (Int.toNat n))), (28, .agg [(.int .i64 n), (.ro (.arcs es))]), (29, .one (.rw 115 0 (Int.toNat n))), (30, .one (.rw 118 0 (Int.toNat n)))], [(115, .flat (.ints .i64 (List.replicate (Int.toNat n) (0 : Int)))), (118, .flat (.bools K))]⟩ hT (by kernel_rfl) (by kernel_rfl) ⟨(by decide), trivial⟩ ?_
      refine aops_call [(1, 115), (2, 118)] [] false ⟨true, [], 98, [.agg [(.int .i64 n), (.ro (.arcs es))], .one (.rw 1 0 (Int.toNat n)), .one (.rw 2 0 (Int.toNat n))], [(1, .flat (.ints .i64 (List.replicate (Int.toNat n) (0 : Int)))), (2, .flat (.bools K))]⟩ [.agg [(.int .i64 n), (.ro (.arcs es))], .one (.rw 1 0 (Int.toNat n)), .one (.rw 2 0 (Int.toNat n))] (sm := ⟨34, [(5, .one (.rw 115 0 (Int.toNat n))), (28, .agg [(.int .i64 n), (.ro (.arcs es))]), (29, .one (.rw 115 0 (Int.toNat n))), (30, .one (.rw 118 0 (Int.toNat n))), (31, .whn false (.one .any))], [(115, .flat (.ints .i64 (List.replicate (Int.toNat n) (0 : Int)))), (118, .flat (.bools K))]⟩) (by kernel_rfl) (by kernel_rfl) (by decide) (fun _ => trivial) rfl (fun _ => short_relax n es (fun x => 0 ≤ x ∧ x < n) (List.replicate (Int.toNat n) (0 : Int)) K hG hSr hRr (by exact Bnd.zero)) (fun _ v Hr hv => ?_) (fun h => by cases h)
      obtain ⟨b, f, g, hbt, hbf, hlf, hlg, rfl, rfl⟩ := hv
      refine ⟨⟨34, [(5, .one (.rw 115 0 (Int.toNat n))), (28, .agg [(.int .i64 n), (.ro (.arcs es))]), (29, .one (.rw 115 0 (Int.toNat n))), (30, .one (.rw 118 0 (Int.toNat n))), (31, .one (.bool b))], [(115, .flat (.ints .i64 f)), (118, .flat (.bools g))]⟩, by kernel_rfl, ?_⟩
      refine aops_run 1 [5, 32] [115] [] ⟨34, [(5, .one (.rw 115 0 (Int.toNat n))), (32, .one (.bool (!b)))], [(115, .flat (.ints .i64 f))]⟩ hT (by kernel_rfl) (by kernel_rfl) trivial ?_
      refine aops_end_seq (by kernel_rfl) ?_
      refine awp_cond (b := (!b)) (by kernel_rfl) (fun c10 => ?_) (fun c10 => ?_)
      · -- yes 10
        try simp only [bs] at c10
        refine awp_run_seq [2, 3] [] [] ⟨34, [(2, .one .nils), (3, .one (.int .i64 6))], []⟩ hT (by kernel_rfl) trivial ?_
        refine awp_weak (awk_slot 2 (.one .nils) (.one (.ro (.ints .i64 []))) _ (by kernel_rfl) (.one (wkv_nil0 rfl))) ?_
        refine awp_ret ?_
        refine kRet.ret _ [] [] (.tup [(false, [(.ro (.ints .i64 []))]), (false, [(.int .i64 6)])]) [] (by kernel_rfl) trivial ?_
        exact ⟨[], 6, (by exact .inr (.inl ⟨hE, rfl, rfl, hbf (by simpa using c10)⟩)), (by kernel_rfl), (by kernel_rfl)⟩
      · -- no 10
        try simp only [bs] at c10
        refine awp_skip ?_
        refine awp_weak (awk_seal 115 (s' := ⟨34, [(5, .one (.ro (.ints .i64 (List.take (Int.toNat n) f)))), (32, .one (.bool (!b)))], []⟩) (by kernel_rfl)) ?_
        rw [show (List.take (Int.toNat n) f) = f from List.take_of_length_le (by first | omega | simp)]
        refine awp_run_seq [2, 3] [] [] ⟨34, [(2, .one (.ro (.ints .i64 f))), (3, .one (.int .i64 0))], []⟩ hT (by kernel_rfl) trivial ?_
        refine awp_ret ?_
        refine kRet.ret _ [] [] (.tup [(false, [(.ro (.ints .i64 f))]), (false, [(.int .i64 0)])]) [] (by kernel_rfl) trivial ?_
        exact ⟨f, 0, (by exact .inr (.inr ⟨hE, rfl, g, hbt (by simpa using c10)⟩)), (by kernel_rfl), (by kernel_rfl)⟩

end Go.Ab
