/- Of euler: Can. -/
import Derived.Test.YtoghkabjfpolbaaTab
import Derived.Test.YtoghkabjfpolbaaDeg1
import Derived.Test.YtoghkabjfpolbaaWalk1
import Derived.Test.YtoghkabjfpolbaaPlEuler2
import Derived.Test.YtoghkabjfpolbaaPlPush
set_option maxRecDepth 100000
namespace Go.Ab
open Go Go.Proofs
theorem euler_can (n : Int) (es : List Arc) : ACall Try.prog 67 [.agg [(.int .i64 n), (.ro (.arcs es))]] [] (fun ov oh => ov = .tup [(false, [(.int .i64 (if graphErr n es (-10000) = 0 then kindOf n es else 0))]), (false, [(.int .i64 (graphErr n es (-10000)))])] ∧ oh = []) := by
  refine acall_intro hT Try.func67 rfl (by kernel_rfl) rfl (by kernel_rfl) ?_
  refine awp_run_seq [1] [101] [] ⟨87, [(1, .one (.ptr 101 0 0))], [(101, .box 1 2 [(.int .i64 n), (.ro (.arcs es))])]⟩ hT (by kernel_rfl) trivial ?_
  refine awp_seq (awp_region ?_)
  refine aops_run 1 [1, 16] [101] [(0 < 1)] ⟨87, [(1, .one (.ptr 101 0 0)), (16, .agg [(.int .i64 n), (.ro (.arcs es))])], [(101, .box 1 2 [(.int .i64 n), (.ro (.arcs es))])]⟩ hT (by kernel_rfl) (by kernel_rfl) ⟨(by decide), trivial⟩ ?_
  refine aops_pure false ⟨true, [], 108, [.agg [(.int .i64 n), (.ro (.arcs es))]], []⟩ [.agg [(.int .i64 n), (.ro (.arcs es))]] (.tup [(false, [(.ro (.ints .i64 (okL (graphErr n es (-10000)) (bump Arc.src n es))))]), (false, [(.ro (.ints .i64 (okL (graphErr n es (-10000)) (bump Arc.dst n es))))]), (false, [(.int .i64 (graphErr n es (-10000)))])]) ⟨87, [(1, .one (.ptr 101 0 0)), (16, .agg [(.int .i64 n), (.ro (.arcs es))]), (17, .tup [(false, [(.ro (.ints .i64 (okL (graphErr n es (-10000)) (bump Arc.src n es))))]), (false, [(.ro (.ints .i64 (okL (graphErr n es (-10000)) (bump Arc.dst n es))))]), (false, [(.int .i64 (graphErr n es (-10000)))])])], [(101, .box 1 2 [(.int .i64 n), (.ro (.arcs es))])]⟩ (by kernel_rfl) (by kernel_rfl) (fun _ => trivial) rfl (fun _ => graph_degrees n es) ?_
  refine aops_run 7 [1, 4, 5, 6] [101] [] ⟨87, [(1, .one (.ptr 101 0 0)), (4, .one (.ro (.ints .i64 (okL (graphErr n es (-10000)) (bump Arc.src n es))))), (5, .one (.ro (.ints .i64 (okL (graphErr n es (-10000)) (bump Arc.dst n es))))), (6, .one (.int .i64 (graphErr n es (-10000))))], [(101, .box 1 2 [(.int .i64 n), (.ro (.arcs es))])]⟩ hT (by kernel_rfl) (by kernel_rfl) trivial ?_
  refine aops_end_seq (by kernel_rfl) ?_
  refine awp_seq ?_
  refine awp_run_seq [1, 4, 5, 6, 22] [101] [] ⟨87, [(1, .one (.ptr 101 0 0)), (4, .one (.ro (.ints .i64 (okL (graphErr n es (-10000)) (bump Arc.src n es))))), (5, .one (.ro (.ints .i64 (okL (graphErr n es (-10000)) (bump Arc.dst n es))))), (6, .one (.int .i64 (graphErr n es (-10000)))), (22, .one (.bool (decide ((graphErr n es (-10000)) ≠ 0))))], [(101, .box 1 2 [(.int .i64 n), (.ro (.arcs es))])]⟩ hT (by kernel_rfl) trivial ?_
  refine awp_cond (b := (decide ((graphErr n es (-10000)) ≠ 0))) (by kernel_rfl) (fun c2 => ?_) (fun c2 => ?_)
  · -- yes 2
    try simp only [bs] at c2
    refine awp_run_seq [2, 3] [] [] ⟨87, [(2, .one (.int .i64 0)), (3, .one (.int .i64 (graphErr n es (-10000))))], []⟩ hT (by kernel_rfl) trivial ?_
    refine awp_ret ?_
    refine kRet.ret _ [] [] (.tup [(false, [(.int .i64 0)]), (false, [(.int .i64 (graphErr n es (-10000)))])]) [] (by kernel_rfl) trivial ?_
    exact ⟨congrArg (fun x1 => (.tup [(false, [(.int .i64 x1)]), (false, [(.int .i64 (graphErr n es (-10000)))])] : AV)) (show 0 = (if graphErr n es (-10000) = 0 then kindOf n es else 0) from by rw [if_neg c2]), rfl⟩
  · -- no 2
    try simp only [bs] at c2
    have hE : (graphErr n es (-10000)) = 0 := by omega
    have hG := graphErr_ok hE
    have h1 := hG.n1
    have h2 := hG.n2
    have hA := hG.inR
    have hle := hG.len
    have hbs := (bump_all Arc.src n es).1
    have hbd := (bump_all Arc.dst n es).1
    have hjl := joinedOf_len n es
    refine awp_skip ?_
    rw [show (okL (graphErr n es (-10000)) (bump Arc.src n es)) = (bump Arc.src n es) from okL_ok _ hE]
    rw [show (okL (graphErr n es (-10000)) (bump Arc.dst n es)) = (bump Arc.dst n es) from okL_ok _ hE]
    refine awp_seq (awp_region ?_)
    refine aops_run 1 [1, 4, 5, 25] [101] [(0 < 1)] ⟨87, [(1, .one (.ptr 101 0 0)), (4, .one (.ro (.ints .i64 (bump Arc.src n es)))), (5, .one (.ro (.ints .i64 (bump Arc.dst n es)))), (25, .agg [(.int .i64 n), (.ro (.arcs es))])], [(101, .box 1 2 [(.int .i64 n), (.ro (.arcs es))])]⟩ hT (by kernel_rfl) (by kernel_rfl) ⟨(by decide), trivial⟩ ?_
    refine aops_pure false ⟨true, [], 128, [.agg [(.int .i64 n), (.ro (.arcs es))]], []⟩ [.agg [(.int .i64 n), (.ro (.arcs es))]] (.tup [(false, [(.ro (.ints .i64 (okL (graphErr n es (-10000)) (joinedOf n es))))]), (false, [(.int .i64 (graphErr n es (-10000)))])]) ⟨87, [(1, .one (.ptr 101 0 0)), (4, .one (.ro (.ints .i64 (bump Arc.src n es)))), (5, .one (.ro (.ints .i64 (bump Arc.dst n es)))), (25, .agg [(.int .i64 n), (.ro (.arcs es))]), (26, .tup [(false, [(.ro (.ints .i64 (okL (graphErr n es (-10000)) (joinedOf n es))))]), (false, [(.int .i64 (graphErr n es (-10000)))])])], [(101, .box 1 2 [(.int .i64 n), (.ro (.arcs es))])]⟩ (by kernel_rfl) (by kernel_rfl) (fun _ => trivial) rfl (fun _ => walk_parts n es) ?_
    refine aops_run 5 [1, 4, 5, 7] [101] [] ⟨87, [(1, .one (.ptr 101 0 0)), (4, .one (.ro (.ints .i64 (bump Arc.src n es)))), (5, .one (.ro (.ints .i64 (bump Arc.dst n es)))), (7, .one (.ro (.ints .i64 (okL (graphErr n es (-10000)) (joinedOf n es)))))], [(101, .box 1 2 [(.int .i64 n), (.ro (.arcs es))])]⟩ hT (by kernel_rfl) (by kernel_rfl) trivial ?_
    refine aops_end_seq (by kernel_rfl) ?_
    rw [show (okL (graphErr n es (-10000)) (joinedOf n es)) = (joinedOf n es) from okL_ok _ hE]
    refine awp_run_seq [1, 4, 5, 7, 9, 10] [101] [] ⟨87, [(1, .one (.ptr 101 0 0)), (4, .one (.ro (.ints .i64 (bump Arc.src n es)))), (5, .one (.ro (.ints .i64 (bump Arc.dst n es)))), (7, .one (.ro (.ints .i64 (joinedOf n es)))), (9, .one (.int .i64 0)), (10, .one (.int .i64 0))], [(101, .box 1 2 [(.int .i64 n), (.ro (.arcs es))])]⟩ hT (by kernel_rfl) trivial ?_
    refine awp_seq ?_
    refine awp_run_seq [1, 4, 5, 7, 9, 10, 30, 31] [101] [(0 < 1)] ⟨87, [(1, .one (.ptr 101 0 0)), (4, .one (.ro (.ints .i64 (bump Arc.src n es)))), (5, .one (.ro (.ints .i64 (bump Arc.dst n es)))), (7, .one (.ro (.ints .i64 (joinedOf n es)))), (9, .one (.int .i64 0)), (10, .one (.int .i64 0)), (30, .one (.int .i64 n)), (31, .one (.int .i64 0))], [(101, .box 1 2 [(.int .i64 n), (.ro (.arcs es))])]⟩ hT (by kernel_rfl) ⟨(by decide), trivial⟩ ?_
    refine awp_block ?_
    refine awp_loop (I := fun κ σ => ∃ (k mo ls : Nat), ((k ≤ n.toNat) ∧ (∀ j, j < k → small1 es j = true) ∧ (mo = cntK es 1 k) ∧ (ls = cntK es (-1) k) ∧ n.toNat - k = κ) ∧ σ = ⟨87, [(1, .one (.ptr 101 0 0)), (4, .one (.ro (.ints .i64 (bump Arc.src n es)))), (5, .one (.ro (.ints .i64 (bump Arc.dst n es)))), (7, .one (.ro (.ints .i64 (joinedOf n es)))), (9, .one (.int .i64 ((mo : Nat) : Int))), (10, .one (.int .i64 ((ls : Nat) : Int))), (30, .one (.int .i64 n)), (31, .one (.int .i64 ((k : Nat) : Int)))], [(101, .box 1 2 [(.int .i64 n), (.ro (.arcs es))])]⟩) _ ⟨0, 0, 0, ⟨(by omega), (by intro j hj; omega), (by rfl), (by rfl), rfl⟩, (by kernel_rfl)⟩ ?_
    rintro κ _ ⟨k, mo, ls, ⟨hk, hsm, hmo, hls, rfl⟩, rfl⟩
    refine awp_run_seq [1, 4, 5, 7, 9, 10, 30, 31, 32] [101] [] ⟨87, [(1, .one (.ptr 101 0 0)), (4, .one (.ro (.ints .i64 (bump Arc.src n es)))), (5, .one (.ro (.ints .i64 (bump Arc.dst n es)))), (7, .one (.ro (.ints .i64 (joinedOf n es)))), (9, .one (.int .i64 ((mo : Nat) : Int))), (10, .one (.int .i64 ((ls : Nat) : Int))), (30, .one (.int .i64 n)), (31, .one (.int .i64 ((k : Nat) : Int))), (32, .one (.bool (decide (((k : Nat) : Int) < n))))], [(101, .box 1 2 [(.int .i64 n), (.ro (.arcs es))])]⟩ hT (by kernel_rfl) trivial ?_
    refine awp_seq ?_
    refine awp_cond (b := (decide (((k : Nat) : Int) < n))) (by kernel_rfl) (fun c7 => ?_) (fun c7 => ?_)
    · -- yes 7
      try simp only [bs] at c7
      have hkl : k < n.toNat := by omega
      obtain ⟨d1, d2⟩ := degs hA (k := k) (by omega)
      have hq1 := (bump_all Arc.src n es).2 k
      have hq2 := (bump_all Arc.dst n es).2 k
      have hb0 : bal0 es k = (bump Arc.src n es).getD k 0 - (bump Arc.dst n es).getD k 0 := by rw [d1, d2]; rfl
      have hm1 := cntK_step es 1 k
      have hm2 := cntK_step es (-1) k
      have hc1 := cntK_le es 1 k
      have hc2 := cntK_le es (-1) k
      refine awp_skip ?_
      refine awp_seq ?_
      refine awp_block ?_
      refine awp_run_seq [1, 4, 5, 7, 9, 10, 11, 30, 31] [101] [] ⟨87, [(1, .one (.ptr 101 0 0)), (4, .one (.ro (.ints .i64 (bump Arc.src n es)))), (5, .one (.ro (.ints .i64 (bump Arc.dst n es)))), (7, .one (.ro (.ints .i64 (joinedOf n es)))), (9, .one (.int .i64 ((mo : Nat) : Int))), (10, .one (.int .i64 ((ls : Nat) : Int))), (11, .one (.int .i64 ((k : Nat) : Int))), (30, .one (.int .i64 n)), (31, .one (.int .i64 ((k : Nat) : Int)))], [(101, .box 1 2 [(.int .i64 n), (.ro (.arcs es))])]⟩ hT (by kernel_rfl) trivial ?_
      refine awp_seq (awp_still [1, 4, 5, 7, 9, 10, 12, 30, 31] [101] [((0 : Int) ≤ ((k : Nat) : Int)), (((k : Nat) : Int) < (((List.length (bump Arc.src n es)) : Nat) : Int)), ((0 : Int) ≤ ((k : Nat) : Int)), (((k : Nat) : Int) < (((List.length (bump Arc.dst n es)) : Nat) : Int)), (-9223372036854775808 ≤ ((List.getD (bump Arc.src n es) k 0) - (List.getD (bump Arc.dst n es) k 0)) ∧ ((List.getD (bump Arc.src n es) k 0) - (List.getD (bump Arc.dst n es) k 0)) ≤ 9223372036854775807)] ⟨87, [(1, .one (.ptr 101 0 0)), (4, .one (.ro (.ints .i64 (bump Arc.src n es)))), (5, .one (.ro (.ints .i64 (bump Arc.dst n es)))), (7, .one (.ro (.ints .i64 (joinedOf n es)))), (9, .one (.int .i64 ((mo : Nat) : Int))), (10, .one (.int .i64 ((ls : Nat) : Int))), (12, .one (.int .i64 ((List.getD (bump Arc.src n es) k 0) - (List.getD (bump Arc.dst n es) k 0)))), (30, .one (.int .i64 n)), (31, .one (.int .i64 ((k : Nat) : Int)))], [(101, .box 1 2 [(.int .i64 n), (.ro (.arcs es))])]⟩ (by kernel_rfl) (by kernel_rfl) hT (by kernel_rfl) ⟨(by first | omega | (simp only [lens]; omega) | (simp only [Bool.cond_decide]; omega)), (by first | omega | (simp only [lens]; omega) | (simp only [Bool.cond_decide]; omega)), (by first | omega | (simp only [lens]; omega) | (simp only [Bool.cond_decide]; omega)), (by first | omega | (simp only [lens]; omega) | (simp only [Bool.cond_decide]; omega)), (by first | omega | (simp only [lens]; omega) | (simp only [Bool.cond_decide]; omega)), trivial⟩ ?_)
      refine awp_block ?_
      refine awp_run_seq [1, 4, 5, 7, 9, 10, 12, 30, 31, 43] [101] [] ⟨87, [(1, .one (.ptr 101 0 0)), (4, .one (.ro (.ints .i64 (bump Arc.src n es)))), (5, .one (.ro (.ints .i64 (bump Arc.dst n es)))), (7, .one (.ro (.ints .i64 (joinedOf n es)))), (9, .one (.int .i64 ((mo : Nat) : Int))), (10, .one (.int .i64 ((ls : Nat) : Int))), (12, .one (.int .i64 ((List.getD (bump Arc.src n es) k 0) - (List.getD (bump Arc.dst n es) k 0)))), (30, .one (.int .i64 n)), (31, .one (.int .i64 ((k : Nat) : Int))), (43, .one (.bool (decide (((List.getD (bump Arc.src n es) k 0) - (List.getD (bump Arc.dst n es) k 0)) = 1))))], [(101, .box 1 2 [(.int .i64 n), (.ro (.arcs es))])]⟩ hT (by kernel_rfl) trivial ?_
      refine awp_cond (b := (decide (((List.getD (bump Arc.src n es) k 0) - (List.getD (bump Arc.dst n es) k 0)) = 1))) (by kernel_rfl) (fun c10 => ?_) (fun c10 => ?_)
      · -- yes 10
        try simp only [bs] at c10
        rw [if_pos (by omega)] at hm1
        rw [if_neg (by omega)] at hm2
        have hsm2 : ∀ j, j < k + 1 → small1 es j = true := fun j hj => by rcases Nat.lt_succ_iff_lt_or_eq.1 hj with q | q; exact hsm j q; subst q; exact decide_eq_true (by omega)
        refine awp_run [1, 4, 5, 7, 9, 10, 30, 31] [101] [(-9223372036854775808 ≤ (((mo + 1) : Nat) : Int) ∧ (((mo + 1) : Nat) : Int) ≤ 9223372036854775807)] ⟨87, [(1, .one (.ptr 101 0 0)), (4, .one (.ro (.ints .i64 (bump Arc.src n es)))), (5, .one (.ro (.ints .i64 (bump Arc.dst n es)))), (7, .one (.ro (.ints .i64 (joinedOf n es)))), (9, .one (.int .i64 (((mo + 1) : Nat) : Int))), (10, .one (.int .i64 ((ls : Nat) : Int))), (30, .one (.int .i64 n)), (31, .one (.int .i64 ((k : Nat) : Int)))], [(101, .box 1 2 [(.int .i64 n), (.ro (.arcs es))])]⟩ hT (by kernel_rfl) ⟨(by first | omega | (simp only [lens]; omega) | (simp only [Bool.cond_decide]; omega)), trivial⟩ ?_
        refine awp_run [1, 4, 5, 7, 9, 10, 30, 31] [101] [(-9223372036854775808 ≤ (((k + 1) : Nat) : Int) ∧ (((k + 1) : Nat) : Int) ≤ 9223372036854775807)] ⟨87, [(1, .one (.ptr 101 0 0)), (4, .one (.ro (.ints .i64 (bump Arc.src n es)))), (5, .one (.ro (.ints .i64 (bump Arc.dst n es)))), (7, .one (.ro (.ints .i64 (joinedOf n es)))), (9, .one (.int .i64 (((mo + 1) : Nat) : Int))), (10, .one (.int .i64 ((ls : Nat) : Int))), (30, .one (.int .i64 n)), (31, .one (.int .i64 (((k + 1) : Nat) : Int)))], [(101, .box 1 2 [(.int .i64 n), (.ro (.arcs es))])]⟩ hT (by kernel_rfl) ⟨(by first | omega | (simp only [lens]; omega) | (simp only [Bool.cond_decide]; omega)), trivial⟩ ?_
        refine loop_end _ ?_ ⟨(k + 1), (mo + 1), ls, ⟨(by omega), (by exact hsm2), (by omega), (by omega), rfl⟩, (by kernel_rfl)⟩
        omega
      · -- no 10
        try simp only [bs] at c10
        refine awp_run_seq [1, 4, 5, 7, 9, 10, 12, 30, 31, 48] [101] [] ⟨87, [(1, .one (.ptr 101 0 0)), (4, .one (.ro (.ints .i64 (bump Arc.src n es)))), (5, .one (.ro (.ints .i64 (bump Arc.dst n es)))), (7, .one (.ro (.ints .i64 (joinedOf n es)))), (9, .one (.int .i64 ((mo : Nat) : Int))), (10, .one (.int .i64 ((ls : Nat) : Int))), (12, .one (.int .i64 ((List.getD (bump Arc.src n es) k 0) - (List.getD (bump Arc.dst n es) k 0)))), (30, .one (.int .i64 n)), (31, .one (.int .i64 ((k : Nat) : Int))), (48, .one (.bool (decide (((List.getD (bump Arc.src n es) k 0) - (List.getD (bump Arc.dst n es) k 0)) = (-1)))))], [(101, .box 1 2 [(.int .i64 n), (.ro (.arcs es))])]⟩ hT (by kernel_rfl) trivial ?_
        refine awp_cond (b := (decide (((List.getD (bump Arc.src n es) k 0) - (List.getD (bump Arc.dst n es) k 0)) = (-1)))) (by kernel_rfl) (fun c12 => ?_) (fun c12 => ?_)
        · -- yes 12
          try simp only [bs] at c12
          rw [if_neg (by omega)] at hm1
          rw [if_pos (by omega)] at hm2
          have hsm2 : ∀ j, j < k + 1 → small1 es j = true := fun j hj => by rcases Nat.lt_succ_iff_lt_or_eq.1 hj with q | q; exact hsm j q; subst q; exact decide_eq_true (by omega)
          refine awp_run [1, 4, 5, 7, 9, 10, 30, 31] [101] [(-9223372036854775808 ≤ (((ls + 1) : Nat) : Int) ∧ (((ls + 1) : Nat) : Int) ≤ 9223372036854775807)] ⟨87, [(1, .one (.ptr 101 0 0)), (4, .one (.ro (.ints .i64 (bump Arc.src n es)))), (5, .one (.ro (.ints .i64 (bump Arc.dst n es)))), (7, .one (.ro (.ints .i64 (joinedOf n es)))), (9, .one (.int .i64 ((mo : Nat) : Int))), (10, .one (.int .i64 (((ls + 1) : Nat) : Int))), (30, .one (.int .i64 n)), (31, .one (.int .i64 ((k : Nat) : Int)))], [(101, .box 1 2 [(.int .i64 n), (.ro (.arcs es))])]⟩ hT (by kernel_rfl) ⟨(by first | omega | (simp only [lens]; omega) | (simp only [Bool.cond_decide]; omega)), trivial⟩ ?_
          refine awp_run [1, 4, 5, 7, 9, 10, 30, 31] [101] [(-9223372036854775808 ≤ (((k + 1) : Nat) : Int) ∧ (((k + 1) : Nat) : Int) ≤ 9223372036854775807)] ⟨87, [(1, .one (.ptr 101 0 0)), (4, .one (.ro (.ints .i64 (bump Arc.src n es)))), (5, .one (.ro (.ints .i64 (bump Arc.dst n es)))), (7, .one (.ro (.ints .i64 (joinedOf n es)))), (9, .one (.int .i64 ((mo : Nat) : Int))), (10, .one (.int .i64 (((ls + 1) : Nat) : Int))), (30, .one (.int .i64 n)), (31, .one (.int .i64 (((k + 1) : Nat) : Int)))], [(101, .box 1 2 [(.int .i64 n), (.ro (.arcs es))])]⟩ hT (by kernel_rfl) ⟨(by first | omega | (simp only [lens]; omega) | (simp only [Bool.cond_decide]; omega)), trivial⟩ ?_
          refine loop_end _ ?_ ⟨(k + 1), mo, (ls + 1), ⟨(by omega), (by exact hsm2), (by omega), (by omega), rfl⟩, (by kernel_rfl)⟩
          omega
        · -- no 12
          try simp only [bs] at c12
          refine awp_run_seq [1, 4, 5, 7, 9, 10, 30, 31, 53] [101] [] ⟨87, [(1, .one (.ptr 101 0 0)), (4, .one (.ro (.ints .i64 (bump Arc.src n es)))), (5, .one (.ro (.ints .i64 (bump Arc.dst n es)))), (7, .one (.ro (.ints .i64 (joinedOf n es)))), (9, .one (.int .i64 ((mo : Nat) : Int))), (10, .one (.int .i64 ((ls : Nat) : Int))), (30, .one (.int .i64 n)), (31, .one (.int .i64 ((k : Nat) : Int))), (53, .one (.bool (decide (((List.getD (bump Arc.src n es) k 0) - (List.getD (bump Arc.dst n es) k 0)) ≠ 0))))], [(101, .box 1 2 [(.int .i64 n), (.ro (.arcs es))])]⟩ hT (by kernel_rfl) trivial ?_
          refine awp_cond (b := (decide (((List.getD (bump Arc.src n es) k 0) - (List.getD (bump Arc.dst n es) k 0)) ≠ 0))) (by kernel_rfl) (fun c14 => ?_) (fun c14 => ?_)
          · -- yes 14
            try simp only [bs] at c14
            have hk0 : kindOf n es = 0 := by rw [kindOf, if_neg (by rw [small_no hkl (decide_eq_false (by omega))]; decide)]
            refine awp_run_seq [2, 3] [] [] ⟨87, [(2, .one (.int .i64 0)), (3, .one (.int .i64 0))], []⟩ hT (by kernel_rfl) trivial ?_
            refine awp_ret ?_
            refine kRet.ret _ [] [] (.tup [(false, [(.int .i64 0)]), (false, [(.int .i64 0)])]) [] (by kernel_rfl) trivial ?_
            exact ⟨by first | rw [show (if graphErr n es (-10000) = 0 then kindOf n es else 0) = 0 from Eq.symm (by rw [if_pos hE, hk0]), show (graphErr n es (-10000)) = 0 from Eq.symm (by omega)] | rw [show (if graphErr n es (-10000) = 0 then kindOf n es else 0) = 0 from Eq.symm (by rw [if_pos hE, hk0])] | rw [show (graphErr n es (-10000)) = 0 from Eq.symm (by omega)], rfl⟩
          · -- no 14
            try simp only [bs] at c14
            rw [if_neg (by omega)] at hm1
            rw [if_neg (by omega)] at hm2
            have hsm2 : ∀ j, j < k + 1 → small1 es j = true := fun j hj => by rcases Nat.lt_succ_iff_lt_or_eq.1 hj with q | q; exact hsm j q; subst q; exact decide_eq_true (by omega)
            refine awp_skip ?_
            refine awp_run [1, 4, 5, 7, 9, 10, 30, 31] [101] [(-9223372036854775808 ≤ (((k + 1) : Nat) : Int) ∧ (((k + 1) : Nat) : Int) ≤ 9223372036854775807)] ⟨87, [(1, .one (.ptr 101 0 0)), (4, .one (.ro (.ints .i64 (bump Arc.src n es)))), (5, .one (.ro (.ints .i64 (bump Arc.dst n es)))), (7, .one (.ro (.ints .i64 (joinedOf n es)))), (9, .one (.int .i64 ((mo : Nat) : Int))), (10, .one (.int .i64 ((ls : Nat) : Int))), (30, .one (.int .i64 n)), (31, .one (.int .i64 (((k + 1) : Nat) : Int)))], [(101, .box 1 2 [(.int .i64 n), (.ro (.arcs es))])]⟩ hT (by kernel_rfl) ⟨(by first | omega | (simp only [lens]; omega) | (simp only [Bool.cond_decide]; omega)), trivial⟩ ?_
            refine loop_end _ ?_ ⟨(k + 1), mo, ls, ⟨(by omega), (by exact hsm2), (by omega), (by omega), rfl⟩, (by kernel_rfl)⟩
            omega
    · -- no 7
      try simp only [bs] at c7
      have hkn : k = n.toNat := by omega
      have hall := small_yes hsm
      rw [hkn] at hall hmo hls
      refine awp_exit ?_
      refine awp_seq ?_
      refine awp_run_seq [1, 7, 9, 10, 58, 59, 60] [101] [(0 < 1)] ⟨87, [(1, .one (.ptr 101 0 0)), (7, .one (.ro (.ints .i64 (joinedOf n es)))), (9, .one (.int .i64 ((mo : Nat) : Int))), (10, .one (.int .i64 ((ls : Nat) : Int))), (58, .one (.ro (.arcs es))), (59, .one (.int .i64 ((es.length : Nat) : Int))), (60, .one (.int .i64 0))], [(101, .box 1 2 [(.int .i64 n), (.ro (.arcs es))])]⟩ hT (by kernel_rfl) ⟨(by decide), trivial⟩ ?_
      refine awp_block ?_
      refine awp_loop (I := fun κ σ => ∃ (i : Nat), ((i ≤ es.length) ∧ (∀ j, j < i → (joinedOf n es).getD (es.getD j default).src.toNat 0 = (joinedOf n es).getD (es.getD 0 default).src.toNat 0) ∧ es.length - i = κ) ∧ σ = ⟨87, [(1, .one (.ptr 101 0 0)), (7, .one (.ro (.ints .i64 (joinedOf n es)))), (9, .one (.int .i64 ((mo : Nat) : Int))), (10, .one (.int .i64 ((ls : Nat) : Int))), (58, .one (.ro (.arcs es))), (59, .one (.int .i64 ((es.length : Nat) : Int))), (60, .one (.int .i64 ((i : Nat) : Int)))], [(101, .box 1 2 [(.int .i64 n), (.ro (.arcs es))])]⟩) _ ⟨0, ⟨(by omega), (by intro j hj; omega), rfl⟩, (by kernel_rfl)⟩ ?_
      rintro κ _ ⟨i, ⟨hi, hj1, rfl⟩, rfl⟩
      refine awp_run_seq [1, 7, 9, 10, 58, 59, 60, 61] [101] [] ⟨87, [(1, .one (.ptr 101 0 0)), (7, .one (.ro (.ints .i64 (joinedOf n es)))), (9, .one (.int .i64 ((mo : Nat) : Int))), (10, .one (.int .i64 ((ls : Nat) : Int))), (58, .one (.ro (.arcs es))), (59, .one (.int .i64 ((es.length : Nat) : Int))), (60, .one (.int .i64 ((i : Nat) : Int))), (61, .one (.bool (decide (((i : Nat) : Int) < ((es.length : Nat) : Int)))))], [(101, .box 1 2 [(.int .i64 n), (.ro (.arcs es))])]⟩ hT (by kernel_rfl) trivial ?_
      refine awp_seq ?_
      refine awp_cond (b := (decide (((i : Nat) : Int) < ((es.length : Nat) : Int)))) (by kernel_rfl) (fun c18 => ?_) (fun c18 => ?_)
      · -- yes 18
        try simp only [bs] at c18
        have hil : i < es.length := by omega
        obtain ⟨a1, a2, a3, a4⟩ := hA _ (getD_mem (d := default) hil)
        obtain ⟨b1, b2, b3, b4⟩ := hA _ (getD_mem (d := default) (show 0 < es.length by omega))
        refine awp_skip ?_
        refine awp_seq ?_
        refine awp_block ?_
        refine awp_run_seq [1, 7, 9, 10, 14, 58, 59, 60] [101, 114] [((0 : Int) ≤ ((i : Nat) : Int)), (((i : Nat) : Int) < ((es.length : Nat) : Int)), (0 < 1)] ⟨87, [(1, .one (.ptr 101 0 0)), (7, .one (.ro (.ints .i64 (joinedOf n es)))), (9, .one (.int .i64 ((mo : Nat) : Int))), (10, .one (.int .i64 ((ls : Nat) : Int))), (14, .one (.ptr 114 0 0)), (58, .one (.ro (.arcs es))), (59, .one (.int .i64 ((es.length : Nat) : Int))), (60, .one (.int .i64 ((i : Nat) : Int)))], [(101, .box 1 2 [(.int .i64 n), (.ro (.arcs es))]), (114, .box 1 3 [(.int .i64 ((List.getD es i default).src)), (.int .i64 ((List.getD es i default).dst)), (.int .i64 ((List.getD es i default).cap))])]⟩ hT (by kernel_rfl) ⟨(by first | omega | (simp only [lens]; omega) | (simp only [Bool.cond_decide]; omega)), (by first | omega | (simp only [lens]; omega) | (simp only [Bool.cond_decide]; omega)), (by decide), trivial⟩ ?_
        refine awp_seq (awp_still [1, 7, 9, 10, 58, 59, 60, 77] [101] [(0 < 1), ((0 : Int) ≤ ((List.getD es i default).src)), (((List.getD es i default).src) < (((List.length (joinedOf n es)) : Nat) : Int)), (0 < 1), ((0 : Int) ≤ (0 : Int)), ((0 : Int) < ((es.length : Nat) : Int)), ((0 : Int) ≤ ((List.getD es 0 default).src)), (((List.getD es 0 default).src) < (((List.length (joinedOf n es)) : Nat) : Int))] ⟨87, [(1, .one (.ptr 101 0 0)), (7, .one (.ro (.ints .i64 (joinedOf n es)))), (9, .one (.int .i64 ((mo : Nat) : Int))), (10, .one (.int .i64 ((ls : Nat) : Int))), (58, .one (.ro (.arcs es))), (59, .one (.int .i64 ((es.length : Nat) : Int))), (60, .one (.int .i64 ((i : Nat) : Int))), (77, .one (.bool (decide ((List.getD (joinedOf n es) (Int.toNat ((List.getD es i default).src)) 0) ≠ (List.getD (joinedOf n es) (Int.toNat ((List.getD es 0 default).src)) 0)))))], [(101, .box 1 2 [(.int .i64 n), (.ro (.arcs es))])]⟩ (by kernel_rfl) (by kernel_rfl) hT (by kernel_rfl) ⟨(by decide), (by first | omega | (simp only [lens]; omega) | (simp only [Bool.cond_decide]; omega)), (by first | omega | (simp only [lens]; omega) | (simp only [Bool.cond_decide]; omega)), (by decide), (by first | omega | (simp only [lens]; omega) | (simp only [Bool.cond_decide]; omega)), (by first | omega | (simp only [lens]; omega) | (simp only [Bool.cond_decide]; omega)), (by first | omega | (simp only [lens]; omega) | (simp only [Bool.cond_decide]; omega)), (by first | omega | (simp only [lens]; omega) | (simp only [Bool.cond_decide]; omega)), trivial⟩ ?_)
        refine awp_cond (b := (decide ((List.getD (joinedOf n es) (Int.toNat ((List.getD es i default).src)) 0) ≠ (List.getD (joinedOf n es) (Int.toNat ((List.getD es 0 default).src)) 0)))) (by kernel_rfl) (fun c20 => ?_) (fun c20 => ?_)
        · -- yes 20
          try simp only [bs] at c20
          have hk0 : kindOf n es = 0 := by rw [kindOf, if_pos hall, if_neg (by rw [oneP_no hil c20]; decide)]
          refine awp_run_seq [2, 3] [] [] ⟨87, [(2, .one (.int .i64 0)), (3, .one (.int .i64 0))], []⟩ hT (by kernel_rfl) trivial ?_
          refine awp_ret ?_
          refine kRet.ret _ [] [] (.tup [(false, [(.int .i64 0)]), (false, [(.int .i64 0)])]) [] (by kernel_rfl) trivial ?_
          exact ⟨by first | rw [show (if graphErr n es (-10000) = 0 then kindOf n es else 0) = 0 from Eq.symm (by rw [if_pos hE, hk0]), show (graphErr n es (-10000)) = 0 from Eq.symm (by omega)] | rw [show (if graphErr n es (-10000) = 0 then kindOf n es else 0) = 0 from Eq.symm (by rw [if_pos hE, hk0])] | rw [show (graphErr n es (-10000)) = 0 from Eq.symm (by omega)], rfl⟩
        · -- no 20
          try simp only [bs] at c20
          refine awp_skip ?_
          refine awp_run [1, 7, 9, 10, 58, 59, 60] [101] [(-9223372036854775808 ≤ (((i + 1) : Nat) : Int) ∧ (((i + 1) : Nat) : Int) ≤ 9223372036854775807)] ⟨87, [(1, .one (.ptr 101 0 0)), (7, .one (.ro (.ints .i64 (joinedOf n es)))), (9, .one (.int .i64 ((mo : Nat) : Int))), (10, .one (.int .i64 ((ls : Nat) : Int))), (58, .one (.ro (.arcs es))), (59, .one (.int .i64 ((es.length : Nat) : Int))), (60, .one (.int .i64 (((i + 1) : Nat) : Int)))], [(101, .box 1 2 [(.int .i64 n), (.ro (.arcs es))])]⟩ hT (by kernel_rfl) ⟨(by first | omega | (simp only [lens]; omega) | (simp only [Bool.cond_decide]; omega)), trivial⟩ ?_
          refine loop_end _ ?_ ⟨(i + 1), ⟨(by omega), (by intro j hj; rcases Nat.lt_succ_iff_lt_or_eq.1 hj with q | q; exact hj1 j q; subst q; omega), rfl⟩, (by kernel_rfl)⟩
          omega
      · -- no 18
        try simp only [bs] at c18
        have hone := oneP_yes (J := joinedOf n es) (es := es) (fun j hj => hj1 j (by omega))
        refine awp_exit ?_
        refine awp_seq ?_
        refine awp_run_seq [9, 10, 80] [] [] ⟨87, [(9, .one (.int .i64 ((mo : Nat) : Int))), (10, .one (.int .i64 ((ls : Nat) : Int))), (80, .one (.bool (decide (((mo : Nat) : Int) = 0))))], []⟩ hT (by kernel_rfl) trivial ?_
        refine awp_cond (b := (decide (((mo : Nat) : Int) = 0))) (by kernel_rfl) (fun c23 => ?_) (fun c23 => ?_)
        · -- yes 23
          try simp only [bs] at c23
          have hk0 : kindOf n es = 2 := by rw [kindOf, if_pos hall, if_pos hone, if_pos (by omega)]
          refine awp_run_seq [2, 3] [] [] ⟨87, [(2, .one (.int .i64 2)), (3, .one (.int .i64 0))], []⟩ hT (by kernel_rfl) trivial ?_
          refine awp_ret ?_
          refine kRet.ret _ [] [] (.tup [(false, [(.int .i64 2)]), (false, [(.int .i64 0)])]) [] (by kernel_rfl) trivial ?_
          exact ⟨by first | rw [show (if graphErr n es (-10000) = 0 then kindOf n es else 0) = 2 from Eq.symm (by rw [if_pos hE, hk0]), show (graphErr n es (-10000)) = 0 from Eq.symm (by omega)] | rw [show (if graphErr n es (-10000) = 0 then kindOf n es else 0) = 2 from Eq.symm (by rw [if_pos hE, hk0])] | rw [show (graphErr n es (-10000)) = 0 from Eq.symm (by omega)], rfl⟩
        · -- no 23
          try simp only [bs] at c23
          refine awp_skip ?_
          refine awp_seq ?_
          refine awp_run_seq [86] [] [((decide (((mo : Nat) : Int) = 1)) = true → ((decide (((mo : Nat) : Int) = 1)) = true → (decide (((mo : Nat) : Int) = 1)) = true)), ((decide (((mo : Nat) : Int) = 1)) = true → (decide (((mo : Nat) : Int) = 1)) = true)] ⟨87, [(86, .one (.bool ((decide (((mo : Nat) : Int) = 1)) && (decide (((ls : Nat) : Int) = 1)))))], []⟩ hT (by kernel_rfl) ⟨(by intro hg; first | exact hg | skip; (try simp only [bs] at hg ⊢); first | exact hg | first | omega | (simp only [lens]; omega) | (simp only [Bool.cond_decide]; omega) | grind), (fun h => h), trivial⟩ ?_
          refine awp_cond (b := ((decide (((mo : Nat) : Int) = 1)) && (decide (((ls : Nat) : Int) = 1)))) (by kernel_rfl) (fun c25 => ?_) (fun c25 => ?_)
          · -- yes 25
            try simp only [bs] at c25
            have hk0 : kindOf n es = 1 := by rw [kindOf, if_pos hall, if_pos hone, if_neg (by omega), if_pos (by omega)]
            refine awp_run_seq [2, 3] [] [] ⟨87, [(2, .one (.int .i64 1)), (3, .one (.int .i64 0))], []⟩ hT (by kernel_rfl) trivial ?_
            refine awp_ret ?_
            refine kRet.ret _ [] [] (.tup [(false, [(.int .i64 1)]), (false, [(.int .i64 0)])]) [] (by kernel_rfl) trivial ?_
            exact ⟨by first | rw [show (if graphErr n es (-10000) = 0 then kindOf n es else 0) = 1 from Eq.symm (by rw [if_pos hE, hk0]), show (graphErr n es (-10000)) = 0 from Eq.symm (by omega)] | rw [show (if graphErr n es (-10000) = 0 then kindOf n es else 0) = 1 from Eq.symm (by rw [if_pos hE, hk0])] | rw [show (graphErr n es (-10000)) = 0 from Eq.symm (by omega)], rfl⟩
          · -- no 25
            try simp only [bs] at c25
            have hk0 : kindOf n es = 0 := by rw [kindOf, if_pos hall, if_pos hone, if_neg (by omega), if_neg (by omega)]
            refine awp_skip ?_
            refine awp_run_seq [2, 3] [] [] ⟨87, [(2, .one (.int .i64 0)), (3, .one (.int .i64 0))], []⟩ hT (by kernel_rfl) trivial ?_
            refine awp_ret ?_
            refine kRet.ret _ [] [] (.tup [(false, [(.int .i64 0)]), (false, [(.int .i64 0)])]) [] (by kernel_rfl) trivial ?_
            exact ⟨by first | rw [show (if graphErr n es (-10000) = 0 then kindOf n es else 0) = 0 from Eq.symm (by rw [if_pos hE, hk0]), show (graphErr n es (-10000)) = 0 from Eq.symm (by omega)] | rw [show (if graphErr n es (-10000) = 0 then kindOf n es else 0) = 0 from Eq.symm (by rw [if_pos hE, hk0])] | rw [show (graphErr n es (-10000)) = 0 from Eq.symm (by omega)], rfl⟩

end Go.Ab
