/- Of ways: how far, and which way. -/
import Derived.Test.YtdglhalkilneaaaTab
import Derived.Test.YtdglhalkilneaaaWalk3
set_option maxRecDepth 100000
namespace Go.Ab
open Go Go.Proofs
theorem walk_far (n s : Int) (es : List Arc) : ACall Try.prog 26 [.agg [(.int .i64 n), (.ro (.arcs es))], .one (.int .i64 s)] [] (fun ov oh => ov = .tup [(false, [(.ro (.ints .i64 (okL (farErr n es s) (farOf n es s))))]), (false, [(.int .i64 (farErr n es s))])] ∧ oh = []) := by
  refine acall_intro hT Try.func26 rfl (by kernel_rfl) rfl (by kernel_rfl) ?_
  refine awp_run_seq [1, 2] [102] [] ⟨18, [(1, .one (.int .i64 s)), (2, .one (.ptr 102 0 0))], [(102, .box 1 2 [(.int .i64 n), (.ro (.arcs es))])]⟩ hT (by kernel_rfl) trivial ?_
  refine awp_seq (awp_region ?_)
  refine aops_run 2 [10, 11] [] [(0 < 1)] ⟨18, [(10, .agg [(.int .i64 n), (.ro (.arcs es))]), (11, .one (.int .i64 s))], []⟩ hT (by kernel_rfl) (by kernel_rfl) ⟨(by decide), trivial⟩ ?_
  refine aops_call [] [] false ⟨true, [], 100, [.agg [(.int .i64 n), (.ro (.arcs es))], .one (.int .i64 s)], []⟩ [.agg [(.int .i64 n), (.ro (.arcs es))], .one (.int .i64 s)] (sm := ⟨18, [(10, .agg [(.int .i64 n), (.ro (.arcs es))]), (11, .one (.int .i64 s)), (12, .whn false (.one .any))], []⟩) (by kernel_rfl) (by kernel_rfl) (by decide) (fun _ => trivial) rfl (fun _ => walk_search n s es) (fun _ v Hr hv => ?_) (fun h => by cases h)
  obtain ⟨bl, hby, rfl, rfl⟩ := hv
  refine ⟨⟨18, [(10, .agg [(.int .i64 n), (.ro (.arcs es))]), (11, .one (.int .i64 s)), (12, .tup [(false, [(.ro (.ints .i64 (okL (farErr n es s) (farOf n es s))))]), (false, [(.ro (.ints .i64 bl))]), (false, [(.int .i64 (farErr n es s))])])], []⟩, by kernel_rfl, ?_⟩
  refine aops_run 7 [6, 8] [] [] ⟨18, [(6, .one (.ro (.ints .i64 (okL (farErr n es s) (farOf n es s))))), (8, .one (.int .i64 (farErr n es s)))], []⟩ hT (by kernel_rfl) (by kernel_rfl) trivial ?_
  refine aops_end_seq (by kernel_rfl) ?_
  refine awp_run_seq [4, 5] [] [] ⟨18, [(4, .one (.ro (.ints .i64 (okL (farErr n es s) (farOf n es s))))), (5, .one (.int .i64 (farErr n es s)))], []⟩ hT (by kernel_rfl) trivial ?_
  refine awp_ret ?_
  refine kRet.ret _ [] [] (.tup [(false, [(.ro (.ints .i64 (okL (farErr n es s) (farOf n es s))))]), (false, [(.int .i64 (farErr n es s))])]) [] (by kernel_rfl) trivial ?_
  exact ⟨rfl, rfl⟩

theorem walk_path (n s t : Int) (es : List Arc) : ACall Try.prog 27 [.agg [(.int .i64 n), (.ro (.arcs es))], .one (.int .i64 s), .one (.int .i64 t)] [] (fun ov oh => ∃ (w : List Int), (WayTo n es s t w) ∧ ov = .tup [(false, [(.ro (.ints .i64 w))]), (false, [(.int .i64 (pathErr n es s t))])] ∧ oh = []) := by
  refine acall_intro hT Try.func27 rfl (by kernel_rfl) rfl (by kernel_rfl) ?_
  refine awp_run_seq [1, 2, 3] [103] [] ⟨67, [(1, .one (.int .i64 s)), (2, .one (.int .i64 t)), (3, .one (.ptr 103 0 0))], [(103, .box 1 2 [(.int .i64 n), (.ro (.arcs es))])]⟩ hT (by kernel_rfl) trivial ?_
  refine awp_seq (awp_region ?_)
  refine aops_run 2 [2, 3, 14, 15] [103] [(0 < 1)] ⟨67, [(2, .one (.int .i64 t)), (3, .one (.ptr 103 0 0)), (14, .agg [(.int .i64 n), (.ro (.arcs es))]), (15, .one (.int .i64 s))], [(103, .box 1 2 [(.int .i64 n), (.ro (.arcs es))])]⟩ hT (by kernel_rfl) (by kernel_rfl) ⟨(by decide), trivial⟩ ?_
  refine aops_call [] [] false ⟨true, [], 100, [.agg [(.int .i64 n), (.ro (.arcs es))], .one (.int .i64 s)], []⟩ [.agg [(.int .i64 n), (.ro (.arcs es))], .one (.int .i64 s)] (sm := ⟨67, [(2, .one (.int .i64 t)), (3, .one (.ptr 103 0 0)), (14, .agg [(.int .i64 n), (.ro (.arcs es))]), (15, .one (.int .i64 s)), (16, .whn false (.one .any))], [(103, .box 1 2 [(.int .i64 n), (.ro (.arcs es))])]⟩) (by kernel_rfl) (by kernel_rfl) (by decide) (fun _ => trivial) rfl (fun _ => walk_search n s es) (fun _ v Hr hv => ?_) (fun h => by cases h)
  obtain ⟨bl, hby, rfl, rfl⟩ := hv
  refine ⟨⟨67, [(2, .one (.int .i64 t)), (3, .one (.ptr 103 0 0)), (14, .agg [(.int .i64 n), (.ro (.arcs es))]), (15, .one (.int .i64 s)), (16, .tup [(false, [(.ro (.ints .i64 (okL (farErr n es s) (farOf n es s))))]), (false, [(.ro (.ints .i64 bl))]), (false, [(.int .i64 (farErr n es s))])])], [(103, .box 1 2 [(.int .i64 n), (.ro (.arcs es))])]⟩, by kernel_rfl, ?_⟩
  refine aops_run 7 [2, 3, 8, 9, 10] [103] [] ⟨67, [(2, .one (.int .i64 t)), (3, .one (.ptr 103 0 0)), (8, .one (.ro (.ints .i64 (okL (farErr n es s) (farOf n es s))))), (9, .one (.ro (.ints .i64 bl))), (10, .one (.int .i64 (farErr n es s)))], [(103, .box 1 2 [(.int .i64 n), (.ro (.arcs es))])]⟩ hT (by kernel_rfl) (by kernel_rfl) trivial ?_
  refine aops_end_seq (by kernel_rfl) ?_
  refine awp_seq ?_
  refine awp_run_seq [2, 3, 8, 9, 10, 21] [103] [] ⟨67, [(2, .one (.int .i64 t)), (3, .one (.ptr 103 0 0)), (8, .one (.ro (.ints .i64 (okL (farErr n es s) (farOf n es s))))), (9, .one (.ro (.ints .i64 bl))), (10, .one (.int .i64 (farErr n es s))), (21, .one (.bool (decide ((farErr n es s) ≠ 0))))], [(103, .box 1 2 [(.int .i64 n), (.ro (.arcs es))])]⟩ hT (by kernel_rfl) trivial ?_
  refine awp_cond (b := (decide ((farErr n es s) ≠ 0))) (by kernel_rfl) (fun c2 => ?_) (fun c2 => ?_)
  · -- yes 2
    try simp only [bs] at c2
    have hS : (pathErr n es s t) = (farErr n es s) := if_pos c2
    have hS0 : (pathErr n es s t) ≠ 0 := by rw [hS]; exact c2
    refine awp_run_seq [6, 7] [] [] ⟨67, [(6, .one .nils), (7, .one (.int .i64 (farErr n es s)))], []⟩ hT (by kernel_rfl) trivial ?_
    refine awp_weak (awk_slot 6 (.one .nils) (.one (.ro (.ints .i64 []))) _ (by kernel_rfl) (.one (wkv_nil0 rfl))) ?_
    refine awp_ret ?_
    refine kRet.ret _ [] [] (.tup [(false, [(.ro (.ints .i64 []))]), (false, [(.int .i64 (farErr n es s))])]) [] (by kernel_rfl) trivial ?_
    exact ⟨[], (by exact .inl ⟨hS0, rfl⟩), (by rw [hS]), (by kernel_rfl)⟩
  · -- no 2
    try simp only [bs] at c2
    have hF0 : (farErr n es s) = 0 := by omega
    have hFO := farErr_ok hF0
    have hG := hFO.ok
    have hs0 := hFO.s0
    have hs1 := hFO.s1
    have h1 := hG.n1
    have h2 := hG.n2
    have hA := hG.inR
    have hle := hG.len
    have hB := hby hF0
    have hbl := hB.1
    have hfl : (farOf n es s).length = n.toNat := by simp [farOf]
    refine awp_skip ?_
    refine awp_seq ?_
    rw [show (okL (farErr n es s) (farOf n es s)) = (farOf n es s) from okL_ok _ hF0]
    refine awp_run_seq [2, 3, 8, 9, 30] [103] [((!(decide (t < 0))) = true → ((!(decide (t < 0))) = true → (!(decide (t < 0))) = true)), ((!(decide (t < 0))) = true → (0 < 1)), ((!(decide (t < 0))) = true → ((!(decide (t < 0))) = true → (!(decide (t < 0))) = true)), ((!(decide (t < 0))) = true → ((!(decide (t < 0))) = true → (!(decide (t < 0))) = true)), ((!(decide (t < 0))) = true → (!(decide (t < 0))) = true)] ⟨67, [(2, .one (.int .i64 t)), (3, .one (.ptr 103 0 0)), (8, .one (.ro (.ints .i64 (farOf n es s)))), (9, .one (.ro (.ints .i64 bl))), (30, .one (.bool ((decide (t < 0)) || (decide (n ≤ t)))))], [(103, .box 1 2 [(.int .i64 n), (.ro (.arcs es))])]⟩ hT (by kernel_rfl) ⟨(by intro hg; first | exact hg | skip; (try simp only [bs] at hg ⊢); first | exact hg | first | omega | (simp only [lens]; omega) | (simp only [Bool.cond_decide]; omega) | grind), (by intro hg; first | exact hg | skip; (try simp only [bs] at hg); first | exact hg | first | omega | (simp only [lens]; omega) | (simp only [Bool.cond_decide]; omega) | grind), (by intro hg; first | exact hg | skip; (try simp only [bs] at hg ⊢); first | exact hg | first | omega | (simp only [lens]; omega) | (simp only [Bool.cond_decide]; omega) | grind), (by intro hg; first | exact hg | skip; (try simp only [bs] at hg ⊢); first | exact hg | first | omega | (simp only [lens]; omega) | (simp only [Bool.cond_decide]; omega) | grind), (fun h => h), trivial⟩ ?_
    refine awp_cond (b := ((decide (t < 0)) || (decide (n ≤ t)))) (by kernel_rfl) (fun c4 => ?_) (fun c4 => ?_)
    · -- yes 4
      try simp only [bs] at c4
      have hS : (pathErr n es s t) = 4 := by rw [pathErr, if_neg (by omega), if_pos (by omega)]
      have hS0 : (pathErr n es s t) ≠ 0 := by omega
      refine awp_run_seq [6, 7] [] [] ⟨67, [(6, .one .nils), (7, .one (.int .i64 4))], []⟩ hT (by kernel_rfl) trivial ?_
      refine awp_weak (awk_slot 6 (.one .nils) (.one (.ro (.ints .i64 []))) _ (by kernel_rfl) (.one (wkv_nil0 rfl))) ?_
      refine awp_ret ?_
      refine kRet.ret _ [] [] (.tup [(false, [(.ro (.ints .i64 []))]), (false, [(.int .i64 4)])]) [] (by kernel_rfl) trivial ?_
      exact ⟨[], (by exact .inl ⟨hS0, rfl⟩), (by rw [hS]), (by kernel_rfl)⟩
    · -- no 4
      try simp only [bs] at c4
      have hft := farOf_at (n := n) (s := s) (es := es) (v := t.toNat) (by omega)
      have hfi := farAt_in (n := n) (s := s) h2 hA t.toNat
      refine awp_skip ?_
      refine awp_seq ?_
      refine awp_run_seq [2, 3, 8, 9, 35] [103] [((0 : Int) ≤ t), (t < (((List.length (farOf n es s)) : Nat) : Int))] ⟨67, [(2, .one (.int .i64 t)), (3, .one (.ptr 103 0 0)), (8, .one (.ro (.ints .i64 (farOf n es s)))), (9, .one (.ro (.ints .i64 bl))), (35, .one (.bool (decide ((List.getD (farOf n es s) (Int.toNat t) 0) < 0))))], [(103, .box 1 2 [(.int .i64 n), (.ro (.arcs es))])]⟩ hT (by kernel_rfl) ⟨(by first | omega | (simp only [lens]; omega) | (simp only [Bool.cond_decide]; omega)), (by first | omega | (simp only [lens]; omega) | (simp only [Bool.cond_decide]; omega)), trivial⟩ ?_
      refine awp_cond (b := (decide ((List.getD (farOf n es s) (Int.toNat t) 0) < 0))) (by kernel_rfl) (fun c6 => ?_) (fun c6 => ?_)
      · -- yes 6
        try simp only [bs] at c6
        have hS : (pathErr n es s t) = 5 := by rw [pathErr, if_neg (by omega), if_neg (by omega), if_pos (by omega)]
        have hS0 : (pathErr n es s t) ≠ 0 := by omega
        refine awp_run_seq [6, 7] [] [] ⟨67, [(6, .one .nils), (7, .one (.int .i64 5))], []⟩ hT (by kernel_rfl) trivial ?_
        refine awp_weak (awk_slot 6 (.one .nils) (.one (.ro (.ints .i64 []))) _ (by kernel_rfl) (.one (wkv_nil0 rfl))) ?_
        refine awp_ret ?_
        refine kRet.ret _ [] [] (.tup [(false, [(.ro (.ints .i64 []))]), (false, [(.int .i64 5)])]) [] (by kernel_rfl) trivial ?_
        exact ⟨[], (by exact .inl ⟨hS0, rfl⟩), (by rw [hS]), (by kernel_rfl)⟩
      · -- no 6
        try simp only [bs] at c6
        have hP0 : (pathErr n es s t) = 0 := by rw [pathErr, if_neg (by omega), if_neg (by omega), if_neg (by omega)]
        refine awp_skip ?_
        refine awp_run_seq [2, 3, 8, 9, 11] [103, 140] [((0 : Int) ≤ t), (t < (((List.length (farOf n es s)) : Nat) : Int)), ((0 : Int) ≤ (List.getD (farOf n es s) (Int.toNat t) 0)), ((List.getD (farOf n es s) (Int.toNat t) 0) ≤ (List.getD (farOf n es s) (Int.toNat t) 0)), ((8 : Int) * (List.getD (farOf n es s) (Int.toNat t) 0) ≤ 281474976710656), ((List.getD (farOf n es s) (Int.toNat t) 0) ≤ 9223372036854775807)] ⟨67, [(2, .one (.int .i64 t)), (3, .one (.ptr 103 0 0)), (8, .one (.ro (.ints .i64 (farOf n es s)))), (9, .one (.ro (.ints .i64 bl))), (11, .one (.rw 140 0 (Int.toNat (List.getD (farOf n es s) (Int.toNat t) 0))))], [(103, .box 1 2 [(.int .i64 n), (.ro (.arcs es))]), (140, .flat (.ints .i64 (List.replicate (Int.toNat (List.getD (farOf n es s) (Int.toNat t) 0)) (0 : Int))))]⟩ hT (by kernel_rfl) ⟨(by first | omega | (simp only [lens]; omega) | (simp only [Bool.cond_decide]; omega)), (by first | omega | (simp only [lens]; omega) | (simp only [Bool.cond_decide]; omega)), (by first | omega | (simp only [lens]; omega) | (simp only [Bool.cond_decide]; omega)), (by first | omega | (simp only [lens]; omega) | (simp only [Bool.cond_decide]; omega)), (by first | omega | (simp only [lens]; omega) | (simp only [Bool.cond_decide]; omega)), (by first | omega | (simp only [lens]; omega) | (simp only [Bool.cond_decide]; omega)), trivial⟩ ?_
        refine awp_seq ?_
        refine awp_run_seq [2, 3, 9, 11, 12] [103, 140] [((0 : Int) ≤ t), (t < (((List.length (farOf n es s)) : Nat) : Int)), (-9223372036854775808 ≤ ((List.getD (farOf n es s) (Int.toNat t) 0) - 1) ∧ ((List.getD (farOf n es s) (Int.toNat t) 0) - 1) ≤ 9223372036854775807)] ⟨67, [(2, .one (.int .i64 t)), (3, .one (.ptr 103 0 0)), (9, .one (.ro (.ints .i64 bl))), (11, .one (.rw 140 0 (Int.toNat (List.getD (farOf n es s) (Int.toNat t) 0)))), (12, .one (.int .i64 ((List.getD (farOf n es s) (Int.toNat t) 0) - 1)))], [(103, .box 1 2 [(.int .i64 n), (.ro (.arcs es))]), (140, .flat (.ints .i64 (List.replicate (Int.toNat (List.getD (farOf n es s) (Int.toNat t) 0)) (0 : Int))))]⟩ hT (by kernel_rfl) ⟨(by first | omega | (simp only [lens]; omega) | (simp only [Bool.cond_decide]; omega)), (by first | omega | (simp only [lens]; omega) | (simp only [Bool.cond_decide]; omega)), (by first | omega | (simp only [lens]; omega) | (simp only [Bool.cond_decide]; omega)), trivial⟩ ?_
        refine awp_block ?_
        refine awp_loop (I := fun κ σ => ∃ (c k : Int) (o : List Int), ((0 ≤ c ∧ c < n) ∧ (-1 ≤ k ∧ k < (List.getD (farOf n es s) (Int.toNat t) 0)) ∧ (farAt es s c.toNat = k + 1) ∧ (o.length = (List.getD (farOf n es s) (Int.toNat t) 0).toNat) ∧ (isWay es (o.drop (k + 1).toNat) c t = true) ∧ (k + 1).toNat = κ) ∧ σ = ⟨67, [(2, .one (.int .i64 c)), (3, .one (.ptr 103 0 0)), (9, .one (.ro (.ints .i64 bl))), (11, .one (.rw 140 0 (Int.toNat (List.getD (farOf n es s) (Int.toNat t) 0)))), (12, .one (.int .i64 k))], [(103, .box 1 2 [(.int .i64 n), (.ro (.arcs es))]), (140, .flat (.ints .i64 o))]⟩) _ ⟨t, ((List.getD (farOf n es s) (Int.toNat t) 0) - 1), (List.replicate (Int.toNat (List.getD (farOf n es s) (Int.toNat t) 0)) (0 : Int)), ⟨(by omega), (by omega), (by omega), (by simp), (by rw [List.drop_of_length_le (by first | (simp; done) | (simp; omega))]; simp [isWay]), rfl⟩, (by kernel_rfl)⟩ ?_
        rintro κ _ ⟨c, k, o, ⟨hc, hk, hk1, hol, hway, rfl⟩, rfl⟩
        refine awp_seq ?_
        refine awp_run_seq [2, 3, 9, 11, 12, 47] [103, 140] [] ⟨67, [(2, .one (.int .i64 c)), (3, .one (.ptr 103 0 0)), (9, .one (.ro (.ints .i64 bl))), (11, .one (.rw 140 0 (Int.toNat (List.getD (farOf n es s) (Int.toNat t) 0)))), (12, .one (.int .i64 k)), (47, .one (.bool (decide ((0 : Int) ≤ k))))], [(103, .box 1 2 [(.int .i64 n), (.ro (.arcs es))]), (140, .flat (.ints .i64 o))]⟩ hT (by kernel_rfl) trivial ?_
        refine awp_cond (b := (decide ((0 : Int) ≤ k))) (by kernel_rfl) (fun c10 => ?_) (fun c10 => ?_)
        · -- yes 10
          try simp only [bs] at c10
          have hst := way_step hA hB hc.1 hc.2 (by omega) hk1 (by omega) hway
          obtain ⟨hst1, hst2, hst3, hst4⟩ := hst
          have hit : (c.toNat : Int) = c := Int.toNat_of_nonneg hc.1
          refine awp_skip ?_
          refine awp_seq ?_
          refine awp_block ?_
          refine awp_run_seq [2, 3, 9, 11, 12] [103, 140] [((0 : Int) ≤ c), (c < ((bl.length : Nat) : Int)), ((0 : Int) ≤ k), (k < (((Int.toNat (List.getD (farOf n es s) (Int.toNat t) 0)) : Nat) : Int)), ((Int.toNat k) < o.length)] ⟨67, [(2, .one (.int .i64 c)), (3, .one (.ptr 103 0 0)), (9, .one (.ro (.ints .i64 bl))), (11, .one (.rw 140 0 (Int.toNat (List.getD (farOf n es s) (Int.toNat t) 0)))), (12, .one (.int .i64 k))], [(103, .box 1 2 [(.int .i64 n), (.ro (.arcs es))]), (140, .flat (.ints .i64 (List.set o (Int.toNat k) (List.getD bl (Int.toNat c) 0))))]⟩ hT (by kernel_rfl) ⟨(by first | omega | (simp only [lens]; omega) | (simp only [Bool.cond_decide]; omega)), (by first | omega | (simp only [lens]; omega) | (simp only [Bool.cond_decide]; omega)), (by first | omega | (simp only [lens]; omega) | (simp only [Bool.cond_decide]; omega)), (by first | omega | (simp only [lens]; omega) | (simp only [Bool.cond_decide]; omega)), (by first | omega | (simp only [lens]; omega) | (simp only [Bool.cond_decide]; omega)), trivial⟩ ?_
          refine awp_still [2, 3, 9, 11, 12] [103, 140] [(0 < 1), ((0 : Int) ≤ c), (c < ((bl.length : Nat) : Int)), ((0 : Int) ≤ (List.getD bl (Int.toNat c) 0)), ((List.getD bl (Int.toNat c) 0) < ((es.length : Nat) : Int))] ⟨67, [(2, .one (.int .i64 ((List.getD es (Int.toNat (List.getD bl (Int.toNat c) 0)) default).src))), (3, .one (.ptr 103 0 0)), (9, .one (.ro (.ints .i64 bl))), (11, .one (.rw 140 0 (Int.toNat (List.getD (farOf n es s) (Int.toNat t) 0)))), (12, .one (.int .i64 k))], [(103, .box 1 2 [(.int .i64 n), (.ro (.arcs es))]), (140, .flat (.ints .i64 (List.set o (Int.toNat k) (List.getD bl (Int.toNat c) 0))))]⟩ (by kernel_rfl) (by kernel_rfl) hT (by kernel_rfl) ⟨(by decide), (by first | omega | (simp only [lens]; omega) | (simp only [Bool.cond_decide]; omega)), (by first | omega | (simp only [lens]; omega) | (simp only [Bool.cond_decide]; omega)), (by first | omega | (simp only [lens]; omega) | (simp only [Bool.cond_decide]; omega)), (by first | omega | (simp only [lens]; omega) | (simp only [Bool.cond_decide]; omega)), trivial⟩ ?_
          refine awp_run [2, 3, 9, 11, 12] [103, 140] [(-9223372036854775808 ≤ (k - 1) ∧ (k - 1) ≤ 9223372036854775807)] ⟨67, [(2, .one (.int .i64 ((List.getD es (Int.toNat (List.getD bl (Int.toNat c) 0)) default).src))), (3, .one (.ptr 103 0 0)), (9, .one (.ro (.ints .i64 bl))), (11, .one (.rw 140 0 (Int.toNat (List.getD (farOf n es s) (Int.toNat t) 0)))), (12, .one (.int .i64 (k - 1)))], [(103, .box 1 2 [(.int .i64 n), (.ro (.arcs es))]), (140, .flat (.ints .i64 (List.set o (Int.toNat k) (List.getD bl (Int.toNat c) 0))))]⟩ hT (by kernel_rfl) ⟨(by first | omega | (simp only [lens]; omega) | (simp only [Bool.cond_decide]; omega)), trivial⟩ ?_
          refine loop_end _ ?_ ⟨((List.getD es (Int.toNat (List.getD bl (Int.toNat c) 0)) default).src), (k - 1), (List.set o (Int.toNat k) (List.getD bl (Int.toNat c) 0)), ⟨(by exact hst2), (by omega), (by rw [hst3]; omega), (by simp only [lens]; exact hol), (by rw [show (k - 1 + 1).toNat = k.toNat by omega]; exact hst4), rfl⟩, (by kernel_rfl)⟩
          omega
        · -- no 10
          try simp only [bs] at c10
          have hkm : k = -1 := by omega
          have hcs : c = s := by have h := (hB.2 c.toNat (by omega)).1 (by omega); omega
          have hfin : isWay es o s t = true := by rw [hkm, hcs] at hway; simpa using hway
          refine awp_exit ?_
          refine awp_weak (awk_seal 140 (s' := ⟨67, [(2, .one (.int .i64 c)), (3, .one (.ptr 103 0 0)), (9, .one (.ro (.ints .i64 bl))), (11, .one (.ro (.ints .i64 (List.take (Int.toNat (List.getD (farOf n es s) (Int.toNat t) 0)) o)))), (12, .one (.int .i64 k)), (47, .one (.bool (decide ((0 : Int) ≤ k))))], [(103, .box 1 2 [(.int .i64 n), (.ro (.arcs es))])]⟩) (by kernel_rfl)) ?_
          rw [show (List.take (Int.toNat (List.getD (farOf n es s) (Int.toNat t) 0)) o) = o from List.take_of_length_le (by first | omega | simp)]
          refine awp_run_seq [6, 7] [] [] ⟨67, [(6, .one (.ro (.ints .i64 o))), (7, .one (.int .i64 0))], []⟩ hT (by kernel_rfl) trivial ?_
          refine awp_ret ?_
          refine kRet.ret _ [] [] (.tup [(false, [(.ro (.ints .i64 o))]), (false, [(.int .i64 0)])]) [] (by kernel_rfl) trivial ?_
          exact ⟨o, (by exact .inr ⟨hP0, hol, hfin⟩), (by rw [hP0]), (by kernel_rfl)⟩

theorem ref_isWay (es : List Arc) (w : List Int) (s t : Int) : ACall Try.prog 31 [.one (.ro (.arcs es)), .one (.ro (.ints .i64 w)), .one (.int .i64 s), .one (.int .i64 t)] [] (fun ov oh => ov = .one (.bool (isWay es w s t)) ∧ oh = []) := by
  refine acall_intro hT Try.func31 rfl (by kernel_rfl) rfl (by kernel_rfl) ?_
  refine awp_len 1 0 (.ints .i64 w) (by kernel_rfl) (fun hlw => ?_)
  simp only [C0.len, maxLen] at hlw
  refine awp_run_seq [0, 1, 2, 3] [] [] ⟨43, [(0, .one (.ro (.arcs es))), (1, .one (.ro (.ints .i64 w))), (2, .one (.int .i64 s)), (3, .one (.int .i64 t))], []⟩ hT (by kernel_rfl) trivial ?_
  refine awp_seq ?_
  refine awp_run_seq [0, 2, 3, 11, 12, 13] [] [] ⟨43, [(0, .one (.ro (.arcs es))), (2, .one (.int .i64 s)), (3, .one (.int .i64 t)), (11, .one (.ro (.ints .i64 w))), (12, .one (.int .i64 ((w.length : Nat) : Int))), (13, .one (.int .i64 0))], []⟩ hT (by kernel_rfl) trivial ?_
  refine awp_block ?_
  refine awp_loop (I := fun κ σ => ∃ (i : Nat) (c : Int), ((i ≤ w.length) ∧ (isWay es (w.drop i) c t = isWay es w s t) ∧ w.length - i = κ) ∧ σ = ⟨43, [(0, .one (.ro (.arcs es))), (2, .one (.int .i64 c)), (3, .one (.int .i64 t)), (11, .one (.ro (.ints .i64 w))), (12, .one (.int .i64 ((w.length : Nat) : Int))), (13, .one (.int .i64 ((i : Nat) : Int)))], []⟩) _ ⟨0, s, ⟨(by omega), (by rfl), rfl⟩, (by kernel_rfl)⟩ ?_
  rintro κ _ ⟨i, c, ⟨hi, hq, rfl⟩, rfl⟩
  refine awp_run_seq [0, 2, 3, 11, 12, 13, 14] [] [] ⟨43, [(0, .one (.ro (.arcs es))), (2, .one (.int .i64 c)), (3, .one (.int .i64 t)), (11, .one (.ro (.ints .i64 w))), (12, .one (.int .i64 ((w.length : Nat) : Int))), (13, .one (.int .i64 ((i : Nat) : Int))), (14, .one (.bool (decide (((i : Nat) : Int) < ((w.length : Nat) : Int)))))], []⟩ hT (by kernel_rfl) trivial ?_
  refine awp_seq ?_
  refine awp_cond (b := (decide (((i : Nat) : Int) < ((w.length : Nat) : Int)))) (by kernel_rfl) (fun c2 => ?_) (fun c2 => ?_)
  · -- yes 2
    try simp only [bs] at c2
    have hiw : i < w.length := by omega
    refine awp_skip ?_
    refine awp_seq ?_
    refine awp_block ?_
    refine awp_run_seq [0, 2, 3, 10, 11, 12, 13] [] [((0 : Int) ≤ ((i : Nat) : Int)), (((i : Nat) : Int) < ((w.length : Nat) : Int))] ⟨43, [(0, .one (.ro (.arcs es))), (2, .one (.int .i64 c)), (3, .one (.int .i64 t)), (10, .one (.int .i64 (List.getD w i 0))), (11, .one (.ro (.ints .i64 w))), (12, .one (.int .i64 ((w.length : Nat) : Int))), (13, .one (.int .i64 ((i : Nat) : Int)))], []⟩ hT (by kernel_rfl) ⟨(by first | omega | (simp only [lens]; omega) | (simp only [Bool.cond_decide]; omega)), (by first | omega | (simp only [lens]; omega) | (simp only [Bool.cond_decide]; omega)), trivial⟩ ?_
    refine awp_seq ?_
    refine awp_run_seq [0, 3, 10, 11, 12, 13, 33] [] [((!(decide ((List.getD w i 0) < 0))) = true → ((!(decide ((List.getD w i 0) < 0))) = true → (!(decide ((List.getD w i 0) < 0))) = true)), ((!(decide ((List.getD w i 0) < 0))) = true → ((!(decide ((List.getD w i 0) < 0))) = true → (!(decide ((List.getD w i 0) < 0))) = true)), ((!(decide ((List.getD w i 0) < 0))) = true → ((!(decide ((List.getD w i 0) < 0))) = true → (!(decide ((List.getD w i 0) < 0))) = true)), ((!(decide ((List.getD w i 0) < 0))) = true → (!(decide ((List.getD w i 0) < 0))) = true), ((!((decide ((List.getD w i 0) < 0)) || (decide (((es.length : Nat) : Int) ≤ (List.getD w i 0))))) = true → ((!((decide ((List.getD w i 0) < 0)) || (decide (((es.length : Nat) : Int) ≤ (List.getD w i 0))))) = true → (!((decide ((List.getD w i 0) < 0)) || (decide (((es.length : Nat) : Int) ≤ (List.getD w i 0))))) = true)), ((!((decide ((List.getD w i 0) < 0)) || (decide (((es.length : Nat) : Int) ≤ (List.getD w i 0))))) = true → ((!((decide ((List.getD w i 0) < 0)) || (decide (((es.length : Nat) : Int) ≤ (List.getD w i 0))))) = true → (!((decide ((List.getD w i 0) < 0)) || (decide (((es.length : Nat) : Int) ≤ (List.getD w i 0))))) = true)), ((!((decide ((List.getD w i 0) < 0)) || (decide (((es.length : Nat) : Int) ≤ (List.getD w i 0))))) = true → ((0 : Int) ≤ (List.getD w i 0))), ((!((decide ((List.getD w i 0) < 0)) || (decide (((es.length : Nat) : Int) ≤ (List.getD w i 0))))) = true → ((List.getD w i 0) < ((es.length : Nat) : Int))), ((!((decide ((List.getD w i 0) < 0)) || (decide (((es.length : Nat) : Int) ≤ (List.getD w i 0))))) = true → ((!((decide ((List.getD w i 0) < 0)) || (decide (((es.length : Nat) : Int) ≤ (List.getD w i 0))))) = true → (!((decide ((List.getD w i 0) < 0)) || (decide (((es.length : Nat) : Int) ≤ (List.getD w i 0))))) = true)), ((!((decide ((List.getD w i 0) < 0)) || (decide (((es.length : Nat) : Int) ≤ (List.getD w i 0))))) = true → ((!((decide ((List.getD w i 0) < 0)) || (decide (((es.length : Nat) : Int) ≤ (List.getD w i 0))))) = true → (!((decide ((List.getD w i 0) < 0)) || (decide (((es.length : Nat) : Int) ≤ (List.getD w i 0))))) = true)), ((!((decide ((List.getD w i 0) < 0)) || (decide (((es.length : Nat) : Int) ≤ (List.getD w i 0))))) = true → ((!((decide ((List.getD w i 0) < 0)) || (decide (((es.length : Nat) : Int) ≤ (List.getD w i 0))))) = true → (!((decide ((List.getD w i 0) < 0)) || (decide (((es.length : Nat) : Int) ≤ (List.getD w i 0))))) = true)), ((!((decide ((List.getD w i 0) < 0)) || (decide (((es.length : Nat) : Int) ≤ (List.getD w i 0))))) = true → ((!((decide ((List.getD w i 0) < 0)) || (decide (((es.length : Nat) : Int) ≤ (List.getD w i 0))))) = true → (!((decide ((List.getD w i 0) < 0)) || (decide (((es.length : Nat) : Int) ≤ (List.getD w i 0))))) = true)), ((!((decide ((List.getD w i 0) < 0)) || (decide (((es.length : Nat) : Int) ≤ (List.getD w i 0))))) = true → (!((decide ((List.getD w i 0) < 0)) || (decide (((es.length : Nat) : Int) ≤ (List.getD w i 0))))) = true)] ⟨43, [(0, .one (.ro (.arcs es))), (3, .one (.int .i64 t)), (10, .one (.int .i64 (List.getD w i 0))), (11, .one (.ro (.ints .i64 w))), (12, .one (.int .i64 ((w.length : Nat) : Int))), (13, .one (.int .i64 ((i : Nat) : Int))), (33, .one (.bool (((decide ((List.getD w i 0) < 0)) || (decide (((es.length : Nat) : Int) ≤ (List.getD w i 0)))) || (decide (((List.getD es (Int.toNat (List.getD w i 0)) default).src) ≠ c)))))], []⟩ hT (by kernel_rfl) ⟨(by intro hg; first | exact hg | skip; (try simp only [bs] at hg ⊢); first | exact hg | first | omega | (simp only [lens]; omega) | (simp only [Bool.cond_decide]; omega) | grind), (by intro hg; first | exact hg | skip; (try simp only [bs] at hg ⊢); first | exact hg | first | omega | (simp only [lens]; omega) | (simp only [Bool.cond_decide]; omega) | grind), (by intro hg; first | exact hg | skip; (try simp only [bs] at hg ⊢); first | exact hg | first | omega | (simp only [lens]; omega) | (simp only [Bool.cond_decide]; omega) | grind), (fun h => h), (by intro hg; first | exact hg | skip; (try simp only [bs] at hg ⊢); first | exact hg | first | omega | (simp only [lens]; omega) | (simp only [Bool.cond_decide]; omega) | grind), (by intro hg; first | exact hg | skip; (try simp only [bs] at hg ⊢); first | exact hg | first | omega | (simp only [lens]; omega) | (simp only [Bool.cond_decide]; omega) | grind), (by intro hg; first | exact hg | skip; (try simp only [bs] at hg); first | exact hg | first | omega | (simp only [lens]; omega) | (simp only [Bool.cond_decide]; omega) | grind), (by intro hg; first | exact hg | skip; (try simp only [bs] at hg); first | exact hg | first | omega | (simp only [lens]; omega) | (simp only [Bool.cond_decide]; omega) | grind), (by intro hg; first | exact hg | skip; (try simp only [bs] at hg ⊢); first | exact hg | first | omega | (simp only [lens]; omega) | (simp only [Bool.cond_decide]; omega) | grind), (by intro hg; first | exact hg | skip; (try simp only [bs] at hg ⊢); first | exact hg | first | omega | (simp only [lens]; omega) | (simp only [Bool.cond_decide]; omega) | grind), (by intro hg; first | exact hg | skip; (try simp only [bs] at hg ⊢); first | exact hg | first | omega | (simp only [lens]; omega) | (simp only [Bool.cond_decide]; omega) | grind), (by intro hg; first | exact hg | skip; (try simp only [bs] at hg ⊢); first | exact hg | first | omega | (simp only [lens]; omega) | (simp only [Bool.cond_decide]; omega) | grind), (fun h => h), trivial⟩ ?_
    refine awp_cond (b := (((decide ((List.getD w i 0) < 0)) || (decide (((es.length : Nat) : Int) ≤ (List.getD w i 0)))) || (decide (((List.getD es (Int.toNat (List.getD w i 0)) default).src) ≠ c)))) (by kernel_rfl) (fun c4 => ?_) (fun c4 => ?_)
    · -- yes 4
      try simp only [bs] at c4
      refine awp_run_seq [8] [] [] ⟨43, [(8, .one (.bool false))], []⟩ hT (by kernel_rfl) trivial ?_
      refine awp_ret ?_
      refine kRet.ret _ [] [] (.one (.bool false)) [] (by kernel_rfl) trivial ?_
      exact ⟨congrArg (fun x1 => (.one (.bool x1) : AV)) (show false = (isWay es w s t) from by rw [← hq, isWay_drop hiw, decide_eq_false (by omega), Bool.false_and]), rfl⟩
    · -- no 4
      try simp only [bs] at c4
      refine awp_skip ?_
      refine awp_run [0, 2, 3, 11, 12, 13] [] [((0 : Int) ≤ (List.getD w i 0)), ((List.getD w i 0) < ((es.length : Nat) : Int))] ⟨43, [(0, .one (.ro (.arcs es))), (2, .one (.int .i64 ((List.getD es (Int.toNat (List.getD w i 0)) default).dst))), (3, .one (.int .i64 t)), (11, .one (.ro (.ints .i64 w))), (12, .one (.int .i64 ((w.length : Nat) : Int))), (13, .one (.int .i64 ((i : Nat) : Int)))], []⟩ hT (by kernel_rfl) ⟨(by first | omega | (simp only [lens]; omega) | (simp only [Bool.cond_decide]; omega)), (by first | omega | (simp only [lens]; omega) | (simp only [Bool.cond_decide]; omega)), trivial⟩ ?_
      refine awp_run [0, 2, 3, 11, 12, 13] [] [(-9223372036854775808 ≤ (((i + 1) : Nat) : Int) ∧ (((i + 1) : Nat) : Int) ≤ 9223372036854775807)] ⟨43, [(0, .one (.ro (.arcs es))), (2, .one (.int .i64 ((List.getD es (Int.toNat (List.getD w i 0)) default).dst))), (3, .one (.int .i64 t)), (11, .one (.ro (.ints .i64 w))), (12, .one (.int .i64 ((w.length : Nat) : Int))), (13, .one (.int .i64 (((i + 1) : Nat) : Int)))], []⟩ hT (by kernel_rfl) ⟨(by first | omega | (simp only [lens]; omega) | (simp only [Bool.cond_decide]; omega)), trivial⟩ ?_
      refine loop_end _ ?_ ⟨(i + 1), ((List.getD es (Int.toNat (List.getD w i 0)) default).dst), ⟨(by omega), (by rw [← hq, isWay_drop hiw, decide_eq_true (by omega), Bool.true_and]), rfl⟩, (by kernel_rfl)⟩
      omega
  · -- no 2
    try simp only [bs] at c2
    rw [List.drop_of_length_le (by omega)] at hq
    refine awp_exit ?_
    refine awp_run_seq [8] [] [] ⟨43, [(8, .one (.bool (decide (c = t))))], []⟩ hT (by kernel_rfl) trivial ?_
    refine awp_ret ?_
    refine kRet.ret _ [] [] (.one (.bool (decide (c = t)))) [] (by kernel_rfl) trivial ?_
    exact ⟨congrArg (fun x1 => (.one (.bool x1) : AV)) (show (decide (c = t)) = (isWay es w s t) from by rw [← hq]; rfl), rfl⟩

end Go.Ab
