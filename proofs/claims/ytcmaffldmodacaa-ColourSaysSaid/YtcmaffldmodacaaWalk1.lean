/- Of ways: the parts. -/
import Derived.Test.YtcmaffldmodacaaTab
import Derived.Test.YtcmaffldmodacaaWays2
import Derived.Test.YtcmaffldmodacaaPlB
set_option maxRecDepth 100000
namespace Go.Ab
open Go Go.Proofs
theorem walk_parts (n : Int) (es : List Arc) : ACall Try.prog 58 [.agg [(.int .i64 n), (.ro (.arcs es))]] [] (fun ov oh => ov = .tup [(false, [(.ro (.ints .i64 (okL (graphErr n es (-10000)) (joinedOf n es))))]), (false, [(.int .i64 (graphErr n es (-10000)))])] ∧ oh = []) := by
  refine acall_intro hT Try.func58 rfl (by kernel_rfl) rfl (by kernel_rfl) ?_
  refine awp_run_seq [1] [101] [] ⟨63, [(1, .one (.ptr 101 0 0))], [(101, .box 1 2 [(.int .i64 n), (.ro (.arcs es))])]⟩ hT (by kernel_rfl) trivial ?_
  refine awp_seq ?_
  refine awp_seq (awp_region ?_)
  refine aops_run 1 [1, 10] [101] [(0 < 1)] ⟨63, [(1, .one (.ptr 101 0 0)), (10, .agg [(.int .i64 n), (.ro (.arcs es))])], [(101, .box 1 2 [(.int .i64 n), (.ro (.arcs es))])]⟩ hT (by kernel_rfl) (by kernel_rfl) ⟨(by decide), trivial⟩ ?_
  refine aops_pure false ⟨true, [], 30, [.agg [(.int .i64 n), (.ro (.arcs es))]], []⟩ [.agg [(.int .i64 n), (.ro (.arcs es))]] (.one (.int .i64 (graphErr n es (-10000)))) ⟨63, [(1, .one (.ptr 101 0 0)), (10, .agg [(.int .i64 n), (.ro (.arcs es))]), (11, .one (.int .i64 (graphErr n es (-10000))))], [(101, .box 1 2 [(.int .i64 n), (.ro (.arcs es))])]⟩ (by kernel_rfl) (by kernel_rfl) (fun _ => trivial) rfl (fun _ => graph_CheckLong n es) ?_
  refine aops_run 1 [1, 4] [101] [] ⟨63, [(1, .one (.ptr 101 0 0)), (4, .one (.int .i64 (graphErr n es (-10000))))], [(101, .box 1 2 [(.int .i64 n), (.ro (.arcs es))])]⟩ hT (by kernel_rfl) (by kernel_rfl) trivial ?_
  refine aops_end_seq (by kernel_rfl) ?_
  refine awp_run_seq [1, 4, 13] [101] [] ⟨63, [(1, .one (.ptr 101 0 0)), (4, .one (.int .i64 (graphErr n es (-10000)))), (13, .one (.bool (decide ((graphErr n es (-10000)) ≠ 0))))], [(101, .box 1 2 [(.int .i64 n), (.ro (.arcs es))])]⟩ hT (by kernel_rfl) trivial ?_
  refine awp_cond (b := (decide ((graphErr n es (-10000)) ≠ 0))) (by kernel_rfl) (fun c2 => ?_) (fun c2 => ?_)
  ·
    try simp only [bs] at c2
    refine awp_run_seq [2, 3] [] [] ⟨63, [(2, .one .nils), (3, .one (.int .i64 (graphErr n es (-10000))))], []⟩ hT (by kernel_rfl) trivial ?_
    refine awp_weak (awk_slot 2 (.one .nils) (.one (.ro (.ints .i64 []))) _ (by kernel_rfl) (.one (wkv_nil0 rfl))) ?_
    refine awp_ret ?_
    refine kRet.ret _ [] [] (.tup [(false, [(.ro (.ints .i64 []))]), (false, [(.int .i64 (graphErr n es (-10000)))])]) [] (by kernel_rfl) trivial ?_
    exact ⟨congrArg (fun x1 => (.tup [(false, [(.ro (.ints .i64 x1))]), (false, [(.int .i64 (graphErr n es (-10000)))])] : AV)) (show [] = (okL (graphErr n es (-10000)) (joinedOf n es)) from by first | exact (okI_no _ c2).symm | exact (okL_no _ c2).symm | exact hE.symm), rfl⟩
  ·
    try simp only [bs] at c2
    have hE : (graphErr n es (-10000)) = 0 := by omega
    have hG := graphErr_ok hE
    have h1 := hG.n1
    have h2 := hG.n2
    have hA := hG.inR
    have hle := hG.len
    refine awp_skip ?_
    refine awp_run_seq [1, 5] [101, 117] [(0 < 1), ((0 : Int) ≤ n), (n ≤ n), ((8 : Int) * n ≤ 281474976710656), (n ≤ 9223372036854775807)] ⟨63, [(1, .one (.ptr 101 0 0)), (5, .one (.rw 117 0 (Int.toNat n)))], [(101, .box 1 2 [(.int .i64 n), (.ro (.arcs es))]), (117, .flat (.ints .i64 (List.replicate (Int.toNat n) (0 : Int))))]⟩ hT (by kernel_rfl) ⟨(by decide), (by omega), (by omega), (by omega), (by omega), trivial⟩ ?_
    refine awp_seq ?_
    refine awp_run_seq [1, 5, 19, 20] [101, 117] [] ⟨63, [(1, .one (.ptr 101 0 0)), (5, .one (.rw 117 0 (Int.toNat n))), (19, .one (.int .i64 (((Int.toNat n) : Nat) : Int))), (20, .one (.int .i64 0))], [(101, .box 1 2 [(.int .i64 n), (.ro (.arcs es))]), (117, .flat (.ints .i64 (List.replicate (Int.toNat n) (0 : Int))))]⟩ hT (by kernel_rfl) trivial ?_
    refine awp_block ?_
    refine awp_loop (I := fun κ σ => ∃ (i : Nat) (o : List Int), ((i ≤ n.toNat) ∧ (o.length = n.toNat) ∧ (∀ v, v < i → o.getD v 0 = v) ∧ n.toNat - i = κ) ∧ σ = ⟨63, [(1, .one (.ptr 101 0 0)), (5, .one (.rw 117 0 (Int.toNat n))), (19, .one (.int .i64 (((Int.toNat n) : Nat) : Int))), (20, .one (.int .i64 (i : Int)))], [(101, .box 1 2 [(.int .i64 n), (.ro (.arcs es))]), (117, .flat (.ints .i64 o))]⟩) _ ⟨0, (List.replicate (Int.toNat n) (0 : Int)), ⟨(by omega), (by simp), (by intro v hv; omega), rfl⟩, (by kernel_rfl)⟩ ?_
    rintro κ _ ⟨i, o, ⟨hi, hol, hoi, rfl⟩, rfl⟩
    refine awp_run_seq [1, 5, 19, 20, 21] [101, 117] [] ⟨63, [(1, .one (.ptr 101 0 0)), (5, .one (.rw 117 0 (Int.toNat n))), (19, .one (.int .i64 (((Int.toNat n) : Nat) : Int))), (20, .one (.int .i64 (i : Int))), (21, .one (.bool (decide ((i : Int) < (((Int.toNat n) : Nat) : Int)))))], [(101, .box 1 2 [(.int .i64 n), (.ro (.arcs es))]), (117, .flat (.ints .i64 o))]⟩ hT (by kernel_rfl) trivial ?_
    refine awp_seq ?_
    refine awp_cond (b := (decide ((i : Int) < (((Int.toNat n) : Nat) : Int)))) (by kernel_rfl) (fun c6 => ?_) (fun c6 => ?_)
    ·
      try simp only [bs] at c6
      refine awp_skip ?_
      refine awp_seq ?_
      refine awp_block ?_
      refine awp_run_seq [1, 5, 6, 19, 20] [101, 117] [] ⟨63, [(1, .one (.ptr 101 0 0)), (5, .one (.rw 117 0 (Int.toNat n))), (6, .one (.int .i64 (i : Int))), (19, .one (.int .i64 (((Int.toNat n) : Nat) : Int))), (20, .one (.int .i64 (i : Int)))], [(101, .box 1 2 [(.int .i64 n), (.ro (.arcs es))]), (117, .flat (.ints .i64 o))]⟩ hT (by kernel_rfl) trivial ?_
      refine awp_run [1, 5, 19, 20] [101, 117] [((0 : Int) ≤ (i : Int)), ((i : Int) < (((Int.toNat n) : Nat) : Int)), (i < o.length)] ⟨63, [(1, .one (.ptr 101 0 0)), (5, .one (.rw 117 0 (Int.toNat n))), (19, .one (.int .i64 (((Int.toNat n) : Nat) : Int))), (20, .one (.int .i64 (i : Int)))], [(101, .box 1 2 [(.int .i64 n), (.ro (.arcs es))]), (117, .flat (.ints .i64 (List.set o i (i : Int))))]⟩ hT (by kernel_rfl) ⟨(by omega), (by omega), (by omega), trivial⟩ ?_
      refine awp_run [1, 5, 19, 20] [101, 117] [(-9223372036854775808 ≤ (((i + 1) : Nat) : Int) ∧ (((i + 1) : Nat) : Int) ≤ 9223372036854775807)] ⟨63, [(1, .one (.ptr 101 0 0)), (5, .one (.rw 117 0 (Int.toNat n))), (19, .one (.int .i64 (((Int.toNat n) : Nat) : Int))), (20, .one (.int .i64 (((i + 1) : Nat) : Int)))], [(101, .box 1 2 [(.int .i64 n), (.ro (.arcs es))]), (117, .flat (.ints .i64 (List.set o i (i : Int))))]⟩ hT (by kernel_rfl) ⟨(by omega), trivial⟩ ?_
      refine loop_end _ ?_ ⟨(i + 1), (List.set o i (i : Int)), ⟨(by omega), (by simp only [lens]; exact hol), (by intro v hv; rcases Nat.lt_succ_iff_lt_or_eq.1 hv with h | h; rw [getD_set_ne _ _ _ _ _ (by omega)]; exact hoi v h; subst h; exact getD_set_self _ _ _ _ (by omega)), rfl⟩, (by kernel_rfl)⟩
      omega
    ·
      try simp only [bs] at c6
      have hst := lab_start (es := es) hol (fun v hv => hoi v (by omega))
      refine awp_exit ?_
      refine awp_seq ?_
      refine awp_run_seq [1, 5, 29, 30] [101, 117] [(0 < 1)] ⟨63, [(1, .one (.ptr 101 0 0)), (5, .one (.rw 117 0 (Int.toNat n))), (29, .one (.int .i64 n)), (30, .one (.int .i64 0))], [(101, .box 1 2 [(.int .i64 n), (.ro (.arcs es))]), (117, .flat (.ints .i64 o))]⟩ hT (by kernel_rfl) ⟨(by decide), trivial⟩ ?_
      refine awp_block ?_
      refine awp_loop (I := fun κ σ => ∃ (r : Nat) (o : List Int), ((r ≤ n.toNat) ∧ (Lab n es o) ∧ (Near n es o r) ∧ n.toNat - r = κ) ∧ σ = ⟨63, [(1, .one (.ptr 101 0 0)), (5, .one (.rw 117 0 (Int.toNat n))), (29, .one (.int .i64 n)), (30, .one (.int .i64 (r : Int)))], [(101, .box 1 2 [(.int .i64 n), (.ro (.arcs es))]), (117, .flat (.ints .i64 o))]⟩) _ ⟨0, o, ⟨(by omega), (by exact hst.1), (by exact hst.2), rfl⟩, (by kernel_rfl)⟩ ?_
      rintro κ _ ⟨r, o, ⟨hr, hL, hN, rfl⟩, rfl⟩
      refine awp_run_seq [1, 5, 29, 30, 31] [101, 117] [] ⟨63, [(1, .one (.ptr 101 0 0)), (5, .one (.rw 117 0 (Int.toNat n))), (29, .one (.int .i64 n)), (30, .one (.int .i64 (r : Int))), (31, .one (.bool (decide ((r : Int) < n))))], [(101, .box 1 2 [(.int .i64 n), (.ro (.arcs es))]), (117, .flat (.ints .i64 o))]⟩ hT (by kernel_rfl) trivial ?_
      refine awp_seq ?_
      refine awp_cond (b := (decide ((r : Int) < n))) (by kernel_rfl) (fun c11 => ?_) (fun c11 => ?_)
      ·
        try simp only [bs] at c11
        refine awp_skip ?_
        refine awp_seq ?_
        refine awp_block ?_
        refine awp_run_seq [1, 5, 29, 30, 33, 34, 35] [101, 117] [(0 < 1)] ⟨63, [(1, .one (.ptr 101 0 0)), (5, .one (.rw 117 0 (Int.toNat n))), (29, .one (.int .i64 n)), (30, .one (.int .i64 (r : Int))), (33, .one (.ro (.arcs es))), (34, .one (.int .i64 ((es.length : Nat) : Int))), (35, .one (.int .i64 0))], [(101, .box 1 2 [(.int .i64 n), (.ro (.arcs es))]), (117, .flat (.ints .i64 o))]⟩ hT (by kernel_rfl) ⟨(by decide), trivial⟩ ?_
        refine awp_block ?_
        refine awp_loop (I := fun κ σ => ∃ (k : Nat) (o2 : List Int), ((k ≤ es.length) ∧ (Lab n es o2) ∧ (Round es o o2 k) ∧ es.length - k = κ) ∧ σ = ⟨63, [(1, .one (.ptr 101 0 0)), (5, .one (.rw 117 0 (Int.toNat n))), (29, .one (.int .i64 n)), (30, .one (.int .i64 (r : Int))), (33, .one (.ro (.arcs es))), (34, .one (.int .i64 ((es.length : Nat) : Int))), (35, .one (.int .i64 (k : Int)))], [(101, .box 1 2 [(.int .i64 n), (.ro (.arcs es))]), (117, .flat (.ints .i64 o2))]⟩) _ ⟨0, o, ⟨(by omega), (by exact hL), (by exact Round.start), rfl⟩, (by kernel_rfl)⟩ ?_
        rintro κ _ ⟨k, o2, ⟨hk, hL2, hR2, rfl⟩, rfl⟩
        refine awp_run_seq [1, 5, 29, 30, 33, 34, 35, 36] [101, 117] [] ⟨63, [(1, .one (.ptr 101 0 0)), (5, .one (.rw 117 0 (Int.toNat n))), (29, .one (.int .i64 n)), (30, .one (.int .i64 (r : Int))), (33, .one (.ro (.arcs es))), (34, .one (.int .i64 ((es.length : Nat) : Int))), (35, .one (.int .i64 (k : Int))), (36, .one (.bool (decide ((k : Int) < ((es.length : Nat) : Int)))))], [(101, .box 1 2 [(.int .i64 n), (.ro (.arcs es))]), (117, .flat (.ints .i64 o2))]⟩ hT (by kernel_rfl) trivial ?_
        refine awp_seq ?_
        refine awp_cond (b := (decide ((k : Int) < ((es.length : Nat) : Int)))) (by kernel_rfl) (fun c13 => ?_) (fun c13 => ?_)
        ·
          try simp only [bs] at c13
          have hkl : k < es.length := by omega
          obtain ⟨b1, b2, b3, b4⟩ := hA _ (getD_mem (d := default) hkl)
          have hol2 := hL2.len
          refine awp_skip ?_
          refine awp_seq ?_
          refine awp_block ?_
          refine awp_run_seq [1, 5, 8, 29, 30, 33, 34, 35] [101, 108, 117] [((0 : Int) ≤ (k : Int)), ((k : Int) < ((es.length : Nat) : Int)), (0 < 1)] ⟨63, [(1, .one (.ptr 101 0 0)), (5, .one (.rw 117 0 (Int.toNat n))), (8, .one (.ptr 108 0 0)), (29, .one (.int .i64 n)), (30, .one (.int .i64 (r : Int))), (33, .one (.ro (.arcs es))), (34, .one (.int .i64 ((es.length : Nat) : Int))), (35, .one (.int .i64 (k : Int)))], [(101, .box 1 2 [(.int .i64 n), (.ro (.arcs es))]), (108, .box 1 3 [(.int .i64 ((List.getD es k default).src)), (.int .i64 ((List.getD es k default).dst)), (.int .i64 ((List.getD es k default).cap))]), (117, .flat (.ints .i64 o2))]⟩ hT (by kernel_rfl) ⟨(by omega), (by omega), (by decide), trivial⟩ ?_
          refine awp_seq (awp_still [1, 5, 8, 9, 29, 30, 33, 34, 35] [101, 108, 117] [(0 < 1), ((0 : Int) ≤ ((List.getD es k default).src)), (((List.getD es k default).src) < (((Int.toNat n) : Nat) : Int)), ((Int.toNat ((List.getD es k default).src)) < o2.length), (0 < 1), ((0 : Int) ≤ ((List.getD es k default).dst)), (((List.getD es k default).dst) < (((Int.toNat n) : Nat) : Int)), ((Int.toNat ((List.getD es k default).dst)) < o2.length)] ⟨63, [(1, .one (.ptr 101 0 0)), (5, .one (.rw 117 0 (Int.toNat n))), (8, .one (.ptr 108 0 0)), (9, .one (.int .i64 (min (List.getD o2 (Int.toNat ((List.getD es k default).src)) 0) (List.getD o2 (Int.toNat ((List.getD es k default).dst)) 0)))), (29, .one (.int .i64 n)), (30, .one (.int .i64 (r : Int))), (33, .one (.ro (.arcs es))), (34, .one (.int .i64 ((es.length : Nat) : Int))), (35, .one (.int .i64 (k : Int)))], [(101, .box 1 2 [(.int .i64 n), (.ro (.arcs es))]), (108, .box 1 3 [(.int .i64 ((List.getD es k default).src)), (.int .i64 ((List.getD es k default).dst)), (.int .i64 ((List.getD es k default).cap))]), (117, .flat (.ints .i64 o2))]⟩ (by kernel_rfl) (by kernel_rfl) hT (by kernel_rfl) ⟨(by decide), (by omega), (by omega), (by omega), (by decide), (by omega), (by omega), (by omega), trivial⟩ ?_)
          refine awp_any [] false [1, 5, 29, 30, 33, 34, 35] [101, 117] 3 [(0, []), (1, []), (2, [(0 < 1)]), (3, []), (4, []), (5, [(0 < 1)]), (6, []), (7, []), (8, [((0 : Int) ≤ ((List.getD es k default).src)), (((List.getD es k default).src) < (((Int.toNat n) : Nat) : Int))]), (9, [((Int.toNat ((List.getD es k default).src)) < o2.length)]), (10, [((0 : Int) ≤ ((List.getD es k default).dst)), (((List.getD es k default).dst) < (((Int.toNat n) : Nat) : Int))]), (11, [((Int.toNat ((List.getD es k default).dst)) < (List.length (List.set o2 (Int.toNat ((List.getD es k default).src)) (min (List.getD o2 (Int.toNat ((List.getD es k default).src)) 0) (List.getD o2 (Int.toNat ((List.getD es k default).dst)) 0)))))])] ⟨63, [(1, .one (.ptr 101 0 0)), (5, .one (.rw 117 0 (Int.toNat n))), (29, .one (.int .i64 n)), (30, .one (.int .i64 (r : Int))), (33, .one (.ro (.arcs es))), (34, .one (.int .i64 ((es.length : Nat) : Int))), (35, .one (.int .i64 (k : Int)))], [(101, .box 1 2 [(.int .i64 n), (.ro (.arcs es))]), (117, .flat (.ints .i64 (List.set (List.set o2 (Int.toNat ((List.getD es k default).src)) (min (List.getD o2 (Int.toNat ((List.getD es k default).src)) 0) (List.getD o2 (Int.toNat ((List.getD es k default).dst)) 0))) (Int.toNat ((List.getD es k default).dst)) (min (List.getD o2 (Int.toNat ((List.getD es k default).src)) 0) (List.getD o2 (Int.toNat ((List.getD es k default).dst)) 0)))))]⟩ (by kernel_rfl) (by kernel_rfl) hT (by kernel_rfl) ⟨trivial, trivial, ⟨(by decide), trivial⟩, trivial, trivial, ⟨(by decide), trivial⟩, trivial, trivial, ⟨(by first | omega | (simp only [lens]; omega) | (simp only [Bool.cond_decide]; omega) | (simp only [nadd_eq]; omega)), (by first | omega | (simp only [lens]; omega) | (simp only [Bool.cond_decide]; omega) | (simp only [nadd_eq]; omega)), trivial⟩, ⟨(by first | omega | (simp only [lens]; omega) | (simp only [Bool.cond_decide]; omega) | (simp only [nadd_eq]; omega)), trivial⟩, ⟨(by first | omega | (simp only [lens]; omega) | (simp only [Bool.cond_decide]; omega) | (simp only [nadd_eq]; omega)), (by first | omega | (simp only [lens]; omega) | (simp only [Bool.cond_decide]; omega) | (simp only [nadd_eq]; omega)), trivial⟩, ⟨(by first | omega | (simp only [lens]; omega) | (simp only [Bool.cond_decide]; omega) | (simp only [nadd_eq]; omega)), trivial⟩, trivial⟩ ?_
          refine awp_run [1, 5, 29, 30, 33, 34, 35] [101, 117] [(-9223372036854775808 ≤ (((k + 1) : Nat) : Int) ∧ (((k + 1) : Nat) : Int) ≤ 9223372036854775807)] ⟨63, [(1, .one (.ptr 101 0 0)), (5, .one (.rw 117 0 (Int.toNat n))), (29, .one (.int .i64 n)), (30, .one (.int .i64 (r : Int))), (33, .one (.ro (.arcs es))), (34, .one (.int .i64 ((es.length : Nat) : Int))), (35, .one (.int .i64 (((k + 1) : Nat) : Int)))], [(101, .box 1 2 [(.int .i64 n), (.ro (.arcs es))]), (117, .flat (.ints .i64 (List.set (List.set o2 (Int.toNat ((List.getD es k default).src)) (min (List.getD o2 (Int.toNat ((List.getD es k default).src)) 0) (List.getD o2 (Int.toNat ((List.getD es k default).dst)) 0))) (Int.toNat ((List.getD es k default).dst)) (min (List.getD o2 (Int.toNat ((List.getD es k default).src)) 0) (List.getD o2 (Int.toNat ((List.getD es k default).dst)) 0)))))]⟩ hT (by kernel_rfl) ⟨(by omega), trivial⟩ ?_
          refine loop_end _ ?_ ⟨(k + 1), (List.set (List.set o2 (Int.toNat ((List.getD es k default).src)) (min (List.getD o2 (Int.toNat ((List.getD es k default).src)) 0) (List.getD o2 (Int.toNat ((List.getD es k default).dst)) 0))) (Int.toNat ((List.getD es k default).dst)) (min (List.getD o2 (Int.toNat ((List.getD es k default).src)) 0) (List.getD o2 (Int.toNat ((List.getD es k default).dst)) 0))), ⟨(by omega), (by exact (hL2.step hR2 hA hkl rfl).1), (by exact (hL2.step hR2 hA hkl rfl).2), rfl⟩, (by kernel_rfl)⟩
          omega
        ·
          try simp only [bs] at c13
          have hN2 := hN.step hR2 (by omega) hA
          refine awp_exit ?_
          refine awp_run [1, 5, 29, 30] [101, 117] [(-9223372036854775808 ≤ (((r + 1) : Nat) : Int) ∧ (((r + 1) : Nat) : Int) ≤ 9223372036854775807)] ⟨63, [(1, .one (.ptr 101 0 0)), (5, .one (.rw 117 0 (Int.toNat n))), (29, .one (.int .i64 n)), (30, .one (.int .i64 (((r + 1) : Nat) : Int)))], [(101, .box 1 2 [(.int .i64 n), (.ro (.arcs es))]), (117, .flat (.ints .i64 o2))]⟩ hT (by kernel_rfl) ⟨(by omega), trivial⟩ ?_
          refine loop_end _ ?_ ⟨(r + 1), o2, ⟨(by omega), (by exact hL2), (by exact hN2), rfl⟩, (by kernel_rfl)⟩
          omega
      ·
        try simp only [bs] at c11
        have hfin := parts_end hL hN (by omega) h2 hA
        have hol3 := hL.len
        refine awp_exit ?_
        refine awp_weak (awk_seal 117 (s' := ⟨63, [(1, .one (.ptr 101 0 0)), (5, .one (.ro (.ints .i64 (List.take (Int.toNat n) o)))), (29, .one (.int .i64 n)), (30, .one (.int .i64 (r : Int))), (31, .one (.bool (decide ((r : Int) < n))))], [(101, .box 1 2 [(.int .i64 n), (.ro (.arcs es))])]⟩) (by kernel_rfl)) ?_
        rw [show (List.take (Int.toNat n) o) = o from List.take_of_length_le (by first | omega | simp)]
        refine awp_run_seq [2, 3] [] [] ⟨63, [(2, .one (.ro (.ints .i64 o))), (3, .one (.int .i64 0))], []⟩ hT (by kernel_rfl) trivial ?_
        refine awp_ret ?_
        refine kRet.ret _ [] [] (.tup [(false, [(.ro (.ints .i64 o))]), (false, [(.int .i64 0)])]) [] (by kernel_rfl) trivial ?_
        exact ⟨by first | rw [show (okL (graphErr n es (-10000)) (joinedOf n es)) = o from Eq.symm (by first | exact hE.symm | exact (okI_ok _ hE).symm | exact (okL_ok _ hE).symm | (rw [okL_ok _ hE]; exact hfin)), show (graphErr n es (-10000)) = 0 from Eq.symm (by first | exact hE.symm | exact (okI_ok _ hE).symm | exact (okL_ok _ hE).symm | (rw [okL_ok _ hE]; exact hfin))] | rw [show (okL (graphErr n es (-10000)) (joinedOf n es)) = o from Eq.symm (by first | exact hE.symm | exact (okI_ok _ hE).symm | exact (okL_ok _ hE).symm | (rw [okL_ok _ hE]; exact hfin))] | rw [show (graphErr n es (-10000)) = 0 from Eq.symm (by first | exact hE.symm | exact (okI_ok _ hE).symm | exact (okL_ok _ hE).symm | (rw [okL_ok _ hE]; exact hfin))], rfl⟩
end Go.Ab
