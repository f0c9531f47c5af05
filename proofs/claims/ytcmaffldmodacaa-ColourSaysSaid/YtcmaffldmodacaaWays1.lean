/- Of shortest ways: the reference. -/
import Derived.Test.YtcmaffldmodacaaTab
import Derived.Test.YtcmaffldmodacaaRep1
import Derived.Test.YtcmaffldmodacaaG1
import Derived.Test.YtcmaffldmodacaaPlB
set_option maxRecDepth 100000
namespace Go.Ab
open Go Go.Proofs
theorem ref_ways (n : Int) (es : List Arc) (h1 : 1 ≤ n) (h2 : n ≤ 12) (hA : InR n es) : ACall Try.prog 36 [.agg [(.int .i64 n), (.ro (.arcs es))]] [] (fun ov oh => ov = .one (.rs (.rows (waysOf n es))) ∧ oh = []) := by
  refine acall_intro hT Try.func36 rfl (by kernel_rfl) rfl (by kernel_rfl) ?_
  refine awp_len 0 1 (.arcs es) (by kernel_rfl) (fun hle => ?_)
  simp only [C0.len, maxLen] at hle
  have hnn : ((n.toNat : Nat) : Int) = n := Int.toNat_of_nonneg (by omega)
  have hAn : InR ((n.toNat : Nat) : Int) es := by rw [hnn]; exact hA
  refine awp_run_seq [1] [101] [] ⟨106, [(1, .one (.ptr 101 0 0))], [(101, .box 1 2 [(.int .i64 n), (.ro (.arcs es))])]⟩ hT (by kernel_rfl) trivial ?_
  refine awp_run_seq [1, 3] [101, 112] [(0 < 1), ((0 : Int) ≤ n), (n ≤ n), ((24 : Int) * n ≤ 281474976710656), (n ≤ 9223372036854775807)] ⟨106, [(1, .one (.ptr 101 0 0)), (3, .one (.rw 112 0 (Int.toNat n)))], [(101, .box 1 2 [(.int .i64 n), (.ro (.arcs es))]), (112, .recs (.rows (List.replicate (Int.toNat n) ([] : List Int))))]⟩ hT (by kernel_rfl) ⟨(by decide), (by omega), (by omega), (by omega), (by omega), trivial⟩ ?_
  refine awp_seq ?_
  refine awp_run_seq [1, 3, 14, 15] [101, 112] [] ⟨106, [(1, .one (.ptr 101 0 0)), (3, .one (.rw 112 0 (Int.toNat n))), (14, .one (.int .i64 (((Int.toNat n) : Nat) : Int))), (15, .one (.int .i64 0))], [(101, .box 1 2 [(.int .i64 n), (.ro (.arcs es))]), (112, .recs (.rows (List.replicate (Int.toNat n) ([] : List Int))))]⟩ hT (by kernel_rfl) trivial ?_
  refine awp_block ?_
  refine awp_weak (awk_mat 112 (List.replicate (Int.toNat n) ([] : List Int)) _ (by kernel_rfl) (fun _ => by first | exact rows_nil _ _ | (simp; done))) ?_
  refine awp_loop (I := fun κ σ => ∃ (i : Nat) (D : List (List Int)), ((i ≤ n.toNat) ∧ (D.length = n.toNat) ∧ (∀ r, r < i → D.getD r [] = (List.replicate n.toNat (1099511627776 : Int)).set r 0) ∧ n.toNat - i = κ) ∧ σ = ⟨106, [(1, .one (.ptr 101 0 0)), (3, .one (.rw 112 0 (Int.toNat n))), (14, .one (.int .i64 (((Int.toNat n) : Nat) : Int))), (15, .one (.int .i64 (i : Int)))], [(101, .box 1 2 [(.int .i64 n), (.ro (.arcs es))]), (112, .mat 112 D)]⟩) _ ⟨0, (List.replicate (Int.toNat n) ([] : List Int)), ⟨(by omega), (by simp), (by intro r hr; omega), rfl⟩, (by kernel_rfl)⟩ ?_
  rintro κ _ ⟨i, D, ⟨hi, hl, hr, rfl⟩, rfl⟩
  refine awp_run_seq [1, 3, 14, 15, 16] [101, 112] [] ⟨106, [(1, .one (.ptr 101 0 0)), (3, .one (.rw 112 0 (Int.toNat n))), (14, .one (.int .i64 (((Int.toNat n) : Nat) : Int))), (15, .one (.int .i64 (i : Int))), (16, .one (.bool (decide ((i : Int) < (((Int.toNat n) : Nat) : Int)))))], [(101, .box 1 2 [(.int .i64 n), (.ro (.arcs es))]), (112, .mat 112 D)]⟩ hT (by kernel_rfl) trivial ?_
  refine awp_seq ?_
  refine awp_cond (b := (decide ((i : Int) < (((Int.toNat n) : Nat) : Int)))) (by kernel_rfl) (fun c3 => ?_) (fun c3 => ?_)
  ·
    try simp only [bs] at c3
    have hil : i < n.toNat := by omega
    have hrl : (List.getD (List.set D i (List.replicate n.toNat (1099511627776 : Int))) i []).length = n.toNat := by rw [row_put hl hil]; simp
    refine awp_skip ?_
    refine awp_seq ?_
    refine awp_block ?_
    refine awp_run_seq [1, 3, 4, 14, 15] [101, 112] [] ⟨106, [(1, .one (.ptr 101 0 0)), (3, .one (.rw 112 0 (Int.toNat n))), (4, .one (.int .i64 (i : Int))), (14, .one (.int .i64 (((Int.toNat n) : Nat) : Int))), (15, .one (.int .i64 (i : Int)))], [(101, .box 1 2 [(.int .i64 n), (.ro (.arcs es))]), (112, .mat 112 D)]⟩ hT (by kernel_rfl) trivial ?_
    refine awp_seq (awp_region ?_)
    refine aops_run 5 [1, 3, 4, 14, 15, 18, 19, 20, 22] [101, 112, 120] [(0 < 1)] ⟨106, [(1, .one (.ptr 101 0 0)), (3, .one (.rw 112 0 (Int.toNat n))), (4, .one (.int .i64 (i : Int))), (14, .one (.int .i64 (((Int.toNat n) : Nat) : Int))), (15, .one (.int .i64 (i : Int))), (18, .one (.rw 112 0 (Int.toNat n))), (19, .one (.int .i64 (i : Int))), (20, .one (.rw 120 0 1)), (22, .one (.int .i64 n))], [(101, .box 1 2 [(.int .i64 n), (.ro (.arcs es))]), (112, .mat 112 D), (120, .flat (.ints .i64 [1099511627776]))]⟩ hT (by kernel_rfl) (by kernel_rfl) ⟨(by decide), trivial⟩ ?_
    refine aops_call [] [(1, 123)] true ⟨true, [], 60, [.one (.ro (.ints .i64 [1099511627776])), .one (.int .i64 n)], []⟩ [.one (.ro (.ints .i64 [1099511627776])), .one (.int .i64 n)] (sm := ⟨106, [(1, .one (.ptr 101 0 0)), (3, .one (.rw 112 0 (Int.toNat n))), (4, .one (.int .i64 (i : Int))), (14, .one (.int .i64 (((Int.toNat n) : Nat) : Int))), (15, .one (.int .i64 (i : Int))), (18, .one (.rw 112 0 (Int.toNat n))), (19, .one (.int .i64 (i : Int))), (20, .one (.rw 120 0 1)), (22, .one (.int .i64 n)), (23, .whn false (.one .any))], [(101, .box 1 2 [(.int .i64 n), (.ro (.arcs es))]), (112, .mat 112 D), (120, .flat (.ints .i64 [1099511627776]))]⟩) (by kernel_rfl) (by kernel_rfl) (by decide) (fun _ => trivial) rfl (fun _ => repeat_int (1099511627776) n (by omega) (by omega)) (fun _ v Hr hv => ?_) (fun h => by cases h)
    obtain ⟨rfl, rfl⟩ := hv
    refine ⟨⟨106, [(1, .one (.ptr 101 0 0)), (3, .one (.rw 112 0 (Int.toNat n))), (4, .one (.int .i64 (i : Int))), (14, .one (.int .i64 (((Int.toNat n) : Nat) : Int))), (15, .one (.int .i64 (i : Int))), (18, .one (.rw 112 0 (Int.toNat n))), (19, .one (.int .i64 (i : Int))), (20, .one (.rw 120 0 1)), (22, .one (.int .i64 n)), (23, .one (.rw 123 0 (Int.toNat n)))], [(101, .box 1 2 [(.int .i64 n), (.ro (.arcs es))]), (112, .mat 112 D), (120, .flat (.ints .i64 [1099511627776])), (123, .flat (.ints .i64 (List.replicate (Int.toNat n) (1099511627776))))]⟩, by kernel_rfl, ?_⟩
    refine aops_run 1 [1, 3, 4, 14, 15, 23, 24] [101, 112, 123] [((0 : Int) ≤ (i : Int)), ((i : Int) < (((Int.toNat n) : Nat) : Int))] ⟨106, [(1, .one (.ptr 101 0 0)), (3, .one (.rw 112 0 (Int.toNat n))), (4, .one (.int .i64 (i : Int))), (14, .one (.int .i64 (((Int.toNat n) : Nat) : Int))), (15, .one (.int .i64 (i : Int))), (23, .one (.rw 123 0 (Int.toNat n))), (24, .one (.ptr 112 i 0))], [(101, .box 1 2 [(.int .i64 n), (.ro (.arcs es))]), (112, .mat 112 D), (123, .flat (.ints .i64 (List.replicate (Int.toNat n) (1099511627776))))]⟩ hT (by kernel_rfl) (by kernel_rfl) ⟨(by omega), (by omega), trivial⟩ ?_
    refine aops_absorb (A := 112) (R := 123) (i := i) (n := (Int.toNat n)) (xss := D) (ys := (List.replicate (Int.toNat n) (1099511627776))) hT rfl rfl rfl rfl (show T 25 = some _ from rfl) rfl (by kernel_rfl) (by kernel_rfl) rfl rfl rfl rfl (by omega) (by first | (simp; done) | first | omega | (simp only [lens]; omega) | (simp only [Bool.cond_decide]; omega) | (simp only [nadd_eq]; omega)) ?_
    refine aops_cut [1, 3, 4, 14, 15, 23, 24] [101, 112] ⟨106, [(1, .one (.ptr 101 0 0)), (3, .one (.rw 112 0 (Int.toNat n))), (4, .one (.int .i64 (i : Int))), (14, .one (.int .i64 (((Int.toNat n) : Nat) : Int))), (15, .one (.int .i64 (i : Int))), (23, .one .any), (24, .one (.ptr 112 i 0))], [(101, .box 1 2 [(.int .i64 n), (.ro (.arcs es))]), (112, .mat 112 (List.set D i (List.replicate (Int.toNat n) (1099511627776))))]⟩ (by kernel_rfl) ?_
    refine aops_cut [1, 3, 4, 14, 15] [101, 112] ⟨106, [(1, .one (.ptr 101 0 0)), (3, .one (.rw 112 0 (Int.toNat n))), (4, .one (.int .i64 (i : Int))), (14, .one (.int .i64 (((Int.toNat n) : Nat) : Int))), (15, .one (.int .i64 (i : Int)))], [(101, .box 1 2 [(.int .i64 n), (.ro (.arcs es))]), (112, .mat 112 (List.set D i (List.replicate (Int.toNat n) (1099511627776))))]⟩ (by kernel_rfl) ?_
    refine aops_end_seq (by kernel_rfl) ?_
    refine awp_run [1, 3, 14, 15] [101, 112] [((0 : Int) ≤ (i : Int)), ((i : Int) < (((Int.toNat n) : Nat) : Int)), (i < (List.length (List.set D i (List.replicate (Int.toNat n) (1099511627776))))), ((0 : Int) ≤ (i : Int)), ((i : Int) < (((List.length (List.getD (List.set D i (List.replicate (Int.toNat n) (1099511627776))) i [])) : Nat) : Int)), (i < (List.length (List.getD (List.set D i (List.replicate (Int.toNat n) (1099511627776))) i [])))] ⟨106, [(1, .one (.ptr 101 0 0)), (3, .one (.rw 112 0 (Int.toNat n))), (14, .one (.int .i64 (((Int.toNat n) : Nat) : Int))), (15, .one (.int .i64 (i : Int)))], [(101, .box 1 2 [(.int .i64 n), (.ro (.arcs es))]), (112, .mat 112 (List.set (List.set D i (List.replicate (Int.toNat n) (1099511627776))) i (List.set (List.getD (List.set D i (List.replicate (Int.toNat n) (1099511627776))) i []) i 0)))]⟩ hT (by kernel_rfl) ⟨(by first | omega | (simp only [lens]; omega) | (simp only [Bool.cond_decide]; omega) | (simp only [nadd_eq]; omega)), (by first | omega | (simp only [lens]; omega) | (simp only [Bool.cond_decide]; omega) | (simp only [nadd_eq]; omega)), (by first | omega | (simp only [lens]; omega) | (simp only [Bool.cond_decide]; omega) | (simp only [nadd_eq]; omega)), (by first | omega | (simp only [lens]; omega) | (simp only [Bool.cond_decide]; omega) | (simp only [nadd_eq]; omega)), (by first | omega | (simp only [lens]; omega) | (simp only [Bool.cond_decide]; omega) | (simp only [nadd_eq]; omega)), (by first | omega | (simp only [lens]; omega) | (simp only [Bool.cond_decide]; omega) | (simp only [nadd_eq]; omega)), trivial⟩ ?_
    refine awp_run [1, 3, 14, 15] [101, 112] [(-9223372036854775808 ≤ (((i + 1) : Nat) : Int) ∧ (((i + 1) : Nat) : Int) ≤ 9223372036854775807)] ⟨106, [(1, .one (.ptr 101 0 0)), (3, .one (.rw 112 0 (Int.toNat n))), (14, .one (.int .i64 (((Int.toNat n) : Nat) : Int))), (15, .one (.int .i64 (((i + 1) : Nat) : Int)))], [(101, .box 1 2 [(.int .i64 n), (.ro (.arcs es))]), (112, .mat 112 (List.set (List.set D i (List.replicate (Int.toNat n) (1099511627776))) i (List.set (List.getD (List.set D i (List.replicate (Int.toNat n) (1099511627776))) i []) i 0)))]⟩ hT (by kernel_rfl) ⟨(by omega), trivial⟩ ?_
    refine loop_end _ ?_ ⟨(i + 1), (List.set (List.set D i (List.replicate (Int.toNat n) (1099511627776))) i (List.set (List.getD (List.set D i (List.replicate (Int.toNat n) (1099511627776))) i []) i 0)), ⟨(by omega), (by exact (init_step hl hil hr).1), (by exact (init_step hl hil hr).2), rfl⟩, (by kernel_rfl)⟩
    omega
  ·
    try simp only [bs] at c3
    obtain ⟨q1, q2, q3⟩ := ways_init (es := es) hl (fun r hr0 => hr r (by omega))
    refine awp_exit ?_
    refine awp_seq ?_
    refine awp_run_seq [3, 33, 34, 35] [112] [(0 < 1)] ⟨106, [(3, .one (.rw 112 0 (Int.toNat n))), (33, .one (.ro (.arcs es))), (34, .one (.int .i64 ((es.length : Nat) : Int))), (35, .one (.int .i64 0))], [(112, .mat 112 D)]⟩ hT (by kernel_rfl) ⟨(by decide), trivial⟩ ?_
    refine awp_block ?_
    refine awp_loop (I := fun κ σ => ∃ (k : Nat) (D : List (List Int)), ((k ≤ es.length) ∧ (Arcs1 n.toNat es D k) ∧ es.length - k = κ) ∧ σ = ⟨106, [(3, .one (.rw 112 0 (Int.toNat n))), (33, .one (.ro (.arcs es))), (34, .one (.int .i64 ((es.length : Nat) : Int))), (35, .one (.int .i64 (k : Int)))], [(112, .mat 112 D)]⟩) _ ⟨0, D, ⟨(by omega), (by exact ⟨q1, q2, q3, fun j hj => by omega⟩), rfl⟩, (by kernel_rfl)⟩ ?_
    rintro κ _ ⟨k, D, ⟨hk, ha, rfl⟩, rfl⟩
    refine awp_run_seq [3, 33, 34, 35, 36] [112] [] ⟨106, [(3, .one (.rw 112 0 (Int.toNat n))), (33, .one (.ro (.arcs es))), (34, .one (.int .i64 ((es.length : Nat) : Int))), (35, .one (.int .i64 (k : Int))), (36, .one (.bool (decide ((k : Int) < ((es.length : Nat) : Int)))))], [(112, .mat 112 D)]⟩ hT (by kernel_rfl) trivial ?_
    refine awp_seq ?_
    refine awp_cond (b := (decide ((k : Int) < ((es.length : Nat) : Int)))) (by kernel_rfl) (fun c9 => ?_) (fun c9 => ?_)
    ·
      try simp only [bs] at c9
      have hkl : k < es.length := by omega
      obtain ⟨b1, b2, b3, b4⟩ := hA _ (getD_mem (d := default) hkl)
      have hDl := ha.sq.len
      have hDr := ha.sq.row (es.getD k default).src.toNat (by omega)
      refine awp_skip ?_
      refine awp_seq ?_
      refine awp_block ?_
      refine awp_run_seq [3, 6, 33, 34, 35] [106, 112] [((0 : Int) ≤ (k : Int)), ((k : Int) < ((es.length : Nat) : Int)), (0 < 1)] ⟨106, [(3, .one (.rw 112 0 (Int.toNat n))), (6, .one (.ptr 106 0 0)), (33, .one (.ro (.arcs es))), (34, .one (.int .i64 ((es.length : Nat) : Int))), (35, .one (.int .i64 (k : Int)))], [(106, .box 1 3 [(.int .i64 ((List.getD es k default).src)), (.int .i64 ((List.getD es k default).dst)), (.int .i64 ((List.getD es k default).cap))]), (112, .mat 112 D)]⟩ hT (by kernel_rfl) ⟨(by omega), (by omega), (by decide), trivial⟩ ?_
      refine awp_tail 18 [3, 33, 34, 35, 55, 56] [112] [(0 < 1), ((0 : Int) ≤ ((List.getD es k default).src)), (((List.getD es k default).src) < (((Int.toNat n) : Nat) : Int)), ((Int.toNat ((List.getD es k default).src)) < D.length), (0 < 1), (0 < 1), ((0 : Int) ≤ ((List.getD es k default).src)), (((List.getD es k default).src) < (((Int.toNat n) : Nat) : Int)), ((Int.toNat ((List.getD es k default).src)) < D.length), (0 < 1), ((0 : Int) ≤ ((List.getD es k default).dst)), (((List.getD es k default).dst) < (((List.length (List.getD D (Int.toNat ((List.getD es k default).src)) [])) : Nat) : Int)), ((Int.toNat ((List.getD es k default).dst)) < (List.length (List.getD D (Int.toNat ((List.getD es k default).src)) []))), ((0 : Int) ≤ ((List.getD es k default).dst)), (((List.getD es k default).dst) < (((List.length (List.getD D (Int.toNat ((List.getD es k default).src)) [])) : Nat) : Int))] ⟨106, [(3, .one (.rw 112 0 (Int.toNat n))), (33, .one (.ro (.arcs es))), (34, .one (.int .i64 ((es.length : Nat) : Int))), (35, .one (.int .i64 (k : Int))), (55, .one (.int .i64 (min (List.getD (List.getD D (Int.toNat ((List.getD es k default).src)) []) (Int.toNat ((List.getD es k default).dst)) 0) 1))), (56, .one (.mptr 112 (Int.toNat ((List.getD es k default).src)) (Int.toNat ((List.getD es k default).dst))))], [(112, .mat 112 D)]⟩ (by kernel_rfl) (by kernel_rfl) hT (by kernel_rfl) ⟨(by decide), (by omega), (by omega), (by omega), (by decide), (by decide), (by omega), (by omega), (by omega), (by decide), (by omega), (by omega), (by omega), (by omega), (by omega), trivial⟩ ?_
      refine aops_run 1 [3, 33, 34, 35] [112] [((Int.toNat ((List.getD es k default).dst)) < (List.length (List.getD D (Int.toNat ((List.getD es k default).src)) [])))] ⟨106, [(3, .one (.rw 112 0 (Int.toNat n))), (33, .one (.ro (.arcs es))), (34, .one (.int .i64 ((es.length : Nat) : Int))), (35, .one (.int .i64 (k : Int)))], [(112, .mat 112 (List.set D (Int.toNat ((List.getD es k default).src)) (List.set (List.getD D (Int.toNat ((List.getD es k default).src)) []) (Int.toNat ((List.getD es k default).dst)) (min (List.getD (List.getD D (Int.toNat ((List.getD es k default).src)) []) (Int.toNat ((List.getD es k default).dst)) 0) 1))))]⟩ hT (by kernel_rfl) (by kernel_rfl) ⟨(by omega), trivial⟩ ?_
      refine aops_end (by kernel_rfl) ?_
      refine awp_run [3, 33, 34, 35] [112] [(-9223372036854775808 ≤ (((k + 1) : Nat) : Int) ∧ (((k + 1) : Nat) : Int) ≤ 9223372036854775807)] ⟨106, [(3, .one (.rw 112 0 (Int.toNat n))), (33, .one (.ro (.arcs es))), (34, .one (.int .i64 ((es.length : Nat) : Int))), (35, .one (.int .i64 (((k + 1) : Nat) : Int)))], [(112, .mat 112 (List.set D (Int.toNat ((List.getD es k default).src)) (List.set (List.getD D (Int.toNat ((List.getD es k default).src)) []) (Int.toNat ((List.getD es k default).dst)) (min (List.getD (List.getD D (Int.toNat ((List.getD es k default).src)) []) (Int.toNat ((List.getD es k default).dst)) 0) 1))))]⟩ hT (by kernel_rfl) ⟨(by omega), trivial⟩ ?_
      refine loop_end _ ?_ ⟨(k + 1), (List.set D (Int.toNat ((List.getD es k default).src)) (List.set (List.getD D (Int.toNat ((List.getD es k default).src)) []) (Int.toNat ((List.getD es k default).dst)) (min (List.getD (List.getD D (Int.toNat ((List.getD es k default).src)) []) (Int.toNat ((List.getD es k default).dst)) 0) 1))), ⟨(by omega), (by exact ha.step hAn hkl), rfl⟩, (by kernel_rfl)⟩
      omega
    ·
      try simp only [bs] at c9
      have hw0 := ha.ways (by omega)
      refine awp_exit ?_
      refine awp_seq ?_
      refine awp_run_seq [3, 59, 60] [112] [] ⟨106, [(3, .one (.rw 112 0 (Int.toNat n))), (59, .one (.int .i64 (((Int.toNat n) : Nat) : Int))), (60, .one (.int .i64 0))], [(112, .mat 112 D)]⟩ hT (by kernel_rfl) trivial ?_
      refine awp_block ?_
      refine awp_loop (I := fun κ σ => ∃ (m : Nat) (D : List (List Int)), ((m ≤ n.toNat) ∧ (Ways1 n.toNat es D m 0 0) ∧ n.toNat - m = κ) ∧ σ = ⟨106, [(3, .one (.rw 112 0 (Int.toNat n))), (59, .one (.int .i64 (((Int.toNat n) : Nat) : Int))), (60, .one (.int .i64 (m : Int)))], [(112, .mat 112 D)]⟩) _ ⟨0, D, ⟨(by omega), (by exact hw0), rfl⟩, (by kernel_rfl)⟩ ?_
      rintro κ _ ⟨m, D, ⟨hm, hw, rfl⟩, rfl⟩
      refine awp_run_seq [3, 59, 60, 61] [112] [] ⟨106, [(3, .one (.rw 112 0 (Int.toNat n))), (59, .one (.int .i64 (((Int.toNat n) : Nat) : Int))), (60, .one (.int .i64 (m : Int))), (61, .one (.bool (decide ((m : Int) < (((Int.toNat n) : Nat) : Int)))))], [(112, .mat 112 D)]⟩ hT (by kernel_rfl) trivial ?_
      refine awp_seq ?_
      refine awp_cond (b := (decide ((m : Int) < (((Int.toNat n) : Nat) : Int)))) (by kernel_rfl) (fun c14 => ?_) (fun c14 => ?_)
      ·
        try simp only [bs] at c14
        have hml : m < n.toNat := by omega
        refine awp_skip ?_
        refine awp_seq ?_
        refine awp_block ?_
        refine awp_run_seq [3, 7, 59, 60] [112] [] ⟨106, [(3, .one (.rw 112 0 (Int.toNat n))), (7, .one (.int .i64 (m : Int))), (59, .one (.int .i64 (((Int.toNat n) : Nat) : Int))), (60, .one (.int .i64 (m : Int)))], [(112, .mat 112 D)]⟩ hT (by kernel_rfl) trivial ?_
        refine awp_run_seq [3, 7, 59, 60, 64, 65] [112] [] ⟨106, [(3, .one (.rw 112 0 (Int.toNat n))), (7, .one (.int .i64 (m : Int))), (59, .one (.int .i64 (((Int.toNat n) : Nat) : Int))), (60, .one (.int .i64 (m : Int))), (64, .one (.int .i64 (((Int.toNat n) : Nat) : Int))), (65, .one (.int .i64 0))], [(112, .mat 112 D)]⟩ hT (by kernel_rfl) trivial ?_
        refine awp_block ?_
        refine awp_loop (I := fun κ σ => ∃ (i : Nat) (D2 : List (List Int)), ((i ≤ n.toNat) ∧ (Ways1 n.toNat es D2 m i 0) ∧ n.toNat - i = κ) ∧ σ = ⟨106, [(3, .one (.rw 112 0 (Int.toNat n))), (7, .one (.int .i64 (m : Int))), (59, .one (.int .i64 (((Int.toNat n) : Nat) : Int))), (60, .one (.int .i64 (m : Int))), (64, .one (.int .i64 (((Int.toNat n) : Nat) : Int))), (65, .one (.int .i64 (i : Int)))], [(112, .mat 112 D2)]⟩) _ ⟨0, D, ⟨(by omega), (by exact hw), rfl⟩, (by kernel_rfl)⟩ ?_
        rintro κ _ ⟨i, D2, ⟨hi, hw2, rfl⟩, rfl⟩
        refine awp_run_seq [3, 7, 59, 60, 64, 65, 66] [112] [] ⟨106, [(3, .one (.rw 112 0 (Int.toNat n))), (7, .one (.int .i64 (m : Int))), (59, .one (.int .i64 (((Int.toNat n) : Nat) : Int))), (60, .one (.int .i64 (m : Int))), (64, .one (.int .i64 (((Int.toNat n) : Nat) : Int))), (65, .one (.int .i64 (i : Int))), (66, .one (.bool (decide ((i : Int) < (((Int.toNat n) : Nat) : Int)))))], [(112, .mat 112 D2)]⟩ hT (by kernel_rfl) trivial ?_
        refine awp_seq ?_
        refine awp_cond (b := (decide ((i : Int) < (((Int.toNat n) : Nat) : Int)))) (by kernel_rfl) (fun c17 => ?_) (fun c17 => ?_)
        ·
          try simp only [bs] at c17
          have hil : i < n.toNat := by omega
          refine awp_skip ?_
          refine awp_seq ?_
          refine awp_block ?_
          refine awp_run_seq [3, 7, 8, 59, 60, 64, 65] [112] [] ⟨106, [(3, .one (.rw 112 0 (Int.toNat n))), (7, .one (.int .i64 (m : Int))), (8, .one (.int .i64 (i : Int))), (59, .one (.int .i64 (((Int.toNat n) : Nat) : Int))), (60, .one (.int .i64 (m : Int))), (64, .one (.int .i64 (((Int.toNat n) : Nat) : Int))), (65, .one (.int .i64 (i : Int)))], [(112, .mat 112 D2)]⟩ hT (by kernel_rfl) trivial ?_
          refine awp_run_seq [3, 7, 8, 59, 60, 64, 65, 69, 70] [112] [] ⟨106, [(3, .one (.rw 112 0 (Int.toNat n))), (7, .one (.int .i64 (m : Int))), (8, .one (.int .i64 (i : Int))), (59, .one (.int .i64 (((Int.toNat n) : Nat) : Int))), (60, .one (.int .i64 (m : Int))), (64, .one (.int .i64 (((Int.toNat n) : Nat) : Int))), (65, .one (.int .i64 (i : Int))), (69, .one (.int .i64 (((Int.toNat n) : Nat) : Int))), (70, .one (.int .i64 0))], [(112, .mat 112 D2)]⟩ hT (by kernel_rfl) trivial ?_
          refine awp_block ?_
          refine awp_loop (I := fun κ σ => ∃ (k : Nat) (D3 : List (List Int)), ((k ≤ n.toNat) ∧ (Ways1 n.toNat es D3 m i k) ∧ n.toNat - k = κ) ∧ σ = ⟨106, [(3, .one (.rw 112 0 (Int.toNat n))), (7, .one (.int .i64 (m : Int))), (8, .one (.int .i64 (i : Int))), (59, .one (.int .i64 (((Int.toNat n) : Nat) : Int))), (60, .one (.int .i64 (m : Int))), (64, .one (.int .i64 (((Int.toNat n) : Nat) : Int))), (65, .one (.int .i64 (i : Int))), (69, .one (.int .i64 (((Int.toNat n) : Nat) : Int))), (70, .one (.int .i64 (k : Int)))], [(112, .mat 112 D3)]⟩) _ ⟨0, D2, ⟨(by omega), (by exact hw2), rfl⟩, (by kernel_rfl)⟩ ?_
          rintro κ _ ⟨k, D3, ⟨hk, hw3, rfl⟩, rfl⟩
          refine awp_run_seq [3, 7, 8, 59, 60, 64, 65, 69, 70, 71] [112] [] ⟨106, [(3, .one (.rw 112 0 (Int.toNat n))), (7, .one (.int .i64 (m : Int))), (8, .one (.int .i64 (i : Int))), (59, .one (.int .i64 (((Int.toNat n) : Nat) : Int))), (60, .one (.int .i64 (m : Int))), (64, .one (.int .i64 (((Int.toNat n) : Nat) : Int))), (65, .one (.int .i64 (i : Int))), (69, .one (.int .i64 (((Int.toNat n) : Nat) : Int))), (70, .one (.int .i64 (k : Int))), (71, .one (.bool (decide ((k : Int) < (((Int.toNat n) : Nat) : Int)))))], [(112, .mat 112 D3)]⟩ hT (by kernel_rfl) trivial ?_
          refine awp_seq ?_
          refine awp_cond (b := (decide ((k : Int) < (((Int.toNat n) : Nat) : Int)))) (by kernel_rfl) (fun c20 => ?_) (fun c20 => ?_)
          ·
            try simp only [bs] at c20
            have hkl : k < n.toNat := by omega
            have hDl := hw3.sq.len
            have hDi := hw3.sq.row i hil
            have hDm := hw3.sq.row m hml
            have hs1 := hw3.sound i m hil hml
            have hs2 := hw3.sound m k hml hkl
            unfold at2 at hs1 hs2
            refine awp_skip ?_
            refine awp_seq ?_
            refine awp_block ?_
            refine awp_run_seq [3, 7, 8, 9, 59, 60, 64, 65, 69, 70] [112] [] ⟨106, [(3, .one (.rw 112 0 (Int.toNat n))), (7, .one (.int .i64 (m : Int))), (8, .one (.int .i64 (i : Int))), (9, .one (.int .i64 (k : Int))), (59, .one (.int .i64 (((Int.toNat n) : Nat) : Int))), (60, .one (.int .i64 (m : Int))), (64, .one (.int .i64 (((Int.toNat n) : Nat) : Int))), (65, .one (.int .i64 (i : Int))), (69, .one (.int .i64 (((Int.toNat n) : Nat) : Int))), (70, .one (.int .i64 (k : Int)))], [(112, .mat 112 D3)]⟩ hT (by kernel_rfl) trivial ?_
            refine awp_tail 29 [3, 7, 8, 59, 60, 64, 65, 69, 70, 100, 101] [112] [((0 : Int) ≤ (i : Int)), ((i : Int) < (((Int.toNat n) : Nat) : Int)), (i < D3.length), ((0 : Int) ≤ (i : Int)), ((i : Int) < (((Int.toNat n) : Nat) : Int)), (i < D3.length), ((0 : Int) ≤ (k : Int)), ((k : Int) < (((List.length (List.getD D3 i [])) : Nat) : Int)), (k < (List.length (List.getD D3 i []))), ((0 : Int) ≤ (i : Int)), ((i : Int) < (((Int.toNat n) : Nat) : Int)), (i < D3.length), ((0 : Int) ≤ (m : Int)), ((m : Int) < (((List.length (List.getD D3 i [])) : Nat) : Int)), (m < (List.length (List.getD D3 i []))), ((0 : Int) ≤ (m : Int)), ((m : Int) < (((Int.toNat n) : Nat) : Int)), (m < D3.length), ((0 : Int) ≤ (k : Int)), ((k : Int) < (((List.length (List.getD D3 m [])) : Nat) : Int)), (k < (List.length (List.getD D3 m []))), (-9223372036854775808 ≤ ((List.getD (List.getD D3 i []) m 0) + (List.getD (List.getD D3 m []) k 0)) ∧ ((List.getD (List.getD D3 i []) m 0) + (List.getD (List.getD D3 m []) k 0)) ≤ 9223372036854775807), ((0 : Int) ≤ (k : Int)), ((k : Int) < (((List.length (List.getD D3 i [])) : Nat) : Int))] ⟨106, [(3, .one (.rw 112 0 (Int.toNat n))), (7, .one (.int .i64 (m : Int))), (8, .one (.int .i64 (i : Int))), (59, .one (.int .i64 (((Int.toNat n) : Nat) : Int))), (60, .one (.int .i64 (m : Int))), (64, .one (.int .i64 (((Int.toNat n) : Nat) : Int))), (65, .one (.int .i64 (i : Int))), (69, .one (.int .i64 (((Int.toNat n) : Nat) : Int))), (70, .one (.int .i64 (k : Int))), (100, .one (.int .i64 (min (List.getD (List.getD D3 i []) k 0) ((List.getD (List.getD D3 i []) m 0) + (List.getD (List.getD D3 m []) k 0))))), (101, .one (.mptr 112 i k))], [(112, .mat 112 D3)]⟩ (by kernel_rfl) (by kernel_rfl) hT (by kernel_rfl) ⟨(by omega), (by omega), (by omega), (by omega), (by omega), (by omega), (by omega), (by omega), (by omega), (by omega), (by omega), (by omega), (by omega), (by omega), (by omega), (by omega), (by omega), (by omega), (by omega), (by omega), (by omega), (by omega), (by omega), (by omega), trivial⟩ ?_
            refine aops_run 1 [3, 7, 8, 59, 60, 64, 65, 69, 70] [112] [(k < (List.length (List.getD D3 i [])))] ⟨106, [(3, .one (.rw 112 0 (Int.toNat n))), (7, .one (.int .i64 (m : Int))), (8, .one (.int .i64 (i : Int))), (59, .one (.int .i64 (((Int.toNat n) : Nat) : Int))), (60, .one (.int .i64 (m : Int))), (64, .one (.int .i64 (((Int.toNat n) : Nat) : Int))), (65, .one (.int .i64 (i : Int))), (69, .one (.int .i64 (((Int.toNat n) : Nat) : Int))), (70, .one (.int .i64 (k : Int)))], [(112, .mat 112 (List.set D3 i (List.set (List.getD D3 i []) k (min (List.getD (List.getD D3 i []) k 0) ((List.getD (List.getD D3 i []) m 0) + (List.getD (List.getD D3 m []) k 0))))))]⟩ hT (by kernel_rfl) (by kernel_rfl) ⟨(by omega), trivial⟩ ?_
            refine aops_end (by kernel_rfl) ?_
            refine awp_run [3, 7, 8, 59, 60, 64, 65, 69, 70] [112] [(-9223372036854775808 ≤ (((k + 1) : Nat) : Int) ∧ (((k + 1) : Nat) : Int) ≤ 9223372036854775807)] ⟨106, [(3, .one (.rw 112 0 (Int.toNat n))), (7, .one (.int .i64 (m : Int))), (8, .one (.int .i64 (i : Int))), (59, .one (.int .i64 (((Int.toNat n) : Nat) : Int))), (60, .one (.int .i64 (m : Int))), (64, .one (.int .i64 (((Int.toNat n) : Nat) : Int))), (65, .one (.int .i64 (i : Int))), (69, .one (.int .i64 (((Int.toNat n) : Nat) : Int))), (70, .one (.int .i64 (((k + 1) : Nat) : Int)))], [(112, .mat 112 (List.set D3 i (List.set (List.getD D3 i []) k (min (List.getD (List.getD D3 i []) k 0) ((List.getD (List.getD D3 i []) m 0) + (List.getD (List.getD D3 m []) k 0))))))]⟩ hT (by kernel_rfl) ⟨(by omega), trivial⟩ ?_
            refine loop_end _ ?_ ⟨(k + 1), (List.set D3 i (List.set (List.getD D3 i []) k (min (List.getD (List.getD D3 i []) k 0) ((List.getD (List.getD D3 i []) m 0) + (List.getD (List.getD D3 m []) k 0))))), ⟨(by omega), (by exact hw3.step hml hil hkl), rfl⟩, (by kernel_rfl)⟩
            omega
          ·
            try simp only [bs] at c20
            have hw4 := hw3.row (by omega)
            refine awp_exit ?_
            refine awp_run [3, 7, 59, 60, 64, 65] [112] [(-9223372036854775808 ≤ (((i + 1) : Nat) : Int) ∧ (((i + 1) : Nat) : Int) ≤ 9223372036854775807)] ⟨106, [(3, .one (.rw 112 0 (Int.toNat n))), (7, .one (.int .i64 (m : Int))), (59, .one (.int .i64 (((Int.toNat n) : Nat) : Int))), (60, .one (.int .i64 (m : Int))), (64, .one (.int .i64 (((Int.toNat n) : Nat) : Int))), (65, .one (.int .i64 (((i + 1) : Nat) : Int)))], [(112, .mat 112 D3)]⟩ hT (by kernel_rfl) ⟨(by omega), trivial⟩ ?_
            refine loop_end _ ?_ ⟨(i + 1), D3, ⟨(by omega), (by exact hw4), rfl⟩, (by kernel_rfl)⟩
            omega
        ·
          try simp only [bs] at c17
          have hw5 := hw2.all (by omega)
          refine awp_exit ?_
          refine awp_run [3, 59, 60] [112] [(-9223372036854775808 ≤ (((m + 1) : Nat) : Int) ∧ (((m + 1) : Nat) : Int) ≤ 9223372036854775807)] ⟨106, [(3, .one (.rw 112 0 (Int.toNat n))), (59, .one (.int .i64 (((Int.toNat n) : Nat) : Int))), (60, .one (.int .i64 (((m + 1) : Nat) : Int)))], [(112, .mat 112 D2)]⟩ hT (by kernel_rfl) ⟨(by omega), trivial⟩ ?_
          refine loop_end _ ?_ ⟨(m + 1), D2, ⟨(by omega), (by exact hw5), rfl⟩, (by kernel_rfl)⟩
          omega
      ·
        try simp only [bs] at c14
        have hfin := hw.end_ (by omega) (by omega) hAn
        rw [hnn] at hfin
        have hDl := hw.sq.len
        refine awp_exit ?_
        refine awp_run_seq [2] [112] [] ⟨106, [(2, .one (.rw 112 0 (Int.toNat n)))], [(112, .mat 112 D)]⟩ hT (by kernel_rfl) trivial ?_
        refine awp_weak (awk_sealmat 112 (s' := ⟨106, [(2, .one (.rs (.rows (List.take (Int.toNat n) D))))], []⟩) (by kernel_rfl)) ?_
        rw [show (List.take (Int.toNat n) D) = D from List.take_of_length_le (by first | omega | simp)]
        refine awp_ret ?_
        refine kRet.ret _ [] [] (.one (.rs (.rows D))) [] (by kernel_rfl) trivial ?_
        exact ⟨congrArg (fun x1 => (.one (.rs (.rows x1)) : AV)) (show D = (waysOf n es) from by rw [hfin]), rfl⟩
end Go.Ab
