/- Of slices: Repeat. -/
import Derived.Test.YtcmaffldmodacaaTab
set_option maxRecDepth 100000
namespace Go.Ab
open Go Go.Proofs
theorem bits_mul64 (y : Int) (h0 : 0 ≤ y) (h1 : y ≤ 4294967295) : ACall Try.prog 82 [.one (.int .u64 1), .one (.int .u64 y)] [] (fun ov oh => ov = .tup [(false, [(.int .u64 0)]), (false, [(.int .u64 y)])] ∧ oh = []) := by
  refine acall_intro hT Try.func82 rfl (by kernel_rfl) rfl (by kernel_rfl) ?_
  refine awp_run_seq [0, 1] [] [] ⟨51, [(0, .one (.int .u64 1)), (1, .one (.int .u64 y))], []⟩ hT (by kernel_rfl) trivial ?_
  refine awp_run_seq [0, 1, 6] [] [((0 : Int) ≤ 1 ∧ (0 ≤ (1 : Int) ∧ (1 : Int) ≤ 18446744073709551615)), ((0 : Int) ≤ 4294967295 ∧ (0 ≤ (4294967295 : Int) ∧ (4294967295 : Int) ≤ 18446744073709551615))] ⟨51, [(0, .one (.int .u64 1)), (1, .one (.int .u64 y)), (6, .one (.int .u64 1))], []⟩ hT (by kernel_rfl) ⟨(by omega), (by omega), trivial⟩ ?_
  refine awp_run_seq [0, 1, 6, 7] [] [((0 : Int) ≤ 32), ((32 : Int) ≤ 64)] ⟨51, [(0, .one (.int .u64 1)), (1, .one (.int .u64 y)), (6, .one (.int .u64 1)), (7, .one (.int .u64 0))], []⟩ hT (by kernel_rfl) ⟨(by omega), (by omega), trivial⟩ ?_
  refine awp_run_seq [0, 1, 6, 7, 8] [] [((0 : Int) ≤ y ∧ (0 ≤ y ∧ y ≤ 18446744073709551615)), ((0 : Int) ≤ 4294967295 ∧ (0 ≤ (4294967295 : Int) ∧ (4294967295 : Int) ≤ 18446744073709551615))] ⟨51, [(0, .one (.int .u64 1)), (1, .one (.int .u64 y)), (6, .one (.int .u64 1)), (7, .one (.int .u64 0)), (8, .one (.int .u64 (iand y 4294967295)))], []⟩ hT (by kernel_rfl) ⟨(by omega), (by omega), trivial⟩ ?_
  rw [show (iand y 4294967295) = y from mask32 h0 h1]
  refine awp_run_seq [0, 1, 6, 7, 8, 9] [] [((0 : Int) ≤ 32), ((32 : Int) ≤ 64)] ⟨51, [(0, .one (.int .u64 1)), (1, .one (.int .u64 y)), (6, .one (.int .u64 1)), (7, .one (.int .u64 0)), (8, .one (.int .u64 y)), (9, .one (.int .u64 (y / 2 ^ 32)))], []⟩ hT (by kernel_rfl) ⟨(by omega), (by omega), trivial⟩ ?_
  rw [show (y / 2 ^ 32) = 0 from by omega]
  refine awp_run_seq [0, 1, 6, 7, 8, 9, 10] [] [(0 ≤ (1 * y) ∧ (1 * y) ≤ 18446744073709551615)] ⟨51, [(0, .one (.int .u64 1)), (1, .one (.int .u64 y)), (6, .one (.int .u64 1)), (7, .one (.int .u64 0)), (8, .one (.int .u64 y)), (9, .one (.int .u64 0)), (10, .one (.int .u64 (1 * y)))], []⟩ hT (by kernel_rfl) ⟨(by omega), trivial⟩ ?_
  rw [show (1 * y) = y from by omega]
  refine awp_run_seq [0, 1, 6, 7, 9, 11] [] [(0 ≤ (0 * y) ∧ (0 * y) ≤ 18446744073709551615), ((0 : Int) ≤ 32), ((32 : Int) ≤ 64), (0 ≤ ((0 * y) + (y / 2 ^ 32)) ∧ ((0 * y) + (y / 2 ^ 32)) ≤ 18446744073709551615)] ⟨51, [(0, .one (.int .u64 1)), (1, .one (.int .u64 y)), (6, .one (.int .u64 1)), (7, .one (.int .u64 0)), (9, .one (.int .u64 0)), (11, .one (.int .u64 ((0 * y) + (y / 2 ^ 32))))], []⟩ hT (by kernel_rfl) ⟨(by omega), (by omega), (by omega), (by omega), trivial⟩ ?_
  rw [show ((0 * y) + (y / 2 ^ 32)) = 0 from by omega]
  refine awp_run_seq [0, 1, 6, 7, 9, 11, 12] [] [((0 : Int) ≤ 0 ∧ (0 ≤ (0 : Int) ∧ (0 : Int) ≤ 18446744073709551615)), ((0 : Int) ≤ 4294967295 ∧ (0 ≤ (4294967295 : Int) ∧ (4294967295 : Int) ≤ 18446744073709551615))] ⟨51, [(0, .one (.int .u64 1)), (1, .one (.int .u64 y)), (6, .one (.int .u64 1)), (7, .one (.int .u64 0)), (9, .one (.int .u64 0)), (11, .one (.int .u64 0)), (12, .one (.int .u64 0))], []⟩ hT (by kernel_rfl) ⟨(by omega), (by omega), trivial⟩ ?_
  refine awp_run_seq [0, 1, 6, 7, 9, 12, 13] [] [((0 : Int) ≤ 32), ((32 : Int) ≤ 64)] ⟨51, [(0, .one (.int .u64 1)), (1, .one (.int .u64 y)), (6, .one (.int .u64 1)), (7, .one (.int .u64 0)), (9, .one (.int .u64 0)), (12, .one (.int .u64 0)), (13, .one (.int .u64 0))], []⟩ hT (by kernel_rfl) ⟨(by omega), (by omega), trivial⟩ ?_
  refine awp_run_seq [0, 1, 7, 9, 12, 13] [] [(0 ≤ (0 : Int) ∧ (0 : Int) ≤ 18446744073709551615), (0 ≤ (0 : Int) ∧ (0 : Int) ≤ 18446744073709551615)] ⟨51, [(0, .one (.int .u64 1)), (1, .one (.int .u64 y)), (7, .one (.int .u64 0)), (9, .one (.int .u64 0)), (12, .one (.int .u64 0)), (13, .one (.int .u64 0))], []⟩ hT (by kernel_rfl) ⟨(by omega), (by omega), trivial⟩ ?_
  rw [show 0 = 0 from by omega]
  refine awp_run_seq [0, 1, 4] [] [(0 ≤ (0 : Int) ∧ (0 : Int) ≤ 18446744073709551615), (0 ≤ (0 : Int) ∧ (0 : Int) ≤ 18446744073709551615), ((0 : Int) ≤ 32), ((32 : Int) ≤ 64), (0 ≤ (0 : Int) ∧ (0 : Int) ≤ 18446744073709551615)] ⟨51, [(0, .one (.int .u64 1)), (1, .one (.int .u64 y)), (4, .one (.int .u64 0))], []⟩ hT (by kernel_rfl) ⟨(by omega), (by omega), (by omega), (by omega), (by omega), trivial⟩ ?_
  rw [show 0 = 0 from by omega]
  refine awp_run_seq [4, 5] [] [(0 ≤ (1 * y) ∧ (1 * y) ≤ 18446744073709551615)] ⟨51, [(4, .one (.int .u64 0)), (5, .one (.int .u64 (1 * y)))], []⟩ hT (by kernel_rfl) ⟨(by omega), trivial⟩ ?_
  refine awp_ret ?_
  refine kRet.ret _ [] [] (.tup [(false, [(.int .u64 0)]), (false, [(.int .u64 (1 * y))])]) [] (by kernel_rfl) trivial ?_
  exact ⟨congrArg (fun x1 => (.tup [(false, [(.int .u64 0)]), (false, [(.int .u64 x1)])] : AV)) (show (1 * y) = y from by omega), rfl⟩
theorem bits_mul (y : Int) (h0 : 0 ≤ y) (h1 : y ≤ 4294967295) : ACall Try.prog 77 [.one (.int .u64 1), .one (.int .u64 y)] [] (fun ov oh => ov = .tup [(false, [(.int .u64 0)]), (false, [(.int .u64 y)])] ∧ oh = []) := by
  refine acall_intro hT Try.func77 rfl (by kernel_rfl) rfl (by kernel_rfl) ?_
  refine awp_run_seq [0, 1] [] [] ⟨30, [(0, .one (.int .u64 1)), (1, .one (.int .u64 y))], []⟩ hT (by kernel_rfl) trivial ?_
  refine awp_seq ?_
  refine awp_cond (b := false) (by kernel_rfl) (fun h => by cases h) (fun _ => ?_)
  refine awp_skip ?_
  refine awp_seq (awp_region ?_)
  refine aops_run 2 [23, 24] [] [] ⟨30, [(23, .one (.int .u64 1)), (24, .one (.int .u64 y))], []⟩ hT (by kernel_rfl) (by kernel_rfl) trivial ?_
  refine aops_pure false ⟨true, [], 82, [.one (.int .u64 1), .one (.int .u64 y)], []⟩ [.one (.int .u64 1), .one (.int .u64 y)] (.tup [(false, [(.int .u64 0)]), (false, [(.int .u64 y)])]) ⟨30, [(23, .one (.int .u64 1)), (24, .one (.int .u64 y)), (25, .tup [(false, [(.int .u64 0)]), (false, [(.int .u64 y)])])], []⟩ (by kernel_rfl) (by kernel_rfl) (fun _ => trivial) rfl (fun _ => bits_mul64 y (by omega) (by omega)) ?_
  refine aops_run 5 [8, 9] [] [] ⟨30, [(8, .one (.int .u64 0)), (9, .one (.int .u64 y))], []⟩ hT (by kernel_rfl) (by kernel_rfl) trivial ?_
  refine aops_end_seq (by kernel_rfl) ?_
  refine awp_run_seq [4, 5] [] [] ⟨30, [(4, .one (.int .u64 0)), (5, .one (.int .u64 y))], []⟩ hT (by kernel_rfl) trivial ?_
  refine awp_ret ?_
  refine kRet.ret _ [] [] (.tup [(false, [(.int .u64 0)]), (false, [(.int .u64 y)])]) [] (by kernel_rfl) trivial ?_
  exact ⟨rfl, rfl⟩
theorem repeat_ints (w : Int) (n : Nat) (hn : n ≤ 16) : ACall Try.prog 60 [.one (.ro (.ints .i64 [w])), .one (.int .i64 (n : Int))] [] (fun ov oh => ov = .one (.rw 1 0 n) ∧ oh = [(1, .flat (.ints .i64 (List.replicate n w)))]) := by
  refine acall_intro hT Try.func60 rfl (by kernel_rfl) rfl (by kernel_rfl) ?_
  refine awp_run_seq [0, 1] [] [] ⟨48, [(0, .one (.ro (.ints .i64 [w]))), (1, .one (.int .i64 (n : Int)))], []⟩ hT (by kernel_rfl) trivial ?_
  refine awp_seq ?_
  refine awp_run_seq [0, 1, 10] [] [] ⟨48, [(0, .one (.ro (.ints .i64 [w]))), (1, .one (.int .i64 (n : Int))), (10, .one (.bool (decide ((n : Int) < 0))))], []⟩ hT (by kernel_rfl) trivial ?_
  refine awp_cond (b := (decide ((n : Int) < 0))) (by kernel_rfl) (fun c1 => ?_) (fun c1 => ?_)
  ·
    try simp only [bs] at c1
    exfalso; omega
  ·
    try simp only [bs] at c1
    refine awp_skip ?_
    refine awp_seq (awp_region ?_)
    refine aops_run 5 [0, 15, 17] [] [(0 ≤ (1 : Int) ∧ (1 : Int) ≤ 18446744073709551615), (0 ≤ (n : Int) ∧ (n : Int) ≤ 18446744073709551615)] ⟨48, [(0, .one (.ro (.ints .i64 [w]))), (15, .one (.int .u64 1)), (17, .one (.int .u64 (n : Int)))], []⟩ hT (by kernel_rfl) (by kernel_rfl) ⟨(by omega), (by omega), trivial⟩ ?_
    refine aops_pure false ⟨true, [], 77, [.one (.int .u64 1), .one (.int .u64 (n : Int))], []⟩ [.one (.int .u64 1), .one (.int .u64 (n : Int))] (.tup [(false, [(.int .u64 0)]), (false, [(.int .u64 (n : Int))])]) ⟨48, [(0, .one (.ro (.ints .i64 [w]))), (15, .one (.int .u64 1)), (17, .one (.int .u64 (n : Int))), (18, .tup [(false, [(.int .u64 0)]), (false, [(.int .u64 (n : Int))])])], []⟩ (by kernel_rfl) (by kernel_rfl) (fun _ => trivial) rfl (fun _ => bits_mul (n : Int) (by omega) (by omega)) ?_
    refine aops_run 5 [0, 5, 6] [] [] ⟨48, [(0, .one (.ro (.ints .i64 [w]))), (5, .one (.int .u64 0)), (6, .one (.int .u64 (n : Int)))], []⟩ hT (by kernel_rfl) (by kernel_rfl) trivial ?_
    refine aops_end_seq (by kernel_rfl) ?_
    refine awp_seq ?_
    refine awp_run_seq [0, 6, 26] [] [(true = true → (true = true → true = true)), (true = true → true = true)] ⟨48, [(0, .one (.ro (.ints .i64 [w]))), (6, .one (.int .u64 (n : Int))), (26, .one (.bool (decide ((9223372036854775807 : Int) < (n : Int)))))], []⟩ hT (by kernel_rfl) ⟨(fun _ => (fun h => h)), (fun h => h), trivial⟩ ?_
    refine awp_cond (b := (decide ((9223372036854775807 : Int) < (n : Int)))) (by kernel_rfl) (fun c4 => ?_) (fun c4 => ?_)
    ·
      try simp only [bs] at c4
      exfalso; first | omega | (simp at c4) | (simp only [bs] at c4; omega)
    ·
      try simp only [bs] at c4
      refine awp_skip ?_
      refine awp_run_seq [0, 7] [130] [(-9223372036854775808 ≤ (n : Int) ∧ (n : Int) ≤ 9223372036854775807), ((0 : Int) ≤ (n : Int)), ((n : Int) ≤ (n : Int)), ((8 : Int) * (n : Int) ≤ 281474976710656), ((n : Int) ≤ 9223372036854775807)] ⟨48, [(0, .one (.ro (.ints .i64 [w]))), (7, .one (.rw 130 0 n))], [(130, .flat (.ints .i64 (List.replicate n (0 : Int))))]⟩ hT (by kernel_rfl) ⟨(by omega), (by omega), (by omega), (by omega), (by omega), trivial⟩ ?_
      refine awp_run_seq [7, 8] [130] [] ⟨48, [(7, .one (.rw 130 0 n)), (8, .one (.int .i64 (((min 1 n) : Nat) : Int)))], [(130, .flat (.ints .i64 (List.take 0 (List.replicate n (0 : Int)) ++ List.take (min 1 n) [w] ++ List.drop (0 + (min 1 n)) (List.replicate n (0 : Int)))))]⟩ hT (by kernel_rfl) trivial ?_
      refine awp_seq ?_
      refine awp_block ?_
      refine awp_loop (I := fun κ σ => ∃ (k : Nat) (b : List Int), ((k ≤ n ∧ (k = 0 → n = 0)) ∧ (b = List.replicate k w ++ List.replicate (n - k) 0) ∧ (b.length = n) ∧ n - k = κ) ∧ σ = ⟨48, [(7, .one (.rw 130 0 n)), (8, .one (.int .i64 (k : Int)))], [(130, .flat (.ints .i64 b))]⟩) _ ⟨(min 1 n), (List.take 0 (List.replicate n (0 : Int)) ++ List.take (min 1 n) [w] ++ List.drop (0 + (min 1 n)) (List.replicate n (0 : Int))), ⟨(by omega), (by exact rep_first), (by rw [rep_first]; simp; omega), rfl⟩, (by kernel_rfl)⟩ ?_
      rintro κ _ ⟨k, b, ⟨hk, hb, hbl, rfl⟩, rfl⟩
      have hbtk : (List.take k b).length = k := by rw [List.length_take]; omega
      refine awp_seq ?_
      refine awp_run_seq [7, 8, 37] [130] [] ⟨48, [(7, .one (.rw 130 0 n)), (8, .one (.int .i64 (k : Int))), (37, .one (.bool (decide ((k : Int) < (n : Int)))))], [(130, .flat (.ints .i64 b))]⟩ hT (by kernel_rfl) trivial ?_
      refine awp_cond (b := (decide ((k : Int) < (n : Int)))) (by kernel_rfl) (fun c8 => ?_) (fun c8 => ?_)
      ·
        try simp only [bs] at c8
        refine awp_skip ?_
        refine awp_block ?_
        refine awp_any [] false [7, 8] [130] 2 [(0, []), (1, []), (2, []), (3, [((0 : Int) ≤ (k : Int)), ((k : Int) ≤ (n : Int)), ((n : Int) ≤ (n : Int))]), (4, []), (5, []), (6, [((0 : Int) ≤ 0), ((0 : Int) ≤ (k : Int)), ((k : Int) ≤ (n : Int))]), (7, []), (8, [(-9223372036854775808 ≤ (((k + (min (List.length (List.take k b)) (n - k))) : Nat) : Int) ∧ (((k + (min (List.length (List.take k b)) (n - k))) : Nat) : Int) ≤ 9223372036854775807)]), (9, [])] ⟨48, [(7, .one (.rw 130 0 n)), (8, .one (.int .i64 (((k + (min (List.length (List.take k b)) (n - k))) : Nat) : Int)))], [(130, .flat (.ints .i64 (List.take k b ++ List.take (min (List.length (List.take k b)) (n - k)) (List.take k b) ++ List.drop (k + (min (List.length (List.take k b)) (n - k))) b)))]⟩ (by kernel_rfl) (by kernel_rfl) hT (by kernel_rfl) ⟨trivial, trivial, trivial, ⟨(by omega), (by omega), (by omega), trivial⟩, trivial, trivial, ⟨(by omega), (by omega), (by omega), trivial⟩, trivial, ⟨(by omega), trivial⟩, trivial, trivial⟩ ?_
        refine loop_end _ ?_ ⟨(k + (min (List.length (List.take k b)) (n - k))), (List.take k b ++ List.take (min (List.length (List.take k b)) (n - k)) (List.take k b) ++ List.drop (k + (min (List.length (List.take k b)) (n - k))) b), ⟨(by rw [hbtk]; omega), (by exact rep_step hb hk.1), (by rw [rep_step hb hk.1, hbtk]; simp; omega), rfl⟩, (by kernel_rfl)⟩
        rw [hbtk]; omega
      ·
        try simp only [bs] at c8
        refine awp_exit ?_
        refine awp_run_seq [4] [130] [] ⟨48, [(4, .one (.rw 130 0 n))], [(130, .flat (.ints .i64 b))]⟩ hT (by kernel_rfl) trivial ?_
        refine awp_weak (awk_ren 130 1 (s' := ⟨48, [(4, .one (.rw 1 0 n))], [(1, .flat (.ints .i64 b))]⟩) (by kernel_rfl)) ?_
        refine awp_ret ?_
        refine kRet.ret _ [] [] (.one (.rw 1 0 n)) [(1, .flat (.ints .i64 b))] (by kernel_rfl) trivial ?_
        exact ⟨(by kernel_rfl), (by rw [hb, show k = n by omega]; simp)⟩
theorem repeat_int (w m : Int) (h1 : 0 ≤ m) (h2 : m ≤ 16) : ACall Try.prog 60 [.one (.ro (.ints .i64 [w])), .one (.int .i64 m)] [] (fun ov oh => ov = .one (.rw 1 0 m.toNat) ∧ oh = [(1, .flat (.ints .i64 (List.replicate m.toNat w)))]) := by
  have h := repeat_ints w m.toNat (by omega)
  rw [show ((m.toNat : Nat) : Int) = m from by omega] at h
  exact h
end Go.Ab
