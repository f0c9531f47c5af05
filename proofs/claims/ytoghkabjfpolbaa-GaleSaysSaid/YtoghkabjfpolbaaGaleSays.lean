/- GaleSays returns true. -/
import Derived.Test.YtoghkabjfpolbaaTab
import Derived.Test.YtoghkabjfpolbaaGale2
import Derived.Test.YtoghkabjfpolbaaGale3
import Derived.Test.YtoghkabjfpolbaaF1
set_option maxRecDepth 100000
namespace Go.Ab
open Go Go.Proofs
theorem same_ints (xs ys : List Int) : ACall Try.prog 21 [.one (.ro (.ints .i64 xs)), .one (.ro (.ints .i64 ys))] [] (fun ov oh => ov = .one (.bool (decide (xs = ys))) ∧ oh = []) := by
  refine acall_intro hT Try.func21 rfl (by kernel_rfl) rfl (by kernel_rfl) ?_
  refine awp_run_seq [0, 1] [] [] ⟨8, [(0, .one (.ro (.ints .i64 xs))), (1, .one (.ro (.ints .i64 ys)))], []⟩ hT (by kernel_rfl) trivial ?_
  refine awp_seq (awp_region ?_)
  refine aops_run 2 [5, 6] [] [] ⟨8, [(5, .one (.ro (.ints .i64 xs))), (6, .one (.ro (.ints .i64 ys)))], []⟩ hT (by kernel_rfl) (by kernel_rfl) trivial ?_
  refine aops_pure false ⟨true, [], 94, [.one (.ro (.ints .i64 xs)), .one (.ro (.ints .i64 ys))], []⟩ [.one (.ro (.ints .i64 xs)), .one (.ro (.ints .i64 ys))] (.one (.bool (decide (xs = ys)))) ⟨8, [(5, .one (.ro (.ints .i64 xs))), (6, .one (.ro (.ints .i64 ys))), (7, .one (.bool (decide (xs = ys))))], []⟩ (by kernel_rfl) (by kernel_rfl) (fun _ => trivial) rfl (fun _ => equal_ints xs ys) ?_
  refine aops_run 1 [4] [] [] ⟨8, [(4, .one (.bool (decide (xs = ys))))], []⟩ hT (by kernel_rfl) (by kernel_rfl) trivial ?_
  refine aops_end_seq (by kernel_rfl) ?_
  refine awp_ret ?_
  refine kRet.ret _ [] [] (.one (.bool (decide (xs = ys)))) [] (by kernel_rfl) trivial ?_
  exact ⟨rfl, rfl⟩

theorem equal_u16 (xs ys : List Int) : ACall Try.prog 124 [.one (.ro (.ints .u16 xs)), .one (.ro (.ints .u16 ys))] [] (fun ov oh => ov = .one (.bool (decide (xs = ys))) ∧ oh = []) := by
  refine acall_intro hT Try.func124 rfl (by kernel_rfl) rfl (by kernel_rfl) ?_
  refine awp_len 0 0 (.ints .u16 xs) (by kernel_rfl) (fun hlen => ?_)
  simp only [C0.len, maxLen] at hlen
  refine awp_run_seq [0, 1] [] [] ⟨26, [(0, .one (.ro (.ints .u16 xs))), (1, .one (.ro (.ints .u16 ys)))], []⟩ hT (by kernel_rfl) trivial ?_
  refine awp_seq ?_
  refine awp_run_seq [0, 1, 10] [] [] ⟨26, [(0, .one (.ro (.ints .u16 xs))), (1, .one (.ro (.ints .u16 ys))), (10, .one (.bool (decide (((xs.length : Nat) : Int) ≠ ((ys.length : Nat) : Int)))))], []⟩ hT (by kernel_rfl) trivial ?_
  refine awp_cond (b := (decide (((xs.length : Nat) : Int) ≠ ((ys.length : Nat) : Int)))) (by kernel_rfl) (fun c1 => ?_) (fun c1 => ?_)
  · -- yes 1
    try simp only [bs] at c1
    refine awp_run_seq [4] [] [] ⟨26, [(4, .one (.bool false))], []⟩ hT (by kernel_rfl) trivial ?_
    refine awp_ret ?_
    refine kRet.ret _ [] [] (.one (.bool false)) [] (by kernel_rfl) trivial ?_
    exact ⟨congrArg (fun x1 => (.one (.bool x1) : AV)) (show false = (decide (xs = ys)) from by exact eq_no (fun h => by subst h; omega)), rfl⟩
  · -- no 1
    try simp only [bs] at c1
    refine awp_skip ?_
    refine awp_seq ?_
    refine awp_run_seq [0, 1, 12, 13] [] [] ⟨26, [(0, .one (.ro (.ints .u16 xs))), (1, .one (.ro (.ints .u16 ys))), (12, .one (.int .i64 ((xs.length : Nat) : Int))), (13, .one (.int .i64 0))], []⟩ hT (by kernel_rfl) trivial ?_
    refine awp_block ?_
    refine awp_loop (I := fun κ σ => ∃ (i : Nat), ((i ≤ xs.length) ∧ (∀ j, j < i → List.getD xs j 0 = List.getD ys j 0) ∧ xs.length - i = κ) ∧ σ = ⟨26, [(0, .one (.ro (.ints .u16 xs))), (1, .one (.ro (.ints .u16 ys))), (12, .one (.int .i64 ((xs.length : Nat) : Int))), (13, .one (.int .i64 ((i : Nat) : Int)))], []⟩) _ ⟨0, ⟨(by omega), (by intro j hj; omega), rfl⟩, (by kernel_rfl)⟩ ?_
    rintro κ _ ⟨i, ⟨hi, hp, rfl⟩, rfl⟩
    refine awp_run_seq [0, 1, 12, 13, 14] [] [] ⟨26, [(0, .one (.ro (.ints .u16 xs))), (1, .one (.ro (.ints .u16 ys))), (12, .one (.int .i64 ((xs.length : Nat) : Int))), (13, .one (.int .i64 ((i : Nat) : Int))), (14, .one (.bool (decide (((i : Nat) : Int) < ((xs.length : Nat) : Int)))))], []⟩ hT (by kernel_rfl) trivial ?_
    refine awp_seq ?_
    refine awp_cond (b := (decide (((i : Nat) : Int) < ((xs.length : Nat) : Int)))) (by kernel_rfl) (fun c4 => ?_) (fun c4 => ?_)
    · -- yes 4
      try simp only [bs] at c4
      refine awp_skip ?_
      refine awp_seq ?_
      refine awp_block ?_
      refine awp_run_seq [0, 1, 5, 12, 13] [] [] ⟨26, [(0, .one (.ro (.ints .u16 xs))), (1, .one (.ro (.ints .u16 ys))), (5, .one (.int .i64 ((i : Nat) : Int))), (12, .one (.int .i64 ((xs.length : Nat) : Int))), (13, .one (.int .i64 ((i : Nat) : Int)))], []⟩ hT (by kernel_rfl) trivial ?_
      refine awp_seq (awp_still [0, 1, 12, 13, 24] [] [((0 : Int) ≤ ((i : Nat) : Int)), (((i : Nat) : Int) < ((xs.length : Nat) : Int)), ((0 : Int) ≤ ((i : Nat) : Int)), (((i : Nat) : Int) < ((ys.length : Nat) : Int))] ⟨26, [(0, .one (.ro (.ints .u16 xs))), (1, .one (.ro (.ints .u16 ys))), (12, .one (.int .i64 ((xs.length : Nat) : Int))), (13, .one (.int .i64 ((i : Nat) : Int))), (24, .one (.bool (decide ((List.getD xs i 0) ≠ (List.getD ys i 0)))))], []⟩ (by kernel_rfl) (by kernel_rfl) hT (by kernel_rfl) ⟨(by first | omega | (simp only [lens]; omega) | (simp only [Bool.cond_decide]; omega)), (by first | omega | (simp only [lens]; omega) | (simp only [Bool.cond_decide]; omega)), (by first | omega | (simp only [lens]; omega) | (simp only [Bool.cond_decide]; omega)), (by first | omega | (simp only [lens]; omega) | (simp only [Bool.cond_decide]; omega)), trivial⟩ ?_)
      refine awp_cond (b := (decide ((List.getD xs i 0) ≠ (List.getD ys i 0)))) (by kernel_rfl) (fun c6 => ?_) (fun c6 => ?_)
      · -- yes 6
        try simp only [bs] at c6
        refine awp_run_seq [4] [] [] ⟨26, [(4, .one (.bool false))], []⟩ hT (by kernel_rfl) trivial ?_
        refine awp_ret ?_
        refine kRet.ret _ [] [] (.one (.bool false)) [] (by kernel_rfl) trivial ?_
        exact ⟨congrArg (fun x1 => (.one (.bool x1) : AV)) (show false = (decide (xs = ys)) from by exact eq_no (fun h => by subst h; simp at c6)), rfl⟩
      · -- no 6
        try simp only [bs] at c6
        refine awp_skip ?_
        refine awp_run [0, 1, 12, 13] [] [(-9223372036854775808 ≤ (((i + 1) : Nat) : Int) ∧ (((i + 1) : Nat) : Int) ≤ 9223372036854775807)] ⟨26, [(0, .one (.ro (.ints .u16 xs))), (1, .one (.ro (.ints .u16 ys))), (12, .one (.int .i64 ((xs.length : Nat) : Int))), (13, .one (.int .i64 (((i + 1) : Nat) : Int)))], []⟩ hT (by kernel_rfl) ⟨(by first | omega | (simp only [lens]; omega) | (simp only [Bool.cond_decide]; omega)), trivial⟩ ?_
        refine loop_end _ ?_ ⟨(i + 1), ⟨(by omega), (by intro j hj; rcases Nat.lt_succ_iff_lt_or_eq.1 hj with h | h; exact hp j h; subst h; simpa using c6), rfl⟩, (by kernel_rfl)⟩
        omega
    · -- no 4
      try simp only [bs] at c4
      refine awp_exit ?_
      refine awp_run_seq [4] [] [] ⟨26, [(4, .one (.bool true))], []⟩ hT (by kernel_rfl) trivial ?_
      refine awp_ret ?_
      refine kRet.ret _ [] [] (.one (.bool true)) [] (by kernel_rfl) trivial ?_
      exact ⟨congrArg (fun x1 => (.one (.bool x1) : AV)) (show true = (decide (xs = ys)) from by exact eq_yes (list_ext 0 (by omega) (fun j hj => hp j (by omega)))), rfl⟩

theorem same_u16 (xs ys : List Int) : ACall Try.prog 55 [.one (.ro (.ints .u16 xs)), .one (.ro (.ints .u16 ys))] [] (fun ov oh => ov = .one (.bool (decide (xs = ys))) ∧ oh = []) := by
  refine acall_intro hT Try.func55 rfl (by kernel_rfl) rfl (by kernel_rfl) ?_
  refine awp_run_seq [0, 1] [] [] ⟨8, [(0, .one (.ro (.ints .u16 xs))), (1, .one (.ro (.ints .u16 ys)))], []⟩ hT (by kernel_rfl) trivial ?_
  refine awp_seq (awp_region ?_)
  refine aops_run 2 [5, 6] [] [] ⟨8, [(5, .one (.ro (.ints .u16 xs))), (6, .one (.ro (.ints .u16 ys)))], []⟩ hT (by kernel_rfl) (by kernel_rfl) trivial ?_
  refine aops_pure false ⟨true, [], 124, [.one (.ro (.ints .u16 xs)), .one (.ro (.ints .u16 ys))], []⟩ [.one (.ro (.ints .u16 xs)), .one (.ro (.ints .u16 ys))] (.one (.bool (decide (xs = ys)))) ⟨8, [(5, .one (.ro (.ints .u16 xs))), (6, .one (.ro (.ints .u16 ys))), (7, .one (.bool (decide (xs = ys))))], []⟩ (by kernel_rfl) (by kernel_rfl) (fun _ => trivial) rfl (fun _ => equal_u16 xs ys) ?_
  refine aops_run 1 [4] [] [] ⟨8, [(4, .one (.bool (decide (xs = ys))))], []⟩ hT (by kernel_rfl) (by kernel_rfl) trivial ?_
  refine aops_end_seq (by kernel_rfl) ?_
  refine awp_ret ?_
  refine kRet.ret _ [] [] (.one (.bool (decide (xs = ys)))) [] (by kernel_rfl) trivial ?_
  exact ⟨rfl, rfl⟩

theorem galeSays_law (rows cols : List Int) : ACall Try.prog 8 [.one (.ro (.ints .i64 rows)), .one (.ro (.ints .i64 cols))] [] (fun ov oh => ov = .one (.bool true) ∧ oh = []) := by
  refine acall_intro hT Try.func8 rfl (by kernel_rfl) rfl (by kernel_rfl) ?_
  refine awp_run_seq [0, 1] [] [] ⟨91, [(0, .one (.ro (.ints .i64 rows))), (1, .one (.ro (.ints .i64 cols)))], []⟩ hT (by kernel_rfl) trivial ?_
  refine awp_seq (awp_region ?_)
  refine aops_run 1 [0, 1, 13] [] [] ⟨91, [(0, .one (.ro (.ints .i64 rows))), (1, .one (.ro (.ints .i64 cols))), (13, .one (.ro (.ints .i64 rows)))], []⟩ hT (by kernel_rfl) (by kernel_rfl) trivial ?_
  refine aops_pure false ⟨true, [], 48, [.one (.ro (.ints .i64 rows))], []⟩ [.one (.ro (.ints .i64 rows))] (.tup [(false, [(.ro (.ints .i64 (okL (turnErr rows) (turned rows))))]), (false, [(.int .i64 (turnErr rows))])]) ⟨91, [(0, .one (.ro (.ints .i64 rows))), (1, .one (.ro (.ints .i64 cols))), (13, .one (.ro (.ints .i64 rows))), (14, .tup [(false, [(.ro (.ints .i64 (okL (turnErr rows) (turned rows))))]), (false, [(.int .i64 (turnErr rows))])])], []⟩ (by kernel_rfl) (by kernel_rfl) (fun _ => trivial) rfl (fun _ => gale_turned rows) ?_
  refine aops_run 5 [0, 1, 5, 6] [] [] ⟨91, [(0, .one (.ro (.ints .i64 rows))), (1, .one (.ro (.ints .i64 cols))), (5, .one (.ro (.ints .i64 (okL (turnErr rows) (turned rows))))), (6, .one (.int .i64 (turnErr rows)))], []⟩ hT (by kernel_rfl) (by kernel_rfl) trivial ?_
  refine aops_end_seq (by kernel_rfl) ?_
  refine awp_seq (awp_region ?_)
  refine aops_run 2 [0, 1, 5, 6, 18, 19] [] [] ⟨91, [(0, .one (.ro (.ints .i64 rows))), (1, .one (.ro (.ints .i64 cols))), (5, .one (.ro (.ints .i64 (okL (turnErr rows) (turned rows))))), (6, .one (.int .i64 (turnErr rows))), (18, .one (.ro (.ints .i64 rows))), (19, .one (.ro (.ints .i64 cols)))], []⟩ hT (by kernel_rfl) (by kernel_rfl) trivial ?_
  refine aops_pure false ⟨true, [], 49, [.one (.ro (.ints .i64 rows)), .one (.ro (.ints .i64 cols))], []⟩ [.one (.ro (.ints .i64 rows)), .one (.ro (.ints .i64 cols))] (.tup [(false, [(.ro (.ints .u16 (okL (makeErr rows cols) (galeRes rows cols))))]), (false, [(.int .i64 (makeErr rows cols))])]) ⟨91, [(0, .one (.ro (.ints .i64 rows))), (1, .one (.ro (.ints .i64 cols))), (5, .one (.ro (.ints .i64 (okL (turnErr rows) (turned rows))))), (6, .one (.int .i64 (turnErr rows))), (18, .one (.ro (.ints .i64 rows))), (19, .one (.ro (.ints .i64 cols))), (20, .tup [(false, [(.ro (.ints .u16 (okL (makeErr rows cols) (galeRes rows cols))))]), (false, [(.int .i64 (makeErr rows cols))])])], []⟩ (by kernel_rfl) (by kernel_rfl) (fun _ => trivial) rfl (fun _ => gale_make rows cols) ?_
  refine aops_run 5 [0, 1, 5, 6, 7, 8] [] [] ⟨91, [(0, .one (.ro (.ints .i64 rows))), (1, .one (.ro (.ints .i64 cols))), (5, .one (.ro (.ints .i64 (okL (turnErr rows) (turned rows))))), (6, .one (.int .i64 (turnErr rows))), (7, .one (.ro (.ints .u16 (okL (makeErr rows cols) (galeRes rows cols))))), (8, .one (.int .i64 (makeErr rows cols)))], []⟩ hT (by kernel_rfl) (by kernel_rfl) trivial ?_
  refine aops_end_seq (by kernel_rfl) ?_
  refine awp_seq ?_
  refine awp_run_seq [0, 1, 5, 6, 7, 8, 25] [] [] ⟨91, [(0, .one (.ro (.ints .i64 rows))), (1, .one (.ro (.ints .i64 cols))), (5, .one (.ro (.ints .i64 (okL (turnErr rows) (turned rows))))), (6, .one (.int .i64 (turnErr rows))), (7, .one (.ro (.ints .u16 (okL (makeErr rows cols) (galeRes rows cols))))), (8, .one (.int .i64 (makeErr rows cols))), (25, .one (.bool (decide ((12 : Int) < ((rows.length : Nat) : Int)))))], []⟩ hT (by kernel_rfl) trivial ?_
  refine awp_join_tail (fun σ => σ = ⟨91, [(0, .one (.ro (.ints .i64 rows))), (1, .one (.ro (.ints .i64 cols))), (7, .one (.ro (.ints .u16 (okL (makeErr rows cols) (galeRes rows cols))))), (8, .one (.int .i64 (makeErr rows cols)))], []⟩) ?_ ?_
  ·
    refine awp_cond (b := (decide ((12 : Int) < ((rows.length : Nat) : Int)))) (by kernel_rfl) (fun c3 => ?_) (fun c3 => ?_)
    · -- yes 3
      try simp only [bs] at c3
      have hE : (turnErr rows) = 2 := by rw [turnErr, if_pos (by omega)]
      have hl0 : (okL (turnErr rows) (turned rows)).length = 0 := by rw [okL_no _ (by omega)]; rfl
      refine awp_run_seq [0, 1, 7, 8, 32] [] [((!(decide ((turnErr rows) ≠ 2))) = true → ((!(decide ((turnErr rows) ≠ 2))) = true → (!(decide ((turnErr rows) ≠ 2))) = true)), ((!(decide ((turnErr rows) ≠ 2))) = true → ((!(decide ((turnErr rows) ≠ 2))) = true → (!(decide ((turnErr rows) ≠ 2))) = true)), ((!(decide ((turnErr rows) ≠ 2))) = true → (!(decide ((turnErr rows) ≠ 2))) = true)] ⟨91, [(0, .one (.ro (.ints .i64 rows))), (1, .one (.ro (.ints .i64 cols))), (7, .one (.ro (.ints .u16 (okL (makeErr rows cols) (galeRes rows cols))))), (8, .one (.int .i64 (makeErr rows cols))), (32, .one (.bool ((decide ((turnErr rows) ≠ 2)) || (decide ((0 : Int) < (((List.length (okL (turnErr rows) (turned rows))) : Nat) : Int))))))], []⟩ hT (by kernel_rfl) ⟨(by intro hg; first | exact hg | skip; (try simp only [bs] at hg ⊢); first | exact hg | first | omega | (simp only [lens]; omega) | (simp only [Bool.cond_decide]; omega) | grind), (by intro hg; first | exact hg | skip; (try simp only [bs] at hg ⊢); first | exact hg | first | omega | (simp only [lens]; omega) | (simp only [Bool.cond_decide]; omega) | grind), (fun h => h), trivial⟩ ?_
      refine awp_cond (b := ((decide ((turnErr rows) ≠ 2)) || (decide ((0 : Int) < (((List.length (okL (turnErr rows) (turned rows))) : Nat) : Int))))) (by kernel_rfl) (fun c4 => ?_) (fun c4 => ?_)
      · -- yes 4
        try simp only [bs] at c4
        exfalso; rcases c4 with c4 | c4 <;> omega
      · -- no 4
        try simp only [bs] at c4
        refine awp_cut [0, 1, 7, 8] [] ⟨91, [(0, .one (.ro (.ints .i64 rows))), (1, .one (.ro (.ints .i64 cols))), (7, .one (.ro (.ints .u16 (okL (makeErr rows cols) (galeRes rows cols))))), (8, .one (.int .i64 (makeErr rows cols)))], []⟩ (by kernel_rfl) ?_
        refine awp_skip ?_
        exact jend (by kernel_rfl)
    · -- no 3
      try simp only [bs] at c3
      refine awp_seq (awp_region ?_)
      refine aops_run 1 [0, 1, 5, 6, 7, 8, 33] [] [] ⟨91, [(0, .one (.ro (.ints .i64 rows))), (1, .one (.ro (.ints .i64 cols))), (5, .one (.ro (.ints .i64 (okL (turnErr rows) (turned rows))))), (6, .one (.int .i64 (turnErr rows))), (7, .one (.ro (.ints .u16 (okL (makeErr rows cols) (galeRes rows cols))))), (8, .one (.int .i64 (makeErr rows cols))), (33, .one (.ro (.ints .i64 rows)))], []⟩ hT (by kernel_rfl) (by kernel_rfl) trivial ?_
      refine aops_pure false ⟨true, [], 23, [.one (.ro (.ints .i64 rows)), .one (.fn 50 [])], []⟩ [.one (.ro (.ints .i64 rows)), .one (.fn 50 [])] (.one (.bool (List.any rows (fun x => decide (x < 0) || decide (12 < x))))) ⟨91, [(0, .one (.ro (.ints .i64 rows))), (1, .one (.ro (.ints .i64 cols))), (5, .one (.ro (.ints .i64 (okL (turnErr rows) (turned rows))))), (6, .one (.int .i64 (turnErr rows))), (7, .one (.ro (.ints .u16 (okL (makeErr rows cols) (galeRes rows cols))))), (8, .one (.int .i64 (makeErr rows cols))), (33, .one (.ro (.ints .i64 rows))), (34, .one (.bool (List.any rows (fun x => decide (x < 0) || decide (12 < x)))))], []⟩ (by kernel_rfl) (by kernel_rfl) (fun _ => trivial) rfl (fun _ => hasf_ints_ 50 (fun x => decide (x < 0) || decide (12 < x)) rows  (fun x hx => gale_says1 x)) ?_
      refine aops_cut [0, 1, 5, 6, 7, 8, 34] [] ⟨91, [(0, .one (.ro (.ints .i64 rows))), (1, .one (.ro (.ints .i64 cols))), (5, .one (.ro (.ints .i64 (okL (turnErr rows) (turned rows))))), (6, .one (.int .i64 (turnErr rows))), (7, .one (.ro (.ints .u16 (okL (makeErr rows cols) (galeRes rows cols))))), (8, .one (.int .i64 (makeErr rows cols))), (34, .one (.bool (List.any rows (fun x => decide (x < 0) || decide (12 < x)))))], []⟩ (by kernel_rfl) ?_
      refine aops_end_seq (by kernel_rfl) ?_
      refine awp_cond (b := (List.any rows (fun x => decide (x < 0) || decide (12 < x)))) (by kernel_rfl) (fun c6 => ?_) (fun c6 => ?_)
      · -- yes 6
        try simp only [bs] at c6
        have hov : overB rows 12 = true := c6
        have hE : (turnErr rows) = 1 := by rw [turnErr, if_neg (by omega), if_pos hov]
        have hl0 : (okL (turnErr rows) (turned rows)).length = 0 := by rw [okL_no _ (by omega)]; rfl
        refine awp_run_seq [0, 1, 7, 8, 41] [] [((!(decide ((turnErr rows) ≠ 1))) = true → ((!(decide ((turnErr rows) ≠ 1))) = true → (!(decide ((turnErr rows) ≠ 1))) = true)), ((!(decide ((turnErr rows) ≠ 1))) = true → ((!(decide ((turnErr rows) ≠ 1))) = true → (!(decide ((turnErr rows) ≠ 1))) = true)), ((!(decide ((turnErr rows) ≠ 1))) = true → (!(decide ((turnErr rows) ≠ 1))) = true)] ⟨91, [(0, .one (.ro (.ints .i64 rows))), (1, .one (.ro (.ints .i64 cols))), (7, .one (.ro (.ints .u16 (okL (makeErr rows cols) (galeRes rows cols))))), (8, .one (.int .i64 (makeErr rows cols))), (41, .one (.bool ((decide ((turnErr rows) ≠ 1)) || (decide ((0 : Int) < (((List.length (okL (turnErr rows) (turned rows))) : Nat) : Int))))))], []⟩ hT (by kernel_rfl) ⟨(by intro hg; first | exact hg | skip; (try simp only [bs] at hg ⊢); first | exact hg | first | omega | (simp only [lens]; omega) | (simp only [Bool.cond_decide]; omega) | grind), (by intro hg; first | exact hg | skip; (try simp only [bs] at hg ⊢); first | exact hg | first | omega | (simp only [lens]; omega) | (simp only [Bool.cond_decide]; omega) | grind), (fun h => h), trivial⟩ ?_
        refine awp_cond (b := ((decide ((turnErr rows) ≠ 1)) || (decide ((0 : Int) < (((List.length (okL (turnErr rows) (turned rows))) : Nat) : Int))))) (by kernel_rfl) (fun c7 => ?_) (fun c7 => ?_)
        · -- yes 7
          try simp only [bs] at c7
          exfalso; rcases c7 with c7 | c7 <;> omega
        · -- no 7
          try simp only [bs] at c7
          refine awp_cut [0, 1, 7, 8] [] ⟨91, [(0, .one (.ro (.ints .i64 rows))), (1, .one (.ro (.ints .i64 cols))), (7, .one (.ro (.ints .u16 (okL (makeErr rows cols) (galeRes rows cols))))), (8, .one (.int .i64 (makeErr rows cols)))], []⟩ (by kernel_rfl) ?_
          refine awp_skip ?_
          exact jend (by kernel_rfl)
      · -- no 6
        try simp only [bs] at c6
        have hov : overB rows 12 = false := c6
        have hE : (turnErr rows) = 0 := by rw [turnErr, if_neg (by omega), if_neg (by rw [hov]; decide)]
        have ht : okL (turnErr rows) (turned rows) = turned rows := okL_ok _ hE
        refine awp_seq (awp_region ?_)
        refine aops_run 5 [0, 1, 7, 8, 44, 45, 46] [] [] ⟨91, [(0, .one (.ro (.ints .i64 rows))), (1, .one (.ro (.ints .i64 cols))), (7, .one (.ro (.ints .u16 (okL (makeErr rows cols) (galeRes rows cols))))), (8, .one (.int .i64 (makeErr rows cols))), (44, .one (.bool (decide ((turnErr rows) ≠ 0)))), (45, .whn (!(decide ((turnErr rows) ≠ 0))) (.one (.ro (.ints .i64 (okL (turnErr rows) (turned rows)))))), (46, .whn (!(decide ((turnErr rows) ≠ 0))) (.one (.ro (.ints .i64 rows))))], []⟩ hT (by kernel_rfl) (by kernel_rfl) trivial ?_
        refine aops_pure false ⟨(!(decide ((turnErr rows) ≠ 0))), [((!(decide ((turnErr rows) ≠ 0))) = true → (!(decide ((turnErr rows) ≠ 0))) = true)], 51, [.one (.ro (.ints .i64 rows))], []⟩ [.one (.ro (.ints .i64 rows))] (.one (.ro (.ints .i64 (turned rows)))) ⟨91, [(0, .one (.ro (.ints .i64 rows))), (1, .one (.ro (.ints .i64 cols))), (7, .one (.ro (.ints .u16 (okL (makeErr rows cols) (galeRes rows cols))))), (8, .one (.int .i64 (makeErr rows cols))), (44, .one (.bool (decide ((turnErr rows) ≠ 0)))), (45, .whn (!(decide ((turnErr rows) ≠ 0))) (.one (.ro (.ints .i64 (okL (turnErr rows) (turned rows)))))), (46, .whn (!(decide ((turnErr rows) ≠ 0))) (.one (.ro (.ints .i64 rows)))), (47, .whn (!(decide ((turnErr rows) ≠ 0))) (.one (.ro (.ints .i64 (turned rows)))))], []⟩ (by kernel_rfl) (by kernel_rfl) (fun _ => ⟨(fun h => h), trivial⟩) rfl (fun _ => ref_turned rows (by omega) (by assumption)) ?_
        refine aops_pure false ⟨(!(decide ((turnErr rows) ≠ 0))), [((!(decide ((turnErr rows) ≠ 0))) = true → (!(decide ((turnErr rows) ≠ 0))) = true), ((!(decide ((turnErr rows) ≠ 0))) = true → (!(decide ((turnErr rows) ≠ 0))) = true)], 21, [.one (.ro (.ints .i64 (okL (turnErr rows) (turned rows)))), .one (.ro (.ints .i64 (turned rows)))], []⟩ [.one (.ro (.ints .i64 (okL (turnErr rows) (turned rows)))), .one (.ro (.ints .i64 (turned rows)))] (.one (.bool (decide ((okL (turnErr rows) (turned rows)) = (turned rows))))) ⟨91, [(0, .one (.ro (.ints .i64 rows))), (1, .one (.ro (.ints .i64 cols))), (7, .one (.ro (.ints .u16 (okL (makeErr rows cols) (galeRes rows cols))))), (8, .one (.int .i64 (makeErr rows cols))), (44, .one (.bool (decide ((turnErr rows) ≠ 0)))), (45, .whn (!(decide ((turnErr rows) ≠ 0))) (.one (.ro (.ints .i64 (okL (turnErr rows) (turned rows)))))), (46, .whn (!(decide ((turnErr rows) ≠ 0))) (.one (.ro (.ints .i64 rows)))), (47, .whn (!(decide ((turnErr rows) ≠ 0))) (.one (.ro (.ints .i64 (turned rows))))), (48, .whn (!(decide ((turnErr rows) ≠ 0))) (.one (.bool (decide ((okL (turnErr rows) (turned rows)) = (turned rows))))))], []⟩ (by kernel_rfl) (by kernel_rfl) (fun _ => ⟨(fun h => h), (fun h => h), trivial⟩) rfl (fun _ => same_ints (okL (turnErr rows) (turned rows)) (turned rows)) ?_
        refine aops_run 2 [0, 1, 7, 8, 50] [] [((!(decide ((turnErr rows) ≠ 0))) = true → ((!(decide ((turnErr rows) ≠ 0))) = true → (!(decide ((turnErr rows) ≠ 0))) = true)), ((!(decide ((turnErr rows) ≠ 0))) = true → (!(decide ((turnErr rows) ≠ 0))) = true)] ⟨91, [(0, .one (.ro (.ints .i64 rows))), (1, .one (.ro (.ints .i64 cols))), (7, .one (.ro (.ints .u16 (okL (makeErr rows cols) (galeRes rows cols))))), (8, .one (.int .i64 (makeErr rows cols))), (50, .one (.bool ((decide ((turnErr rows) ≠ 0)) || (!(decide ((okL (turnErr rows) (turned rows)) = (turned rows)))))))], []⟩ hT (by kernel_rfl) (by kernel_rfl) ⟨(by intro hg; first | exact hg | skip; (try simp only [bs] at hg ⊢); first | exact hg | first | omega | (simp only [lens]; omega) | (simp only [Bool.cond_decide]; omega) | grind), (fun h => h), trivial⟩ ?_
        refine aops_end_seq (by kernel_rfl) ?_
        refine awp_cond (b := ((decide ((turnErr rows) ≠ 0)) || (!(decide ((okL (turnErr rows) (turned rows)) = (turned rows)))))) (by kernel_rfl) (fun c9 => ?_) (fun c9 => ?_)
        · -- yes 9
          try simp only [bs] at c9
          exfalso; rcases c9 with c9 | c9; omega; exact c9 ht
        · -- no 9
          try simp only [bs] at c9
          refine awp_cut [0, 1, 7, 8] [] ⟨91, [(0, .one (.ro (.ints .i64 rows))), (1, .one (.ro (.ints .i64 cols))), (7, .one (.ro (.ints .u16 (okL (makeErr rows cols) (galeRes rows cols))))), (8, .one (.int .i64 (makeErr rows cols)))], []⟩ (by kernel_rfl) ?_
          refine awp_skip ?_
          exact jend (by kernel_rfl)
  rintro _ rfl
  refine awp_seq (awp_region ?_)
  refine aops_run 2 [0, 1, 7, 8, 51, 52] [] [] ⟨91, [(0, .one (.ro (.ints .i64 rows))), (1, .one (.ro (.ints .i64 cols))), (7, .one (.ro (.ints .u16 (okL (makeErr rows cols) (galeRes rows cols))))), (8, .one (.int .i64 (makeErr rows cols))), (51, .one (.ro (.ints .i64 rows))), (52, .one (.ro (.ints .i64 cols)))], []⟩ hT (by kernel_rfl) (by kernel_rfl) trivial ?_
  refine aops_pure false ⟨true, [], 52, [.one (.ro (.ints .i64 rows)), .one (.ro (.ints .i64 cols))], []⟩ [.one (.ro (.ints .i64 rows)), .one (.ro (.ints .i64 cols))] (.one (.int .i64 (sumsErr rows cols))) ⟨91, [(0, .one (.ro (.ints .i64 rows))), (1, .one (.ro (.ints .i64 cols))), (7, .one (.ro (.ints .u16 (okL (makeErr rows cols) (galeRes rows cols))))), (8, .one (.int .i64 (makeErr rows cols))), (51, .one (.ro (.ints .i64 rows))), (52, .one (.ro (.ints .i64 cols))), (53, .one (.int .i64 (sumsErr rows cols)))], []⟩ (by kernel_rfl) (by kernel_rfl) (fun _ => trivial) rfl (fun _ => ref_sumsErr rows cols) ?_
  refine aops_run 1 [0, 1, 7, 8, 9] [] [] ⟨91, [(0, .one (.ro (.ints .i64 rows))), (1, .one (.ro (.ints .i64 cols))), (7, .one (.ro (.ints .u16 (okL (makeErr rows cols) (galeRes rows cols))))), (8, .one (.int .i64 (makeErr rows cols))), (9, .one (.int .i64 (sumsErr rows cols)))], []⟩ hT (by kernel_rfl) (by kernel_rfl) trivial ?_
  refine aops_end_seq (by kernel_rfl) ?_
  refine awp_seq ?_
  refine awp_seq (awp_region ?_)
  refine aops_run 2 [0, 1, 7, 8, 9, 54, 55] [] [] ⟨91, [(0, .one (.ro (.ints .i64 rows))), (1, .one (.ro (.ints .i64 cols))), (7, .one (.ro (.ints .u16 (okL (makeErr rows cols) (galeRes rows cols))))), (8, .one (.int .i64 (makeErr rows cols))), (9, .one (.int .i64 (sumsErr rows cols))), (54, .one (.ro (.ints .i64 rows))), (55, .one (.ro (.ints .i64 cols)))], []⟩ hT (by kernel_rfl) (by kernel_rfl) trivial ?_
  refine aops_pure false ⟨true, [], 53, [.one (.ro (.ints .i64 rows)), .one (.ro (.ints .i64 cols))], []⟩ [.one (.ro (.ints .i64 rows)), .one (.ro (.ints .i64 cols))] (.one (.int .i64 (sumsErr rows cols))) ⟨91, [(0, .one (.ro (.ints .i64 rows))), (1, .one (.ro (.ints .i64 cols))), (7, .one (.ro (.ints .u16 (okL (makeErr rows cols) (galeRes rows cols))))), (8, .one (.int .i64 (makeErr rows cols))), (9, .one (.int .i64 (sumsErr rows cols))), (54, .one (.ro (.ints .i64 rows))), (55, .one (.ro (.ints .i64 cols))), (56, .one (.int .i64 (sumsErr rows cols)))], []⟩ (by kernel_rfl) (by kernel_rfl) (fun _ => trivial) rfl (fun _ => gale_check rows cols) ?_
  refine aops_run 2 [0, 1, 7, 8, 9, 58] [] [] ⟨91, [(0, .one (.ro (.ints .i64 rows))), (1, .one (.ro (.ints .i64 cols))), (7, .one (.ro (.ints .u16 (okL (makeErr rows cols) (galeRes rows cols))))), (8, .one (.int .i64 (makeErr rows cols))), (9, .one (.int .i64 (sumsErr rows cols))), (58, .one (.bool (decide ((sumsErr rows cols) ≠ (sumsErr rows cols)))))], []⟩ hT (by kernel_rfl) (by kernel_rfl) trivial ?_
  refine aops_end_seq (by kernel_rfl) ?_
  refine awp_cond (b := (decide ((sumsErr rows cols) ≠ (sumsErr rows cols)))) (by kernel_rfl) (fun c12 => ?_) (fun c12 => ?_)
  · -- yes 12
    try simp only [bs] at c12
    exfalso; omega
  · -- no 12
    try simp only [bs] at c12
    refine awp_skip ?_
    refine awp_seq ?_
    refine awp_run_seq [0, 1, 7, 8, 9, 60] [] [] ⟨91, [(0, .one (.ro (.ints .i64 rows))), (1, .one (.ro (.ints .i64 cols))), (7, .one (.ro (.ints .u16 (okL (makeErr rows cols) (galeRes rows cols))))), (8, .one (.int .i64 (makeErr rows cols))), (9, .one (.int .i64 (sumsErr rows cols))), (60, .one (.bool (decide ((sumsErr rows cols) ≠ 0))))], []⟩ hT (by kernel_rfl) trivial ?_
    refine awp_cond (b := (decide ((sumsErr rows cols) ≠ 0))) (by kernel_rfl) (fun c14 => ?_) (fun c14 => ?_)
    · -- yes 14
      try simp only [bs] at c14
      have hM : (makeErr rows cols) = sumsErr rows cols := by rw [makeErr, if_pos (by omega)]
      have hm0 : (okL (makeErr rows cols) (galeRes rows cols)).length = 0 := by rw [okL_no _ (by omega)]; rfl
      refine awp_run_seq [4] [] [((decide ((makeErr rows cols) = (sumsErr rows cols))) = true → ((decide ((makeErr rows cols) = (sumsErr rows cols))) = true → (decide ((makeErr rows cols) = (sumsErr rows cols))) = true)), ((decide ((makeErr rows cols) = (sumsErr rows cols))) = true → ((decide ((makeErr rows cols) = (sumsErr rows cols))) = true → (decide ((makeErr rows cols) = (sumsErr rows cols))) = true)), ((decide ((makeErr rows cols) = (sumsErr rows cols))) = true → (decide ((makeErr rows cols) = (sumsErr rows cols))) = true)] ⟨91, [(4, .one (.bool ((decide ((makeErr rows cols) = (sumsErr rows cols))) && (decide ((((List.length (okL (makeErr rows cols) (galeRes rows cols))) : Nat) : Int) = 0)))))], []⟩ hT (by kernel_rfl) ⟨(by intro hg; first | exact hg | skip; (try simp only [bs] at hg ⊢); first | exact hg | first | omega | (simp only [lens]; omega) | (simp only [Bool.cond_decide]; omega) | grind), (by intro hg; first | exact hg | skip; (try simp only [bs] at hg ⊢); first | exact hg | first | omega | (simp only [lens]; omega) | (simp only [Bool.cond_decide]; omega) | grind), (fun h => h), trivial⟩ ?_
      refine awp_ret ?_
      refine kRet.ret _ [] [] (.one (.bool ((decide ((makeErr rows cols) = (sumsErr rows cols))) && (decide ((((List.length (okL (makeErr rows cols) (galeRes rows cols))) : Nat) : Int) = 0))))) [] (by kernel_rfl) trivial ?_
      exact ⟨congrArg (fun x1 => (.one (.bool x1) : AV)) (show ((decide ((makeErr rows cols) = (sumsErr rows cols))) && (decide ((((List.length (okL (makeErr rows cols) (galeRes rows cols))) : Nat) : Int) = 0))) = true from by rw [hm0]; simp [hM]), rfl⟩
    · -- no 14
      try simp only [bs] at c14
      have hs0 : sumsErr rows cols = 0 := by omega
      refine awp_skip ?_
      refine awp_seq (awp_region ?_)
      refine aops_run 2 [7, 8, 70, 71] [] [] ⟨91, [(7, .one (.ro (.ints .u16 (okL (makeErr rows cols) (galeRes rows cols))))), (8, .one (.int .i64 (makeErr rows cols))), (70, .one (.ro (.ints .i64 rows))), (71, .one (.ro (.ints .i64 cols)))], []⟩ hT (by kernel_rfl) (by kernel_rfl) trivial ?_
      refine aops_call [] [] false ⟨true, [], 54, [.one (.ro (.ints .i64 rows)), .one (.ro (.ints .i64 cols))], []⟩ [.one (.ro (.ints .i64 rows)), .one (.ro (.ints .i64 cols))] (sm := ⟨91, [(7, .one (.ro (.ints .u16 (okL (makeErr rows cols) (galeRes rows cols))))), (8, .one (.int .i64 (makeErr rows cols))), (70, .one (.ro (.ints .i64 rows))), (71, .one (.ro (.ints .i64 cols))), (72, .whn false (.one .any))], []⟩) (by kernel_rfl) (by kernel_rfl) (by decide) (fun _ => trivial) rfl (fun _ => ref_fill rows cols (by assumption)) (fun _ v Hr hv => ?_) (fun h => by cases h)
      obtain ⟨w, hw, rfl, rfl⟩ := hv
      refine ⟨⟨91, [(7, .one (.ro (.ints .u16 (okL (makeErr rows cols) (galeRes rows cols))))), (8, .one (.int .i64 (makeErr rows cols))), (70, .one (.ro (.ints .i64 rows))), (71, .one (.ro (.ints .i64 cols))), (72, .tup [(false, [(.ro (.ints .u16 w))]), (false, [(.bool (Option.isSome (galeGo rows cols [])))])])], []⟩, by kernel_rfl, ?_⟩
      refine aops_run 5 [7, 8, 10, 11] [] [] ⟨91, [(7, .one (.ro (.ints .u16 (okL (makeErr rows cols) (galeRes rows cols))))), (8, .one (.int .i64 (makeErr rows cols))), (10, .one (.ro (.ints .u16 w))), (11, .one (.bool (Option.isSome (galeGo rows cols []))))], []⟩ hT (by kernel_rfl) (by kernel_rfl) trivial ?_
      refine aops_end_seq (by kernel_rfl) ?_
      refine awp_seq ?_
      refine awp_run_seq [7, 8, 10, 76] [] [] ⟨91, [(7, .one (.ro (.ints .u16 (okL (makeErr rows cols) (galeRes rows cols))))), (8, .one (.int .i64 (makeErr rows cols))), (10, .one (.ro (.ints .u16 w))), (76, .one (.bool (!(Option.isSome (galeGo rows cols [])))))], []⟩ hT (by kernel_rfl) trivial ?_
      refine awp_cond (b := (!(Option.isSome (galeGo rows cols [])))) (by kernel_rfl) (fun c17 => ?_) (fun c17 => ?_)
      · -- yes 17
        try simp only [bs] at c17
        have hM : (makeErr rows cols) = 5 := by rw [makeErr, if_neg (by omega), if_neg (by rw [c17]; decide)]
        have hm0 : (okL (makeErr rows cols) (galeRes rows cols)).length = 0 := by rw [okL_no _ (by omega)]; rfl
        refine awp_run_seq [4] [] [((decide ((makeErr rows cols) = 5)) = true → ((decide ((makeErr rows cols) = 5)) = true → (decide ((makeErr rows cols) = 5)) = true)), ((decide ((makeErr rows cols) = 5)) = true → ((decide ((makeErr rows cols) = 5)) = true → (decide ((makeErr rows cols) = 5)) = true)), ((decide ((makeErr rows cols) = 5)) = true → (decide ((makeErr rows cols) = 5)) = true)] ⟨91, [(4, .one (.bool ((decide ((makeErr rows cols) = 5)) && (decide ((((List.length (okL (makeErr rows cols) (galeRes rows cols))) : Nat) : Int) = 0)))))], []⟩ hT (by kernel_rfl) ⟨(by intro hg; first | exact hg | skip; (try simp only [bs] at hg ⊢); first | exact hg | first | omega | (simp only [lens]; omega) | (simp only [Bool.cond_decide]; omega) | grind), (by intro hg; first | exact hg | skip; (try simp only [bs] at hg ⊢); first | exact hg | first | omega | (simp only [lens]; omega) | (simp only [Bool.cond_decide]; omega) | grind), (fun h => h), trivial⟩ ?_
        refine awp_ret ?_
        refine kRet.ret _ [] [] (.one (.bool ((decide ((makeErr rows cols) = 5)) && (decide ((((List.length (okL (makeErr rows cols) (galeRes rows cols))) : Nat) : Int) = 0))))) [] (by kernel_rfl) trivial ?_
        exact ⟨congrArg (fun x1 => (.one (.bool x1) : AV)) (show ((decide ((makeErr rows cols) = 5)) && (decide ((((List.length (okL (makeErr rows cols) (galeRes rows cols))) : Nat) : Int) = 0))) = true from by rw [hm0]; simp [hM]), rfl⟩
      · -- no 17
        try simp only [bs] at c17
        have hM : (makeErr rows cols) = 0 := by rw [makeErr, if_neg (by omega), if_pos c17]
        have hm1 : okL (makeErr rows cols) (galeRes rows cols) = (galeRes rows cols) := okL_ok _ hM
        have hwe := hw c17
        refine awp_skip ?_
        refine awp_seq (awp_region ?_)
        refine aops_run 5 [86, 87, 88] [] [] ⟨91, [(86, .one (.bool (decide ((makeErr rows cols) = 0)))), (87, .whn (decide ((makeErr rows cols) = 0)) (.one (.ro (.ints .u16 (okL (makeErr rows cols) (galeRes rows cols)))))), (88, .whn (decide ((makeErr rows cols) = 0)) (.one (.ro (.ints .u16 w))))], []⟩ hT (by kernel_rfl) (by kernel_rfl) trivial ?_
        refine aops_pure false ⟨(decide ((makeErr rows cols) = 0)), [((decide ((makeErr rows cols) = 0)) = true → (decide ((makeErr rows cols) = 0)) = true), ((decide ((makeErr rows cols) = 0)) = true → (decide ((makeErr rows cols) = 0)) = true)], 55, [.one (.ro (.ints .u16 (okL (makeErr rows cols) (galeRes rows cols)))), .one (.ro (.ints .u16 w))], []⟩ [.one (.ro (.ints .u16 (okL (makeErr rows cols) (galeRes rows cols)))), .one (.ro (.ints .u16 w))] (.one (.bool (decide ((okL (makeErr rows cols) (galeRes rows cols)) = w)))) ⟨91, [(86, .one (.bool (decide ((makeErr rows cols) = 0)))), (87, .whn (decide ((makeErr rows cols) = 0)) (.one (.ro (.ints .u16 (okL (makeErr rows cols) (galeRes rows cols)))))), (88, .whn (decide ((makeErr rows cols) = 0)) (.one (.ro (.ints .u16 w)))), (89, .whn (decide ((makeErr rows cols) = 0)) (.one (.bool (decide ((okL (makeErr rows cols) (galeRes rows cols)) = w)))))], []⟩ (by kernel_rfl) (by kernel_rfl) (fun _ => ⟨(fun h => h), (fun h => h), trivial⟩) rfl (fun _ => same_u16 (okL (makeErr rows cols) (galeRes rows cols)) w) ?_
        refine aops_run 2 [4] [] [((decide ((makeErr rows cols) = 0)) = true → (decide ((makeErr rows cols) = 0)) = true)] ⟨91, [(4, .one (.bool ((decide ((makeErr rows cols) = 0)) && (decide ((okL (makeErr rows cols) (galeRes rows cols)) = w)))))], []⟩ hT (by kernel_rfl) (by kernel_rfl) ⟨(fun h => h), trivial⟩ ?_
        refine aops_end_seq (by kernel_rfl) ?_
        refine awp_ret ?_
        refine kRet.ret _ [] [] (.one (.bool ((decide ((makeErr rows cols) = 0)) && (decide ((okL (makeErr rows cols) (galeRes rows cols)) = w))))) [] (by kernel_rfl) trivial ?_
        exact ⟨congrArg (fun x1 => (.one (.bool x1) : AV)) (show ((decide ((makeErr rows cols) = 0)) && (decide ((okL (makeErr rows cols) (galeRes rows cols)) = w))) = true from by rw [hm1]; simp [hM, hwe]), rfl⟩

end Go.Ab
