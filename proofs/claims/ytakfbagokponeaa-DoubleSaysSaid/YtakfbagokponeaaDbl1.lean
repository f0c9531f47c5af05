/- Of even tables: the check. -/
import Derived.Test.YtakfbagokponeaaTab
import Derived.Test.YtakfbagokponeaaF1
import Derived.Test.YtakfbagokponeaaPlDouble
set_option maxRecDepth 100000
namespace Go.Ab
open Go Go.Proofs
theorem double_check (t : List (List Int)) : ACall Try.prog 14 [.one (.rs (.rows t))] [] (fun ov oh => ov = .tup [(false, [(.int .i64 (sumV t))]), (false, [(.int .i64 (sumE t))])] ∧ oh = []) := by
  refine acall_intro hT Try.func14 rfl (by kernel_rfl) rfl (by kernel_rfl) ?_
  refine awp_run_seq [0] [] [] ⟨86, [(0, .one (.rs (.rows t)))], []⟩ hT (by kernel_rfl) trivial ?_
  refine awp_seq ?_
  refine awp_run_seq [0, 15] [] [] ⟨86, [(0, .one (.rs (.rows t))), (15, .one (.bool (decide ((6 : Int) < ((t.length : Nat) : Int)))))], []⟩ hT (by kernel_rfl) trivial ?_
  refine awp_cond (b := (decide ((6 : Int) < ((t.length : Nat) : Int)))) (by kernel_rfl) (fun c1 => ?_) (fun c1 => ?_)
  · -- yes 1
    try simp only [bs] at c1
    have hE : tabErr t 0 = 2 := by rw [tabErr, if_pos (by omega)]
    have hS : (sumE t) = 2 := by rw [sumE, if_pos (by omega), hE]
    have hV : (sumV t) = 0 := by rw [sumV, if_neg (by omega)]
    refine awp_run_seq [2, 3] [] [] ⟨86, [(2, .one (.int .i64 0)), (3, .one (.int .i64 2))], []⟩ hT (by kernel_rfl) trivial ?_
    refine awp_ret ?_
    refine kRet.ret _ [] [] (.tup [(false, [(.int .i64 0)]), (false, [(.int .i64 2)])]) [] (by kernel_rfl) trivial ?_
    exact ⟨by first | rw [show (sumV t) = 0 from Eq.symm (by exact hV.symm), show (sumE t) = 2 from Eq.symm (by exact hS.symm)] | rw [show (sumV t) = 0 from Eq.symm (by exact hV.symm)] | rw [show (sumE t) = 2 from Eq.symm (by exact hS.symm)], rfl⟩
  · -- no 1
    try simp only [bs] at c1
    refine awp_skip ?_
    refine awp_run_seq [0, 4] [] [] ⟨86, [(0, .one (.rs (.rows t))), (4, .one (.int .i64 0))], []⟩ hT (by kernel_rfl) trivial ?_
    refine awp_seq ?_
    refine awp_run_seq [0, 4, 16, 17, 18] [] [] ⟨86, [(0, .one (.rs (.rows t))), (4, .one (.int .i64 0)), (16, .one (.rs (.rows t))), (17, .one (.int .i64 ((t.length : Nat) : Int))), (18, .one (.int .i64 0))], []⟩ hT (by kernel_rfl) trivial ?_
    refine awp_block ?_
    refine awp_loop (I := fun κ σ => ∃ (i : Nat) (sm : Int), ((i ≤ t.length) ∧ (rowsErr t.length 0 (t.drop i) = rowsErr t.length 0 t) ∧ (i = 0 → sm = 0) ∧ (0 < i → sm = rowS t t.length 0) ∧ (0 ≤ sm ∧ sm ≤ 6000) ∧ t.length - i = κ) ∧ σ = ⟨86, [(0, .one (.rs (.rows t))), (4, .one (.int .i64 sm)), (16, .one (.rs (.rows t))), (17, .one (.int .i64 ((t.length : Nat) : Int))), (18, .one (.int .i64 ((i : Nat) : Int)))], []⟩) _ ⟨0, 0, ⟨(by omega), (by rfl), (by intro _; rfl), (by intro h; omega), (by omega), rfl⟩, (by kernel_rfl)⟩ ?_
    rintro κ _ ⟨i, sm, ⟨hi, hq, hs0, hs1, hsb, rfl⟩, rfl⟩
    refine awp_run_seq [0, 4, 16, 17, 18, 19] [] [] ⟨86, [(0, .one (.rs (.rows t))), (4, .one (.int .i64 sm)), (16, .one (.rs (.rows t))), (17, .one (.int .i64 ((t.length : Nat) : Int))), (18, .one (.int .i64 ((i : Nat) : Int))), (19, .one (.bool (decide (((i : Nat) : Int) < ((t.length : Nat) : Int)))))], []⟩ hT (by kernel_rfl) trivial ?_
    refine awp_seq ?_
    refine awp_cond (b := (decide (((i : Nat) : Int) < ((t.length : Nat) : Int)))) (by kernel_rfl) (fun c5 => ?_) (fun c5 => ?_)
    · -- yes 5
      try simp only [bs] at c5
      have hil : i < t.length := by omega
      refine awp_skip ?_
      refine awp_seq ?_
      refine awp_block ?_
      refine awp_run_seq [0, 4, 5, 6, 16, 17, 18] [] [((0 : Int) ≤ ((i : Nat) : Int)), (((i : Nat) : Int) < ((t.length : Nat) : Int))] ⟨86, [(0, .one (.rs (.rows t))), (4, .one (.int .i64 sm)), (5, .one (.int .i64 ((i : Nat) : Int))), (6, .one (.ro (.ints .i64 (List.getD t i [])))), (16, .one (.rs (.rows t))), (17, .one (.int .i64 ((t.length : Nat) : Int))), (18, .one (.int .i64 ((i : Nat) : Int)))], []⟩ hT (by kernel_rfl) ⟨(by first | omega | (simp only [lens]; omega) | (simp only [Bool.cond_decide]; omega) | (simp only [nadd_eq]; omega)), (by first | omega | (simp only [lens]; omega) | (simp only [Bool.cond_decide]; omega) | (simp only [nadd_eq]; omega)), trivial⟩ ?_
      refine awp_seq ?_
      refine awp_run_seq [0, 4, 5, 6, 16, 17, 18, 27] [] [] ⟨86, [(0, .one (.rs (.rows t))), (4, .one (.int .i64 sm)), (5, .one (.int .i64 ((i : Nat) : Int))), (6, .one (.ro (.ints .i64 (List.getD t i [])))), (16, .one (.rs (.rows t))), (17, .one (.int .i64 ((t.length : Nat) : Int))), (18, .one (.int .i64 ((i : Nat) : Int))), (27, .one (.bool (decide ((((List.length (List.getD t i [])) : Nat) : Int) ≠ ((t.length : Nat) : Int)))))], []⟩ hT (by kernel_rfl) trivial ?_
      refine awp_cond (b := (decide ((((List.length (List.getD t i [])) : Nat) : Int) ≠ ((t.length : Nat) : Int)))) (by kernel_rfl) (fun c7 => ?_) (fun c7 => ?_)
      · -- yes 7
        try simp only [bs] at c7
        have hE : tabErr t 0 = 3 := by rw [tabErr, if_neg (by omega), ← hq, rows_drop (i := i) (by omega), if_pos (by omega)]
        have hS : (sumE t) = 3 := by rw [sumE, if_pos (by omega), hE]
        have hV : (sumV t) = 0 := by rw [sumV, if_neg (by omega)]
        refine awp_run_seq [2, 3] [] [] ⟨86, [(2, .one (.int .i64 0)), (3, .one (.int .i64 3))], []⟩ hT (by kernel_rfl) trivial ?_
        refine awp_ret ?_
        refine kRet.ret _ [] [] (.tup [(false, [(.int .i64 0)]), (false, [(.int .i64 3)])]) [] (by kernel_rfl) trivial ?_
        exact ⟨by first | rw [show (sumV t) = 0 from Eq.symm (by exact hV.symm), show (sumE t) = 3 from Eq.symm (by exact hS.symm)] | rw [show (sumV t) = 0 from Eq.symm (by exact hV.symm)] | rw [show (sumE t) = 3 from Eq.symm (by exact hS.symm)], rfl⟩
      · -- no 7
        try simp only [bs] at c7
        have hrl : (t.getD i []).length = t.length := by omega
        refine awp_skip ?_
        refine awp_run_seq [0, 4, 5, 16, 17, 18, 28, 29, 30] [] [] ⟨86, [(0, .one (.rs (.rows t))), (4, .one (.int .i64 sm)), (5, .one (.int .i64 ((i : Nat) : Int))), (16, .one (.rs (.rows t))), (17, .one (.int .i64 ((t.length : Nat) : Int))), (18, .one (.int .i64 ((i : Nat) : Int))), (28, .one (.ro (.ints .i64 (List.getD t i [])))), (29, .one (.int .i64 (((List.length (List.getD t i [])) : Nat) : Int))), (30, .one (.int .i64 0))], []⟩ hT (by kernel_rfl) trivial ?_
        refine awp_block ?_
        refine awp_loop (I := fun κ σ => ∃ (j : Nat) (sm2 : Int), ((j ≤ (t.getD i []).length) ∧ (∀ j2, j2 < j → offBad 0 ((t.getD i []).getD j2 0) = false) ∧ (i = 0 → sm2 = sumTo j (at2 t i)) ∧ (0 < i → sm2 = sm) ∧ (0 ≤ sm2 ∧ (0 < i → sm2 ≤ 6000) ∧ (i = 0 → sm2 ≤ 1000 * (j : Int))) ∧ (t.getD i []).length - j = κ) ∧ σ = ⟨86, [(0, .one (.rs (.rows t))), (4, .one (.int .i64 sm2)), (5, .one (.int .i64 ((i : Nat) : Int))), (16, .one (.rs (.rows t))), (17, .one (.int .i64 ((t.length : Nat) : Int))), (18, .one (.int .i64 ((i : Nat) : Int))), (28, .one (.ro (.ints .i64 (List.getD t i [])))), (29, .one (.int .i64 (((List.length (List.getD t i [])) : Nat) : Int))), (30, .one (.int .i64 ((j : Nat) : Int)))], []⟩) _ ⟨0, sm, ⟨(by omega), (by intro j2 hj2; omega), (by intro z; exact hs0 z), (by intro _; rfl), (by omega), rfl⟩, (by kernel_rfl)⟩ ?_
        rintro κ _ ⟨j, sm2, ⟨hj, hj1, hz1, hz2, hzb, rfl⟩, rfl⟩
        refine awp_run_seq [0, 4, 5, 16, 17, 18, 28, 29, 30, 31] [] [] ⟨86, [(0, .one (.rs (.rows t))), (4, .one (.int .i64 sm2)), (5, .one (.int .i64 ((i : Nat) : Int))), (16, .one (.rs (.rows t))), (17, .one (.int .i64 ((t.length : Nat) : Int))), (18, .one (.int .i64 ((i : Nat) : Int))), (28, .one (.ro (.ints .i64 (List.getD t i [])))), (29, .one (.int .i64 (((List.length (List.getD t i [])) : Nat) : Int))), (30, .one (.int .i64 ((j : Nat) : Int))), (31, .one (.bool (decide (((j : Nat) : Int) < (((List.length (List.getD t i [])) : Nat) : Int)))))], []⟩ hT (by kernel_rfl) trivial ?_
        refine awp_seq ?_
        refine awp_cond (b := (decide (((j : Nat) : Int) < (((List.length (List.getD t i [])) : Nat) : Int)))) (by kernel_rfl) (fun c10 => ?_) (fun c10 => ?_)
        · -- yes 10
          try simp only [bs] at c10
          refine awp_skip ?_
          refine awp_seq ?_
          refine awp_block ?_
          refine awp_run_seq [0, 4, 5, 8, 16, 17, 18, 28, 29, 30] [] [((0 : Int) ≤ ((j : Nat) : Int)), (((j : Nat) : Int) < (((List.length (List.getD t i [])) : Nat) : Int))] ⟨86, [(0, .one (.rs (.rows t))), (4, .one (.int .i64 sm2)), (5, .one (.int .i64 ((i : Nat) : Int))), (8, .one (.int .i64 (List.getD (List.getD t i []) j 0))), (16, .one (.rs (.rows t))), (17, .one (.int .i64 ((t.length : Nat) : Int))), (18, .one (.int .i64 ((i : Nat) : Int))), (28, .one (.ro (.ints .i64 (List.getD t i [])))), (29, .one (.int .i64 (((List.length (List.getD t i [])) : Nat) : Int))), (30, .one (.int .i64 ((j : Nat) : Int)))], []⟩ hT (by kernel_rfl) ⟨(by first | omega | (simp only [lens]; omega) | (simp only [Bool.cond_decide]; omega) | (simp only [nadd_eq]; omega)), (by first | omega | (simp only [lens]; omega) | (simp only [Bool.cond_decide]; omega) | (simp only [nadd_eq]; omega)), trivial⟩ ?_
          refine awp_seq ?_
          refine awp_run_seq [0, 4, 5, 8, 16, 17, 18, 28, 29, 30, 39] [] [((!(decide ((List.getD (List.getD t i []) j 0) < 0))) = true → ((!(decide ((List.getD (List.getD t i []) j 0) < 0))) = true → (!(decide ((List.getD (List.getD t i []) j 0) < 0))) = true)), ((!(decide ((List.getD (List.getD t i []) j 0) < 0))) = true → (!(decide ((List.getD (List.getD t i []) j 0) < 0))) = true)] ⟨86, [(0, .one (.rs (.rows t))), (4, .one (.int .i64 sm2)), (5, .one (.int .i64 ((i : Nat) : Int))), (8, .one (.int .i64 (List.getD (List.getD t i []) j 0))), (16, .one (.rs (.rows t))), (17, .one (.int .i64 ((t.length : Nat) : Int))), (18, .one (.int .i64 ((i : Nat) : Int))), (28, .one (.ro (.ints .i64 (List.getD t i [])))), (29, .one (.int .i64 (((List.length (List.getD t i [])) : Nat) : Int))), (30, .one (.int .i64 ((j : Nat) : Int))), (39, .one (.bool ((decide ((List.getD (List.getD t i []) j 0) < 0)) || (decide ((1000 : Int) < (List.getD (List.getD t i []) j 0))))))], []⟩ hT (by kernel_rfl) ⟨(by intro hg; first | exact hg | skip; (try simp only [bs] at hg ⊢); first | exact hg | first | omega | (simp only [lens]; omega) | (simp only [Bool.cond_decide]; omega) | (simp only [nadd_eq]; omega) | grind), (fun h => h), trivial⟩ ?_
          refine awp_cond (b := ((decide ((List.getD (List.getD t i []) j 0) < 0)) || (decide ((1000 : Int) < (List.getD (List.getD t i []) j 0))))) (by kernel_rfl) (fun c12 => ?_) (fun c12 => ?_)
          · -- yes 12
            try simp only [bs] at c12
            have hyes : (t.getD i []).any (offBad 0) = true := any_at (d := 0) (i := j) (by omega) (by rw [offBad, Bool.or_eq_true, decide_eq_true_eq, decide_eq_true_eq]; omega)
            have hE : tabErr t 0 = 1 := by rw [tabErr, if_neg (by omega), ← hq, rows_drop (i := i) (by omega), if_neg (by omega), if_pos hyes]
            have hS : (sumE t) = 1 := by rw [sumE, if_pos (by omega), hE]
            have hV : (sumV t) = 0 := by rw [sumV, if_neg (by omega)]
            refine awp_run_seq [2, 3] [] [] ⟨86, [(2, .one (.int .i64 0)), (3, .one (.int .i64 1))], []⟩ hT (by kernel_rfl) trivial ?_
            refine awp_ret ?_
            refine kRet.ret _ [] [] (.tup [(false, [(.int .i64 0)]), (false, [(.int .i64 1)])]) [] (by kernel_rfl) trivial ?_
            exact ⟨by first | rw [show (sumV t) = 0 from Eq.symm (by exact hV.symm), show (sumE t) = 1 from Eq.symm (by exact hS.symm)] | rw [show (sumV t) = 0 from Eq.symm (by exact hV.symm)] | rw [show (sumE t) = 1 from Eq.symm (by exact hS.symm)], rfl⟩
          · -- no 12
            try simp only [bs] at c12
            have hob : offBad 0 ((t.getD i []).getD j 0) = false := by rw [offBad, Bool.or_eq_false_iff, decide_eq_false_iff_not, decide_eq_false_iff_not]; omega
            have hst : sumTo (j + 1) (at2 t i) = sumTo j (at2 t i) + (t.getD i []).getD j 0 := rfl
            refine awp_skip ?_
            refine awp_run_seq [0, 4, 5, 8, 16, 17, 18, 28, 29, 30, 41] [] [] ⟨86, [(0, .one (.rs (.rows t))), (4, .one (.int .i64 sm2)), (5, .one (.int .i64 ((i : Nat) : Int))), (8, .one (.int .i64 (List.getD (List.getD t i []) j 0))), (16, .one (.rs (.rows t))), (17, .one (.int .i64 ((t.length : Nat) : Int))), (18, .one (.int .i64 ((i : Nat) : Int))), (28, .one (.ro (.ints .i64 (List.getD t i [])))), (29, .one (.int .i64 (((List.length (List.getD t i [])) : Nat) : Int))), (30, .one (.int .i64 ((j : Nat) : Int))), (41, .one (.bool (decide (((i : Nat) : Int) = 0))))], []⟩ hT (by kernel_rfl) trivial ?_
            refine awp_cond (b := (decide (((i : Nat) : Int) = 0))) (by kernel_rfl) (fun c14 => ?_) (fun c14 => ?_)
            · -- yes 14
              try simp only [bs] at c14
              refine awp_run [0, 4, 5, 16, 17, 18, 28, 29, 30] [] [(-9223372036854775808 ≤ (sm2 + (List.getD (List.getD t i []) j 0)) ∧ (sm2 + (List.getD (List.getD t i []) j 0)) ≤ 9223372036854775807)] ⟨86, [(0, .one (.rs (.rows t))), (4, .one (.int .i64 (sm2 + (List.getD (List.getD t i []) j 0)))), (5, .one (.int .i64 ((i : Nat) : Int))), (16, .one (.rs (.rows t))), (17, .one (.int .i64 ((t.length : Nat) : Int))), (18, .one (.int .i64 ((i : Nat) : Int))), (28, .one (.ro (.ints .i64 (List.getD t i [])))), (29, .one (.int .i64 (((List.length (List.getD t i [])) : Nat) : Int))), (30, .one (.int .i64 ((j : Nat) : Int)))], []⟩ hT (by kernel_rfl) ⟨(by first | omega | (simp only [lens]; omega) | (simp only [Bool.cond_decide]; omega) | (simp only [nadd_eq]; omega)), trivial⟩ ?_
              refine awp_run [0, 4, 5, 16, 17, 18, 28, 29, 30] [] [(-9223372036854775808 ≤ (((j + 1) : Nat) : Int) ∧ (((j + 1) : Nat) : Int) ≤ 9223372036854775807)] ⟨86, [(0, .one (.rs (.rows t))), (4, .one (.int .i64 (sm2 + (List.getD (List.getD t i []) j 0)))), (5, .one (.int .i64 ((i : Nat) : Int))), (16, .one (.rs (.rows t))), (17, .one (.int .i64 ((t.length : Nat) : Int))), (18, .one (.int .i64 ((i : Nat) : Int))), (28, .one (.ro (.ints .i64 (List.getD t i [])))), (29, .one (.int .i64 (((List.length (List.getD t i [])) : Nat) : Int))), (30, .one (.int .i64 (((j + 1) : Nat) : Int)))], []⟩ hT (by kernel_rfl) ⟨(by first | omega | (simp only [lens]; omega) | (simp only [Bool.cond_decide]; omega) | (simp only [nadd_eq]; omega)), trivial⟩ ?_
              refine loop_end _ ?_ ⟨(j + 1), (sm2 + (List.getD (List.getD t i []) j 0)), ⟨(by omega), (by intro j2 hj2; rcases Nat.lt_succ_iff_lt_or_eq.1 hj2 with q | q; exact hj1 j2 q; subst q; exact hob), (by intro z; first | (rw [hst, ← hz1 z]; done) | omega), (by intro z; first | exact hz2 z | omega), (by omega), rfl⟩, (by kernel_rfl)⟩
              omega
            · -- no 14
              try simp only [bs] at c14
              refine awp_skip ?_
              refine awp_run [0, 4, 5, 16, 17, 18, 28, 29, 30] [] [(-9223372036854775808 ≤ (((j + 1) : Nat) : Int) ∧ (((j + 1) : Nat) : Int) ≤ 9223372036854775807)] ⟨86, [(0, .one (.rs (.rows t))), (4, .one (.int .i64 sm2)), (5, .one (.int .i64 ((i : Nat) : Int))), (16, .one (.rs (.rows t))), (17, .one (.int .i64 ((t.length : Nat) : Int))), (18, .one (.int .i64 ((i : Nat) : Int))), (28, .one (.ro (.ints .i64 (List.getD t i [])))), (29, .one (.int .i64 (((List.length (List.getD t i [])) : Nat) : Int))), (30, .one (.int .i64 (((j + 1) : Nat) : Int)))], []⟩ hT (by kernel_rfl) ⟨(by first | omega | (simp only [lens]; omega) | (simp only [Bool.cond_decide]; omega) | (simp only [nadd_eq]; omega)), trivial⟩ ?_
              refine loop_end _ ?_ ⟨(j + 1), sm2, ⟨(by omega), (by intro j2 hj2; rcases Nat.lt_succ_iff_lt_or_eq.1 hj2 with q | q; exact hj1 j2 q; subst q; exact hob), (by intro z; first | (rw [hst, ← hz1 z]; done) | omega), (by intro z; first | exact hz2 z | omega), (by omega), rfl⟩, (by kernel_rfl)⟩
              omega
        · -- no 10
          try simp only [bs] at c10
          have hno : (t.getD i []).any (offBad 0) = false := any_none (d := 0) (fun j2 hj2 => hj1 j2 (by omega))
          refine awp_exit ?_
          refine awp_run [0, 4, 16, 17, 18] [] [(-9223372036854775808 ≤ (((i + 1) : Nat) : Int) ∧ (((i + 1) : Nat) : Int) ≤ 9223372036854775807)] ⟨86, [(0, .one (.rs (.rows t))), (4, .one (.int .i64 sm2)), (16, .one (.rs (.rows t))), (17, .one (.int .i64 ((t.length : Nat) : Int))), (18, .one (.int .i64 (((i + 1) : Nat) : Int)))], []⟩ hT (by kernel_rfl) ⟨(by first | omega | (simp only [lens]; omega) | (simp only [Bool.cond_decide]; omega) | (simp only [nadd_eq]; omega)), trivial⟩ ?_
          refine loop_end _ ?_ ⟨(i + 1), sm2, ⟨(by omega), (by rw [← hq, rows_drop (i := i) (by omega), if_neg (by omega), if_neg (by rw [hno]; decide)]), (by intro h; omega), (by intro _; rcases Nat.eq_zero_or_pos i with z | z; rw [hz1 z, show j = t.length by omega]; subst z; rfl; rw [hz2 z]; exact hs1 z), (by omega), rfl⟩, (by kernel_rfl)⟩
          omega
    · -- no 5
      try simp only [bs] at c5
      have hE : tabErr t 0 = 0 := by rw [tabErr, if_neg (by omega), ← hq, rows_end (by omega)]
      have hT0 := tab0_of hE
      have hsm : sm = rowS t t.length 0 := by rcases Nat.eq_zero_or_pos t.length with z | z; rw [hs0 (by omega)]; unfold rowS; rw [z]; rfl; exact hs1 (by omega)
      refine awp_exit ?_
      refine awp_seq ?_
      refine awp_run_seq [0, 4, 48, 49] [] [] ⟨86, [(0, .one (.rs (.rows t))), (4, .one (.int .i64 sm)), (48, .one (.int .i64 ((t.length : Nat) : Int))), (49, .one (.int .i64 0))], []⟩ hT (by kernel_rfl) trivial ?_
      refine awp_block ?_
      refine awp_loop (I := fun κ σ => ∃ (i : Nat), ((i ≤ t.length) ∧ (∀ j, j < i → rowS t t.length j = rowS t t.length 0 ∧ colS t t.length j = rowS t t.length 0) ∧ t.length - i = κ) ∧ σ = ⟨86, [(0, .one (.rs (.rows t))), (4, .one (.int .i64 sm)), (48, .one (.int .i64 ((t.length : Nat) : Int))), (49, .one (.int .i64 ((i : Nat) : Int)))], []⟩) _ ⟨0, ⟨(by omega), (by intro j hj; omega), rfl⟩, (by kernel_rfl)⟩ ?_
      rintro κ _ ⟨i, ⟨hi, hev, rfl⟩, rfl⟩
      refine awp_run_seq [0, 4, 48, 49, 50] [] [] ⟨86, [(0, .one (.rs (.rows t))), (4, .one (.int .i64 sm)), (48, .one (.int .i64 ((t.length : Nat) : Int))), (49, .one (.int .i64 ((i : Nat) : Int))), (50, .one (.bool (decide (((i : Nat) : Int) < ((t.length : Nat) : Int)))))], []⟩ hT (by kernel_rfl) trivial ?_
      refine awp_seq ?_
      refine awp_cond (b := (decide (((i : Nat) : Int) < ((t.length : Nat) : Int)))) (by kernel_rfl) (fun c19 => ?_) (fun c19 => ?_)
      · -- yes 19
        try simp only [bs] at c19
        have hil : i < t.length := by omega
        have hri := hT0.sq.row i hil
        have hrb := hT0.rowb hil (Nat.le_refl _)
        have hcb := hT0.colb hil (Nat.le_refl _)
        refine awp_skip ?_
        refine awp_seq ?_
        refine awp_block ?_
        refine awp_run_seq [0, 4, 9, 48, 49] [] [] ⟨86, [(0, .one (.rs (.rows t))), (4, .one (.int .i64 sm)), (9, .one (.int .i64 ((i : Nat) : Int))), (48, .one (.int .i64 ((t.length : Nat) : Int))), (49, .one (.int .i64 ((i : Nat) : Int)))], []⟩ hT (by kernel_rfl) trivial ?_
        refine awp_run_seq [0, 4, 9, 10, 11, 48, 49] [] [] ⟨86, [(0, .one (.rs (.rows t))), (4, .one (.int .i64 sm)), (9, .one (.int .i64 ((i : Nat) : Int))), (10, .one (.int .i64 0)), (11, .one (.int .i64 0)), (48, .one (.int .i64 ((t.length : Nat) : Int))), (49, .one (.int .i64 ((i : Nat) : Int)))], []⟩ hT (by kernel_rfl) trivial ?_
        refine awp_seq ?_
        refine awp_run_seq [0, 4, 9, 10, 11, 48, 49, 53, 54] [] [] ⟨86, [(0, .one (.rs (.rows t))), (4, .one (.int .i64 sm)), (9, .one (.int .i64 ((i : Nat) : Int))), (10, .one (.int .i64 0)), (11, .one (.int .i64 0)), (48, .one (.int .i64 ((t.length : Nat) : Int))), (49, .one (.int .i64 ((i : Nat) : Int))), (53, .one (.int .i64 ((t.length : Nat) : Int))), (54, .one (.int .i64 0))], []⟩ hT (by kernel_rfl) trivial ?_
        refine awp_block ?_
        refine awp_loop (I := fun κ σ => ∃ (k : Nat) (r c : Int), ((k ≤ t.length) ∧ (r = sumTo k (at2 t i)) ∧ (c = sumTo k (fun j => at2 t j i)) ∧ t.length - k = κ) ∧ σ = ⟨86, [(0, .one (.rs (.rows t))), (4, .one (.int .i64 sm)), (9, .one (.int .i64 ((i : Nat) : Int))), (10, .one (.int .i64 r)), (11, .one (.int .i64 c)), (48, .one (.int .i64 ((t.length : Nat) : Int))), (49, .one (.int .i64 ((i : Nat) : Int))), (53, .one (.int .i64 ((t.length : Nat) : Int))), (54, .one (.int .i64 ((k : Nat) : Int)))], []⟩) _ ⟨0, 0, 0, ⟨(by omega), (by rfl), (by rfl), rfl⟩, (by kernel_rfl)⟩ ?_
        rintro κ _ ⟨k, r, c, ⟨hk, hr, hc, rfl⟩, rfl⟩
        refine awp_run_seq [0, 4, 9, 10, 11, 48, 49, 53, 54, 55] [] [] ⟨86, [(0, .one (.rs (.rows t))), (4, .one (.int .i64 sm)), (9, .one (.int .i64 ((i : Nat) : Int))), (10, .one (.int .i64 r)), (11, .one (.int .i64 c)), (48, .one (.int .i64 ((t.length : Nat) : Int))), (49, .one (.int .i64 ((i : Nat) : Int))), (53, .one (.int .i64 ((t.length : Nat) : Int))), (54, .one (.int .i64 ((k : Nat) : Int))), (55, .one (.bool (decide (((k : Nat) : Int) < ((t.length : Nat) : Int)))))], []⟩ hT (by kernel_rfl) trivial ?_
        refine awp_seq ?_
        refine awp_cond (b := (decide (((k : Nat) : Int) < ((t.length : Nat) : Int)))) (by kernel_rfl) (fun c23 => ?_) (fun c23 => ?_)
        · -- yes 23
          try simp only [bs] at c23
          have hkl : k < t.length := by omega
          have hrk := hT0.sq.row k hkl
          have hb1 := hT0.rowb (k := k) hil (by omega)
          have hb2 := hT0.colb (k := k) hil (by omega)
          have hb3 := hT0.at_ i k hil hkl
          have hb4 := hT0.at_ k i hkl hil
          unfold at2 at hb3 hb4
          refine awp_skip ?_
          refine awp_seq ?_
          refine awp_block ?_
          refine awp_run_seq [0, 4, 9, 10, 11, 12, 48, 49, 53, 54] [] [] ⟨86, [(0, .one (.rs (.rows t))), (4, .one (.int .i64 sm)), (9, .one (.int .i64 ((i : Nat) : Int))), (10, .one (.int .i64 r)), (11, .one (.int .i64 c)), (12, .one (.int .i64 ((k : Nat) : Int))), (48, .one (.int .i64 ((t.length : Nat) : Int))), (49, .one (.int .i64 ((i : Nat) : Int))), (53, .one (.int .i64 ((t.length : Nat) : Int))), (54, .one (.int .i64 ((k : Nat) : Int)))], []⟩ hT (by kernel_rfl) trivial ?_
          refine awp_run_seq [0, 4, 9, 10, 11, 12, 48, 49, 53, 54] [] [((0 : Int) ≤ ((i : Nat) : Int)), (((i : Nat) : Int) < ((t.length : Nat) : Int)), ((0 : Int) ≤ ((k : Nat) : Int)), (((k : Nat) : Int) < (((List.length (List.getD t i [])) : Nat) : Int)), (-9223372036854775808 ≤ (r + (List.getD (List.getD t i []) k 0)) ∧ (r + (List.getD (List.getD t i []) k 0)) ≤ 9223372036854775807)] ⟨86, [(0, .one (.rs (.rows t))), (4, .one (.int .i64 sm)), (9, .one (.int .i64 ((i : Nat) : Int))), (10, .one (.int .i64 (r + (List.getD (List.getD t i []) k 0)))), (11, .one (.int .i64 c)), (12, .one (.int .i64 ((k : Nat) : Int))), (48, .one (.int .i64 ((t.length : Nat) : Int))), (49, .one (.int .i64 ((i : Nat) : Int))), (53, .one (.int .i64 ((t.length : Nat) : Int))), (54, .one (.int .i64 ((k : Nat) : Int)))], []⟩ hT (by kernel_rfl) ⟨(by first | omega | (simp only [lens]; omega) | (simp only [Bool.cond_decide]; omega) | (simp only [nadd_eq]; omega)), (by first | omega | (simp only [lens]; omega) | (simp only [Bool.cond_decide]; omega) | (simp only [nadd_eq]; omega)), (by first | omega | (simp only [lens]; omega) | (simp only [Bool.cond_decide]; omega) | (simp only [nadd_eq]; omega)), (by first | omega | (simp only [lens]; omega) | (simp only [Bool.cond_decide]; omega) | (simp only [nadd_eq]; omega)), (by first | omega | (simp only [lens]; omega) | (simp only [Bool.cond_decide]; omega) | (simp only [nadd_eq]; omega)), trivial⟩ ?_
          refine awp_run [0, 4, 9, 10, 11, 48, 49, 53, 54] [] [((0 : Int) ≤ ((k : Nat) : Int)), (((k : Nat) : Int) < ((t.length : Nat) : Int)), ((0 : Int) ≤ ((i : Nat) : Int)), (((i : Nat) : Int) < (((List.length (List.getD t k [])) : Nat) : Int)), (-9223372036854775808 ≤ (c + (List.getD (List.getD t k []) i 0)) ∧ (c + (List.getD (List.getD t k []) i 0)) ≤ 9223372036854775807)] ⟨86, [(0, .one (.rs (.rows t))), (4, .one (.int .i64 sm)), (9, .one (.int .i64 ((i : Nat) : Int))), (10, .one (.int .i64 (r + (List.getD (List.getD t i []) k 0)))), (11, .one (.int .i64 (c + (List.getD (List.getD t k []) i 0)))), (48, .one (.int .i64 ((t.length : Nat) : Int))), (49, .one (.int .i64 ((i : Nat) : Int))), (53, .one (.int .i64 ((t.length : Nat) : Int))), (54, .one (.int .i64 ((k : Nat) : Int)))], []⟩ hT (by kernel_rfl) ⟨(by first | omega | (simp only [lens]; omega) | (simp only [Bool.cond_decide]; omega) | (simp only [nadd_eq]; omega)), (by first | omega | (simp only [lens]; omega) | (simp only [Bool.cond_decide]; omega) | (simp only [nadd_eq]; omega)), (by first | omega | (simp only [lens]; omega) | (simp only [Bool.cond_decide]; omega) | (simp only [nadd_eq]; omega)), (by first | omega | (simp only [lens]; omega) | (simp only [Bool.cond_decide]; omega) | (simp only [nadd_eq]; omega)), (by first | omega | (simp only [lens]; omega) | (simp only [Bool.cond_decide]; omega) | (simp only [nadd_eq]; omega)), trivial⟩ ?_
          refine awp_run [0, 4, 9, 10, 11, 48, 49, 53, 54] [] [(-9223372036854775808 ≤ (((k + 1) : Nat) : Int) ∧ (((k + 1) : Nat) : Int) ≤ 9223372036854775807)] ⟨86, [(0, .one (.rs (.rows t))), (4, .one (.int .i64 sm)), (9, .one (.int .i64 ((i : Nat) : Int))), (10, .one (.int .i64 (r + (List.getD (List.getD t i []) k 0)))), (11, .one (.int .i64 (c + (List.getD (List.getD t k []) i 0)))), (48, .one (.int .i64 ((t.length : Nat) : Int))), (49, .one (.int .i64 ((i : Nat) : Int))), (53, .one (.int .i64 ((t.length : Nat) : Int))), (54, .one (.int .i64 (((k + 1) : Nat) : Int)))], []⟩ hT (by kernel_rfl) ⟨(by first | omega | (simp only [lens]; omega) | (simp only [Bool.cond_decide]; omega) | (simp only [nadd_eq]; omega)), trivial⟩ ?_
          refine loop_end _ ?_ ⟨(k + 1), (r + (List.getD (List.getD t i []) k 0)), (c + (List.getD (List.getD t k []) i 0)), ⟨(by omega), (by rw [hr]; rfl), (by rw [hc]; rfl), rfl⟩, (by kernel_rfl)⟩
          omega
        · -- no 23
          try simp only [bs] at c23
          refine awp_exit ?_
          refine awp_run_seq [0, 4, 48, 49, 83] [] [((!(decide (r ≠ sm))) = true → ((!(decide (r ≠ sm))) = true → (!(decide (r ≠ sm))) = true)), ((!(decide (r ≠ sm))) = true → ((!(decide (r ≠ sm))) = true → (!(decide (r ≠ sm))) = true)), ((!(decide (r ≠ sm))) = true → (!(decide (r ≠ sm))) = true)] ⟨86, [(0, .one (.rs (.rows t))), (4, .one (.int .i64 sm)), (48, .one (.int .i64 ((t.length : Nat) : Int))), (49, .one (.int .i64 ((i : Nat) : Int))), (83, .one (.bool ((decide (r ≠ sm)) || (decide (c ≠ sm)))))], []⟩ hT (by kernel_rfl) ⟨(by intro hg; first | exact hg | skip; (try simp only [bs] at hg ⊢); first | exact hg | first | omega | (simp only [lens]; omega) | (simp only [Bool.cond_decide]; omega) | (simp only [nadd_eq]; omega) | grind), (by intro hg; first | exact hg | skip; (try simp only [bs] at hg ⊢); first | exact hg | first | omega | (simp only [lens]; omega) | (simp only [Bool.cond_decide]; omega) | (simp only [nadd_eq]; omega) | grind), (fun h => h), trivial⟩ ?_
          refine awp_cond (b := ((decide (r ≠ sm)) || (decide (c ≠ sm)))) (by kernel_rfl) (fun c28 => ?_) (fun c28 => ?_)
          · -- yes 28
            try simp only [bs] at c28
            have hS : (sumE t) = 8 := by
              have hne : ¬ evenB t = true := fun q => by
                have h9 := List.all_eq_true.1 q i (List.mem_range.2 hil)
                rw [Bool.and_eq_true, decide_eq_true_eq, decide_eq_true_eq] at h9
                unfold rowS at h9 hsm
                unfold colS at h9
                have hk : k = t.length := by omega
                subst hk
                omega
              rw [sumE, if_neg (by omega), if_neg hne]
            have hV : (sumV t) = 0 := by rw [sumV, if_neg (by omega)]
            refine awp_run_seq [2, 3] [] [] ⟨86, [(2, .one (.int .i64 0)), (3, .one (.int .i64 8))], []⟩ hT (by kernel_rfl) trivial ?_
            refine awp_ret ?_
            refine kRet.ret _ [] [] (.tup [(false, [(.int .i64 0)]), (false, [(.int .i64 8)])]) [] (by kernel_rfl) trivial ?_
            exact ⟨by first | rw [show (sumV t) = 0 from Eq.symm (by exact hV.symm), show (sumE t) = 8 from Eq.symm (by exact hS.symm)] | rw [show (sumV t) = 0 from Eq.symm (by exact hV.symm)] | rw [show (sumE t) = 8 from Eq.symm (by exact hS.symm)], rfl⟩
          · -- no 28
            try simp only [bs] at c28
            have hk : k = t.length := by omega
            have hev1 : rowS t t.length i = rowS t t.length 0 ∧ colS t t.length i = rowS t t.length 0 := by unfold rowS at hsm ⊢; unfold colS; rw [hk] at hr hc; omega
            refine awp_skip ?_
            refine awp_run [0, 4, 48, 49] [] [(-9223372036854775808 ≤ (((i + 1) : Nat) : Int) ∧ (((i + 1) : Nat) : Int) ≤ 9223372036854775807)] ⟨86, [(0, .one (.rs (.rows t))), (4, .one (.int .i64 sm)), (48, .one (.int .i64 ((t.length : Nat) : Int))), (49, .one (.int .i64 (((i + 1) : Nat) : Int)))], []⟩ hT (by kernel_rfl) ⟨(by first | omega | (simp only [lens]; omega) | (simp only [Bool.cond_decide]; omega) | (simp only [nadd_eq]; omega)), trivial⟩ ?_
            refine loop_end _ ?_ ⟨(i + 1), ⟨(by omega), (by intro j hj; rcases Nat.lt_succ_iff_lt_or_eq.1 hj with q | q; exact hev j q; subst q; exact hev1), rfl⟩, (by kernel_rfl)⟩
            omega
      · -- no 19
        try simp only [bs] at c19
        have hS : (sumE t) = 0 := by
          have hev2 : evenB t = true := List.all_eq_true.2 fun j hj => by
            have h9 := hev j (by have := List.mem_range.1 hj; omega)
            rw [Bool.and_eq_true, decide_eq_true_eq, decide_eq_true_eq]; exact h9
          rw [sumE, if_neg (by omega), if_pos hev2]
        have hV : (sumV t) = rowS t t.length 0 := by rw [sumV, if_pos hS]
        refine awp_exit ?_
        refine awp_run_seq [2, 3] [] [] ⟨86, [(2, .one (.int .i64 sm)), (3, .one (.int .i64 0))], []⟩ hT (by kernel_rfl) trivial ?_
        refine awp_ret ?_
        refine kRet.ret _ [] [] (.tup [(false, [(.int .i64 sm)]), (false, [(.int .i64 0)])]) [] (by kernel_rfl) trivial ?_
        exact ⟨by first | rw [show (sumV t) = sm from Eq.symm (by rw [hV]; exact hsm), show (sumE t) = 0 from Eq.symm (by exact hS.symm)] | rw [show (sumV t) = sm from Eq.symm (by rw [hV]; exact hsm)] | rw [show (sumE t) = 0 from Eq.symm (by exact hS.symm)], rfl⟩

end Go.Ab
