/- Of even tables: the check, in the reference. -/
import Derived.Test.YtakfbagokponeaaTab
import Derived.Test.YtakfbagokponeaaAss1
import Derived.Test.YtakfbagokponeaaMin1
import Derived.Test.YtakfbagokponeaaTree3
import Derived.Test.YtakfbagokponeaaPlDouble
set_option maxRecDepth 100000
namespace Go.Ab
open Go Go.Proofs
theorem ref_sumErr (t : List (List Int)) : ACall Try.prog 16 [.one (.rs (.rows t))] [] (fun ov oh => ov = .tup [(false, [(.int .i64 (sumV t))]), (false, [(.int .i64 (sumE t))])] ∧ oh = []) := by
  refine acall_intro hT Try.func16 rfl (by kernel_rfl) rfl (by kernel_rfl) ?_
  refine awp_run_seq [0] [] [] ⟨66, [(0, .one (.rs (.rows t)))], []⟩ hT (by kernel_rfl) trivial ?_
  refine awp_seq ?_
  refine awp_seq (awp_region ?_)
  refine aops_run 1 [0, 10] [] [] ⟨66, [(0, .one (.rs (.rows t))), (10, .one (.rs (.rows t)))], []⟩ hT (by kernel_rfl) (by kernel_rfl) trivial ?_
  refine aops_pure false ⟨true, [], 66, [.one (.rs (.rows t)), .one (.int .i64 0)], []⟩ [.one (.rs (.rows t)), .one (.int .i64 0)] (.one (.int .i64 (tabErr t (0)))) ⟨66, [(0, .one (.rs (.rows t))), (10, .one (.rs (.rows t))), (11, .one (.int .i64 (tabErr t (0))))], []⟩ (by kernel_rfl) (by kernel_rfl) (fun _ => trivial) rfl (fun _ => ref_tableErr t (0)) ?_
  refine aops_run 1 [0, 4] [] [] ⟨66, [(0, .one (.rs (.rows t))), (4, .one (.int .i64 (tabErr t (0))))], []⟩ hT (by kernel_rfl) (by kernel_rfl) trivial ?_
  refine aops_end_seq (by kernel_rfl) ?_
  refine awp_run_seq [0, 4, 13] [] [] ⟨66, [(0, .one (.rs (.rows t))), (4, .one (.int .i64 (tabErr t (0)))), (13, .one (.bool (decide ((tabErr t (0)) ≠ 0))))], []⟩ hT (by kernel_rfl) trivial ?_
  refine awp_cond (b := (decide ((tabErr t (0)) ≠ 0))) (by kernel_rfl) (fun c2 => ?_) (fun c2 => ?_)
  · -- yes 2
    try simp only [bs] at c2
    have hS : (sumE t) = tabErr t 0 := if_pos c2
    have hV : (sumV t) = 0 := by rw [sumV, if_neg (by omega)]
    refine awp_run_seq [2, 3] [] [] ⟨66, [(2, .one (.int .i64 0)), (3, .one (.int .i64 (tabErr t (0))))], []⟩ hT (by kernel_rfl) trivial ?_
    refine awp_ret ?_
    refine kRet.ret _ [] [] (.tup [(false, [(.int .i64 0)]), (false, [(.int .i64 (tabErr t (0)))])]) [] (by kernel_rfl) trivial ?_
    exact ⟨by first | rw [show (sumV t) = 0 from Eq.symm (by exact hV.symm), show (sumE t) = (tabErr t (0)) from Eq.symm (by exact hS.symm)] | rw [show (sumV t) = 0 from Eq.symm (by exact hV.symm)] | rw [show (sumE t) = (tabErr t (0)) from Eq.symm (by exact hS.symm)], rfl⟩
  · -- no 2
    try simp only [bs] at c2
    have hE : tabErr t 0 = 0 := by omega
    have hT0 := tab0_of hE
    have h6 := hT0.n6
    refine awp_skip ?_
    refine awp_run_seq [0, 5] [] [] ⟨66, [(0, .one (.rs (.rows t))), (5, .one .nils)], []⟩ hT (by kernel_rfl) trivial ?_
    refine awp_seq ?_
    refine awp_run_seq [0, 5, 16, 17] [] [] ⟨66, [(0, .one (.rs (.rows t))), (5, .one .nils), (16, .one (.int .i64 ((t.length : Nat) : Int))), (17, .one (.int .i64 0))], []⟩ hT (by kernel_rfl) trivial ?_
    refine awp_block ?_
    refine awp_weak (awk_empty 5005 (.flat (.ints .i64 [])) rfl (by decide) _) ?_
    refine awp_weak (awk_slot 5 (.one .nils) (.one (.rw 5005 0 0)) _ (by kernel_rfl) (.one (wkv_nils (o := .flat (.ints .i64 [])) (by kernel_rfl)))) ?_
    refine awp_loop (I := fun κ σ => ∃ (i : Nat) (sums : List Int), ((i ≤ t.length) ∧ (sums = sumsTo t i) ∧ t.length - i = κ) ∧ σ = ⟨66, [(0, .one (.rs (.rows t))), (5, .one (.rw 5005 0 sums.length)), (16, .one (.int .i64 ((t.length : Nat) : Int))), (17, .one (.int .i64 ((i : Nat) : Int)))], [(5005, .flat (.ints .i64 sums))]⟩) _ ⟨0, [], ⟨(by omega), (by rfl), rfl⟩, (by kernel_rfl)⟩ ?_
    rintro κ _ ⟨i, sums, ⟨hi, hs, rfl⟩, rfl⟩
    have hsl : sums.length = 2 * i := by rw [hs, sumsTo_len]
    refine awp_run_seq [0, 5, 16, 17, 18] [5005] [] ⟨66, [(0, .one (.rs (.rows t))), (5, .one (.rw 5005 0 sums.length)), (16, .one (.int .i64 ((t.length : Nat) : Int))), (17, .one (.int .i64 ((i : Nat) : Int))), (18, .one (.bool (decide (((i : Nat) : Int) < ((t.length : Nat) : Int)))))], [(5005, .flat (.ints .i64 sums))]⟩ hT (by kernel_rfl) trivial ?_
    refine awp_seq ?_
    refine awp_cond (b := (decide (((i : Nat) : Int) < ((t.length : Nat) : Int)))) (by kernel_rfl) (fun c6 => ?_) (fun c6 => ?_)
    · -- yes 6
      try simp only [bs] at c6
      have hil : i < t.length := by omega
      have hri := hT0.sq.row i hil
      refine awp_skip ?_
      refine awp_seq ?_
      refine awp_block ?_
      refine awp_run_seq [0, 5, 6, 16, 17] [5005] [] ⟨66, [(0, .one (.rs (.rows t))), (5, .one (.rw 5005 0 sums.length)), (6, .one (.int .i64 ((i : Nat) : Int))), (16, .one (.int .i64 ((t.length : Nat) : Int))), (17, .one (.int .i64 ((i : Nat) : Int)))], [(5005, .flat (.ints .i64 sums))]⟩ hT (by kernel_rfl) trivial ?_
      refine awp_run_seq [0, 5, 6, 7, 8, 16, 17] [5005] [] ⟨66, [(0, .one (.rs (.rows t))), (5, .one (.rw 5005 0 sums.length)), (6, .one (.int .i64 ((i : Nat) : Int))), (7, .one (.int .i64 0)), (8, .one (.int .i64 0)), (16, .one (.int .i64 ((t.length : Nat) : Int))), (17, .one (.int .i64 ((i : Nat) : Int)))], [(5005, .flat (.ints .i64 sums))]⟩ hT (by kernel_rfl) trivial ?_
      refine awp_seq ?_
      refine awp_run_seq [0, 5, 6, 7, 8, 16, 17, 21, 22] [5005] [] ⟨66, [(0, .one (.rs (.rows t))), (5, .one (.rw 5005 0 sums.length)), (6, .one (.int .i64 ((i : Nat) : Int))), (7, .one (.int .i64 0)), (8, .one (.int .i64 0)), (16, .one (.int .i64 ((t.length : Nat) : Int))), (17, .one (.int .i64 ((i : Nat) : Int))), (21, .one (.int .i64 ((t.length : Nat) : Int))), (22, .one (.int .i64 0))], [(5005, .flat (.ints .i64 sums))]⟩ hT (by kernel_rfl) trivial ?_
      refine awp_block ?_
      refine awp_loop (I := fun κ σ => ∃ (k : Nat) (r c : Int), ((k ≤ t.length) ∧ (r = sumTo k (at2 t i)) ∧ (c = sumTo k (fun j => at2 t j i)) ∧ t.length - k = κ) ∧ σ = ⟨66, [(0, .one (.rs (.rows t))), (5, .one (.rw 5005 0 sums.length)), (6, .one (.int .i64 ((i : Nat) : Int))), (7, .one (.int .i64 r)), (8, .one (.int .i64 c)), (16, .one (.int .i64 ((t.length : Nat) : Int))), (17, .one (.int .i64 ((i : Nat) : Int))), (21, .one (.int .i64 ((t.length : Nat) : Int))), (22, .one (.int .i64 ((k : Nat) : Int)))], [(5005, .flat (.ints .i64 sums))]⟩) _ ⟨0, 0, 0, ⟨(by omega), (by rfl), (by rfl), rfl⟩, (by kernel_rfl)⟩ ?_
      rintro κ _ ⟨k, r, c, ⟨hk, hr, hc, rfl⟩, rfl⟩
      refine awp_run_seq [0, 5, 6, 7, 8, 16, 17, 21, 22, 23] [5005] [] ⟨66, [(0, .one (.rs (.rows t))), (5, .one (.rw 5005 0 sums.length)), (6, .one (.int .i64 ((i : Nat) : Int))), (7, .one (.int .i64 r)), (8, .one (.int .i64 c)), (16, .one (.int .i64 ((t.length : Nat) : Int))), (17, .one (.int .i64 ((i : Nat) : Int))), (21, .one (.int .i64 ((t.length : Nat) : Int))), (22, .one (.int .i64 ((k : Nat) : Int))), (23, .one (.bool (decide (((k : Nat) : Int) < ((t.length : Nat) : Int)))))], [(5005, .flat (.ints .i64 sums))]⟩ hT (by kernel_rfl) trivial ?_
      refine awp_seq ?_
      refine awp_cond (b := (decide (((k : Nat) : Int) < ((t.length : Nat) : Int)))) (by kernel_rfl) (fun c10 => ?_) (fun c10 => ?_)
      · -- yes 10
        try simp only [bs] at c10
        have hkl : k < t.length := by omega
        have hrk := hT0.sq.row k hkl
        have hb1 := hT0.rowb (k := k) hil (by omega)
        have hb2 := hT0.colb (k := k) hil (by omega)
        have hb3 := hT0.at_ i k hil hkl
        have hb4 := hT0.at_ k i hkl hil
        unfold at2 at hb3 hb4
        refine awp_skip ?_
        refine awp_seq ?_
        refine awp_block ?_
        refine awp_run_seq [0, 5, 6, 7, 8, 9, 16, 17, 21, 22] [5005] [] ⟨66, [(0, .one (.rs (.rows t))), (5, .one (.rw 5005 0 sums.length)), (6, .one (.int .i64 ((i : Nat) : Int))), (7, .one (.int .i64 r)), (8, .one (.int .i64 c)), (9, .one (.int .i64 ((k : Nat) : Int))), (16, .one (.int .i64 ((t.length : Nat) : Int))), (17, .one (.int .i64 ((i : Nat) : Int))), (21, .one (.int .i64 ((t.length : Nat) : Int))), (22, .one (.int .i64 ((k : Nat) : Int)))], [(5005, .flat (.ints .i64 sums))]⟩ hT (by kernel_rfl) trivial ?_
        refine awp_still [0, 5, 6, 7, 8, 16, 17, 21, 22] [5005] [((0 : Int) ≤ ((i : Nat) : Int)), (((i : Nat) : Int) < ((t.length : Nat) : Int)), ((0 : Int) ≤ ((k : Nat) : Int)), (((k : Nat) : Int) < (((List.length (List.getD t i [])) : Nat) : Int)), (-9223372036854775808 ≤ (r + (List.getD (List.getD t i []) k 0)) ∧ (r + (List.getD (List.getD t i []) k 0)) ≤ 9223372036854775807), ((0 : Int) ≤ ((k : Nat) : Int)), (((k : Nat) : Int) < ((t.length : Nat) : Int)), ((0 : Int) ≤ ((i : Nat) : Int)), (((i : Nat) : Int) < (((List.length (List.getD t k [])) : Nat) : Int)), (-9223372036854775808 ≤ (c + (List.getD (List.getD t k []) i 0)) ∧ (c + (List.getD (List.getD t k []) i 0)) ≤ 9223372036854775807)] ⟨66, [(0, .one (.rs (.rows t))), (5, .one (.rw 5005 0 sums.length)), (6, .one (.int .i64 ((i : Nat) : Int))), (7, .one (.int .i64 (r + (List.getD (List.getD t i []) k 0)))), (8, .one (.int .i64 (c + (List.getD (List.getD t k []) i 0)))), (16, .one (.int .i64 ((t.length : Nat) : Int))), (17, .one (.int .i64 ((i : Nat) : Int))), (21, .one (.int .i64 ((t.length : Nat) : Int))), (22, .one (.int .i64 ((k : Nat) : Int)))], [(5005, .flat (.ints .i64 sums))]⟩ (by kernel_rfl) (by kernel_rfl) hT (by kernel_rfl) ⟨(by first | omega | (simp only [lens]; omega) | (simp only [Bool.cond_decide]; omega) | (simp only [nadd_eq]; omega)), (by first | omega | (simp only [lens]; omega) | (simp only [Bool.cond_decide]; omega) | (simp only [nadd_eq]; omega)), (by first | omega | (simp only [lens]; omega) | (simp only [Bool.cond_decide]; omega) | (simp only [nadd_eq]; omega)), (by first | omega | (simp only [lens]; omega) | (simp only [Bool.cond_decide]; omega) | (simp only [nadd_eq]; omega)), (by first | omega | (simp only [lens]; omega) | (simp only [Bool.cond_decide]; omega) | (simp only [nadd_eq]; omega)), (by first | omega | (simp only [lens]; omega) | (simp only [Bool.cond_decide]; omega) | (simp only [nadd_eq]; omega)), (by first | omega | (simp only [lens]; omega) | (simp only [Bool.cond_decide]; omega) | (simp only [nadd_eq]; omega)), (by first | omega | (simp only [lens]; omega) | (simp only [Bool.cond_decide]; omega) | (simp only [nadd_eq]; omega)), (by first | omega | (simp only [lens]; omega) | (simp only [Bool.cond_decide]; omega) | (simp only [nadd_eq]; omega)), (by first | omega | (simp only [lens]; omega) | (simp only [Bool.cond_decide]; omega) | (simp only [nadd_eq]; omega)), trivial⟩ ?_
        refine awp_run [0, 5, 6, 7, 8, 16, 17, 21, 22] [5005] [(-9223372036854775808 ≤ (((k + 1) : Nat) : Int) ∧ (((k + 1) : Nat) : Int) ≤ 9223372036854775807)] ⟨66, [(0, .one (.rs (.rows t))), (5, .one (.rw 5005 0 sums.length)), (6, .one (.int .i64 ((i : Nat) : Int))), (7, .one (.int .i64 (r + (List.getD (List.getD t i []) k 0)))), (8, .one (.int .i64 (c + (List.getD (List.getD t k []) i 0)))), (16, .one (.int .i64 ((t.length : Nat) : Int))), (17, .one (.int .i64 ((i : Nat) : Int))), (21, .one (.int .i64 ((t.length : Nat) : Int))), (22, .one (.int .i64 (((k + 1) : Nat) : Int)))], [(5005, .flat (.ints .i64 sums))]⟩ hT (by kernel_rfl) ⟨(by first | omega | (simp only [lens]; omega) | (simp only [Bool.cond_decide]; omega) | (simp only [nadd_eq]; omega)), trivial⟩ ?_
        refine loop_end _ ?_ ⟨(k + 1), (r + (List.getD (List.getD t i []) k 0)), (c + (List.getD (List.getD t k []) i 0)), ⟨(by omega), (by rw [hr]; rfl), (by rw [hc]; rfl), rfl⟩, (by kernel_rfl)⟩
        omega
      · -- no 10
        try simp only [bs] at c10
        have hrw : r = rowS t t.length i := by rw [hr, show k = t.length by omega]; rfl
        have hcw : c = colS t t.length i := by rw [hc, show k = t.length by omega]; rfl
        refine awp_exit ?_
        refine awp_run [0, 5, 16, 17] [5005] [(sums.length = sums.length), ((sums.length + 2) * 8 ≤ 140737488355328), ((sums.length + 2) ≤ 9223372036854775807)] ⟨66, [(0, .one (.rs (.rows t))), (5, .one (.rw 5005 0 (sums.length + 2))), (16, .one (.int .i64 ((t.length : Nat) : Int))), (17, .one (.int .i64 ((i : Nat) : Int)))], [(5005, .flat (.ints .i64 (sums ++ [r, c])))]⟩ hT (by kernel_rfl) ⟨(by first | omega | (simp only [lens]; omega) | (simp only [Bool.cond_decide]; omega) | (simp only [nadd_eq]; omega)), (by first | omega | (simp only [lens]; omega) | (simp only [Bool.cond_decide]; omega) | (simp only [nadd_eq]; omega)), (by first | omega | (simp only [lens]; omega) | (simp only [Bool.cond_decide]; omega) | (simp only [nadd_eq]; omega)), trivial⟩ ?_
        refine awp_run [0, 5, 16, 17] [5005] [(-9223372036854775808 ≤ (((i + 1) : Nat) : Int) ∧ (((i + 1) : Nat) : Int) ≤ 9223372036854775807)] ⟨66, [(0, .one (.rs (.rows t))), (5, .one (.rw 5005 0 (sums.length + 2))), (16, .one (.int .i64 ((t.length : Nat) : Int))), (17, .one (.int .i64 (((i + 1) : Nat) : Int)))], [(5005, .flat (.ints .i64 (sums ++ [r, c])))]⟩ hT (by kernel_rfl) ⟨(by first | omega | (simp only [lens]; omega) | (simp only [Bool.cond_decide]; omega) | (simp only [nadd_eq]; omega)), trivial⟩ ?_
        refine loop_end _ ?_ ⟨(i + 1), (sums ++ [r, c]), ⟨(by omega), (by rw [hs, hrw, hcw]; rfl), rfl⟩, (by first | (simp only [lens]; done) | (simp only [Nat.zero_add]; done) | simp only [lens, Nat.zero_add])⟩
        omega
    · -- no 6
      try simp only [bs] at c6
      have hse : sums = sumsTo t t.length := by rw [hs, show i = t.length by omega]
      have hsl2 : sums.length = 2 * t.length := by rw [hse, sumsTo_len]
      have hz : t.length = 0 → evenB t = true := fun z => by unfold evenB; rw [z]; rfl
      refine awp_exit ?_
      refine awp_seq ?_
      refine awp_seq (awp_region ?_)
      refine aops_run 5 [5, 53, 54] [5005] [] ⟨66, [(5, .one (.rw 5005 0 sums.length)), (53, .one (.bool (decide ((0 : Int) < ((sums.length : Nat) : Int))))), (54, .whn (decide ((0 : Int) < ((sums.length : Nat) : Int))) (.one (.rw 5005 0 sums.length)))], [(5005, .flat (.ints .i64 sums))]⟩ hT (by kernel_rfl) (by kernel_rfl) trivial ?_
      refine aops_pure true ⟨(decide ((0 : Int) < ((sums.length : Nat) : Int))), [((decide ((0 : Int) < ((sums.length : Nat) : Int))) = true → (decide ((0 : Int) < ((sums.length : Nat) : Int))) = true)], 56, [.one (.ro (.ints .i64 (List.take sums.length sums)))], []⟩ [.one (.ro (.ints .i64 sums))] (.one (.int .i64 (minOf sums))) ⟨66, [(5, .one (.rw 5005 0 sums.length)), (53, .one (.bool (decide ((0 : Int) < ((sums.length : Nat) : Int))))), (54, .whn (decide ((0 : Int) < ((sums.length : Nat) : Int))) (.one (.rw 5005 0 sums.length))), (55, .whn (decide ((0 : Int) < ((sums.length : Nat) : Int))) (.one (.int .i64 (minOf sums))))], [(5005, .flat (.ints .i64 sums))]⟩ (by kernel_rfl) (by kernel_rfl) (fun _ => ⟨(fun h => h), trivial⟩) (by rw [show (List.take sums.length sums) = sums from List.take_of_length_le (by first | omega | simp)]) (fun hg => min_ints sums (by intro q; rw [q] at hg; simp at hg)) ?_
      refine aops_run 1 [5, 53, 55, 56] [5005] [] ⟨66, [(5, .one (.rw 5005 0 sums.length)), (53, .one (.bool (decide ((0 : Int) < ((sums.length : Nat) : Int))))), (55, .whn (decide ((0 : Int) < ((sums.length : Nat) : Int))) (.one (.int .i64 (minOf sums)))), (56, .whn (decide ((0 : Int) < ((sums.length : Nat) : Int))) (.one (.rw 5005 0 sums.length)))], [(5005, .flat (.ints .i64 sums))]⟩ hT (by kernel_rfl) (by kernel_rfl) trivial ?_
      refine aops_pure true ⟨(decide ((0 : Int) < ((sums.length : Nat) : Int))), [((decide ((0 : Int) < ((sums.length : Nat) : Int))) = true → (decide ((0 : Int) < ((sums.length : Nat) : Int))) = true)], 67, [.one (.ro (.ints .i64 (List.take sums.length sums)))], []⟩ [.one (.ro (.ints .i64 sums))] (.one (.int .i64 (maxL sums))) ⟨66, [(5, .one (.rw 5005 0 sums.length)), (53, .one (.bool (decide ((0 : Int) < ((sums.length : Nat) : Int))))), (55, .whn (decide ((0 : Int) < ((sums.length : Nat) : Int))) (.one (.int .i64 (minOf sums)))), (56, .whn (decide ((0 : Int) < ((sums.length : Nat) : Int))) (.one (.rw 5005 0 sums.length))), (57, .whn (decide ((0 : Int) < ((sums.length : Nat) : Int))) (.one (.int .i64 (maxL sums))))], [(5005, .flat (.ints .i64 sums))]⟩ (by kernel_rfl) (by kernel_rfl) (fun _ => ⟨(fun h => h), trivial⟩) (by rw [show (List.take sums.length sums) = sums from List.take_of_length_le (by first | omega | simp)]) (fun hg => max_ints sums (by have := hg; simp only [decide_eq_true_eq] at this; omega)) ?_
      refine aops_run 2 [5, 59] [5005] [((decide ((0 : Int) < ((sums.length : Nat) : Int))) = true → ((decide ((0 : Int) < ((sums.length : Nat) : Int))) = true → (decide ((0 : Int) < ((sums.length : Nat) : Int))) = true)), ((decide ((0 : Int) < ((sums.length : Nat) : Int))) = true → ((decide ((0 : Int) < ((sums.length : Nat) : Int))) = true → (decide ((0 : Int) < ((sums.length : Nat) : Int))) = true)), ((decide ((0 : Int) < ((sums.length : Nat) : Int))) = true → (decide ((0 : Int) < ((sums.length : Nat) : Int))) = true)] ⟨66, [(5, .one (.rw 5005 0 sums.length)), (59, .one (.bool ((decide ((0 : Int) < ((sums.length : Nat) : Int))) && (decide ((minOf sums) ≠ (maxL sums))))))], [(5005, .flat (.ints .i64 sums))]⟩ hT (by kernel_rfl) (by kernel_rfl) ⟨(by intro hg; first | exact hg | skip; (try simp only [bs] at hg ⊢); first | exact hg | first | omega | (simp only [lens]; omega) | (simp only [Bool.cond_decide]; omega) | (simp only [nadd_eq]; omega) | grind), (by intro hg; first | exact hg | skip; (try simp only [bs] at hg ⊢); first | exact hg | first | omega | (simp only [lens]; omega) | (simp only [Bool.cond_decide]; omega) | (simp only [nadd_eq]; omega) | grind), (fun h => h), trivial⟩ ?_
      refine aops_end_seq (by kernel_rfl) ?_
      refine awp_cond (b := ((decide ((0 : Int) < ((sums.length : Nat) : Int))) && (decide ((minOf sums) ≠ (maxL sums))))) (by kernel_rfl) (fun c16 => ?_) (fun c16 => ?_)
      · -- yes 16
        try simp only [bs] at c16
        have hS : (sumE t) = 8 := by
          have hne : ¬ evenB t = true := fun q => by
            have h9 := (sums_even (t := t) (by omega)).2 q
            rw [← hse] at h9
            exact c16.2 h9
          rw [sumE, if_neg (by omega), if_neg hne]
        have hV : (sumV t) = 0 := by rw [sumV, if_neg (by omega)]
        refine awp_run_seq [2, 3] [] [] ⟨66, [(2, .one (.int .i64 0)), (3, .one (.int .i64 8))], []⟩ hT (by kernel_rfl) trivial ?_
        refine awp_ret ?_
        refine kRet.ret _ [] [] (.tup [(false, [(.int .i64 0)]), (false, [(.int .i64 8)])]) [] (by kernel_rfl) trivial ?_
        exact ⟨by first | rw [show (sumV t) = 0 from Eq.symm (by exact hV.symm), show (sumE t) = 8 from Eq.symm (by exact hS.symm)] | rw [show (sumV t) = 0 from Eq.symm (by exact hV.symm)] | rw [show (sumE t) = 8 from Eq.symm (by exact hS.symm)], rfl⟩
      · -- no 16
        try simp only [bs] at c16
        have hS : (sumE t) = 0 := by
          have hev : evenB t = true := by
            rcases Nat.eq_zero_or_pos t.length with z | z
            · exact hz z
            · refine (sums_even z).1 ?_
              rw [← hse]
              rcases c16 with q | q
              · omega
              · first | exact q | exact Classical.byContradiction q
          rw [sumE, if_neg (by omega), if_pos hev]
        have hV : (sumV t) = rowS t t.length 0 := by rw [sumV, if_pos hS]
        refine awp_skip ?_
        refine awp_seq ?_
        refine awp_run_seq [5, 62] [5005] [] ⟨66, [(5, .one (.rw 5005 0 sums.length)), (62, .one (.bool (decide (((sums.length : Nat) : Int) = 0))))], [(5005, .flat (.ints .i64 sums))]⟩ hT (by kernel_rfl) trivial ?_
        refine awp_cond (b := (decide (((sums.length : Nat) : Int) = 0))) (by kernel_rfl) (fun c18 => ?_) (fun c18 => ?_)
        · -- yes 18
          try simp only [bs] at c18
          refine awp_run_seq [2, 3] [] [] ⟨66, [(2, .one (.int .i64 0)), (3, .one (.int .i64 0))], []⟩ hT (by kernel_rfl) trivial ?_
          refine awp_ret ?_
          refine kRet.ret _ [] [] (.tup [(false, [(.int .i64 0)]), (false, [(.int .i64 0)])]) [] (by kernel_rfl) trivial ?_
          exact ⟨by first | rw [show (sumV t) = 0 from Eq.symm (by rw [hV]; unfold rowS; rw [show t.length = 0 by omega]; rfl), show (sumE t) = 0 from Eq.symm (by exact hS.symm)] | rw [show (sumV t) = 0 from Eq.symm (by rw [hV]; unfold rowS; rw [show t.length = 0 by omega]; rfl)] | rw [show (sumE t) = 0 from Eq.symm (by exact hS.symm)], rfl⟩
        · -- no 18
          try simp only [bs] at c18
          refine awp_skip ?_
          refine awp_run_seq [2, 3] [] [((0 : Int) ≤ (0 : Int)), ((0 : Int) < ((sums.length : Nat) : Int)), (0 < sums.length)] ⟨66, [(2, .one (.int .i64 (List.getD sums 0 0))), (3, .one (.int .i64 0))], []⟩ hT (by kernel_rfl) ⟨(by first | omega | (simp only [lens]; omega) | (simp only [Bool.cond_decide]; omega) | (simp only [nadd_eq]; omega)), (by first | omega | (simp only [lens]; omega) | (simp only [Bool.cond_decide]; omega) | (simp only [nadd_eq]; omega)), (by first | omega | (simp only [lens]; omega) | (simp only [Bool.cond_decide]; omega) | (simp only [nadd_eq]; omega)), trivial⟩ ?_
          refine awp_ret ?_
          refine kRet.ret _ [] [] (.tup [(false, [(.int .i64 (List.getD sums 0 0))]), (false, [(.int .i64 0)])]) [] (by kernel_rfl) trivial ?_
          exact ⟨by first | rw [show (sumV t) = (List.getD sums 0 0) from Eq.symm (by rw [hV, hse]; exact sums_first (by omega)), show (sumE t) = 0 from Eq.symm (by exact hS.symm)] | rw [show (sumV t) = (List.getD sums 0 0) from Eq.symm (by rw [hV, hse]; exact sums_first (by omega))] | rw [show (sumE t) = 0 from Eq.symm (by exact hS.symm)], rfl⟩

end Go.Ab
