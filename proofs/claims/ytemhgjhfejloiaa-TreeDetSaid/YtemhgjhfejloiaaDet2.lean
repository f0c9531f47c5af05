/- Of a determinant: Det. -/
import Derived.Test.YtemhgjhfejloiaaTab
import Derived.Test.YtemhgjhfejloiaaDet1
import Derived.Test.YtemhgjhfejloiaaF2
import Derived.Test.YtemhgjhfejloiaaPlDet3
set_option maxRecDepth 100000
namespace Go.Ab
open Go Go.Proofs
theorem tree_Det (m : List (List Int)) : ACall Try.prog 15 [.one (.rs (.rows m))] [] (fun ov oh => ov = .tup [(false, [(.int .i64 (detVal m))]), (false, [(.int .i64 (detErr m))])] ∧ oh = []) := by
  refine acall_intro hT Try.func15 rfl (by kernel_rfl) rfl (by kernel_rfl) ?_
  refine awp_run_seq [0] [] [] ⟨48, [(0, .one (.rs (.rows m)))], []⟩ hT (by kernel_rfl) trivial ?_
  refine awp_run_seq [0, 4] [] [] ⟨48, [(0, .one (.rs (.rows m))), (4, .one (.int .i64 ((m.length : Nat) : Int)))], []⟩ hT (by kernel_rfl) trivial ?_
  refine awp_seq ?_
  refine awp_run_seq [0, 4, 13] [] [] ⟨48, [(0, .one (.rs (.rows m))), (4, .one (.int .i64 ((m.length : Nat) : Int))), (13, .one (.bool (decide ((7 : Int) < ((m.length : Nat) : Int)))))], []⟩ hT (by kernel_rfl) trivial ?_
  refine awp_cond (b := (decide ((7 : Int) < ((m.length : Nat) : Int)))) (by kernel_rfl) (fun c2 => ?_) (fun c2 => ?_)
  · -- yes 2
    try simp only [bs] at c2
    refine awp_run_seq [2, 3] [] [] ⟨48, [(2, .one (.int .i64 0)), (3, .one (.int .i64 2))], []⟩ hT (by kernel_rfl) trivial ?_
    refine awp_ret ?_
    refine kRet.ret _ [] [] (.tup [(false, [(.int .i64 0)]), (false, [(.int .i64 2)])]) [] (by kernel_rfl) trivial ?_
    exact ⟨by first | rw [show (detVal m) = 0 from Eq.symm (by exact detVal_bad (e := 2) (by rw [detErr, if_pos (by omega)]) (by decide)), show (detErr m) = 2 from Eq.symm (by rw [detErr, if_pos (by omega)])] | rw [show (detVal m) = 0 from Eq.symm (by exact detVal_bad (e := 2) (by rw [detErr, if_pos (by omega)]) (by decide))] | rw [show (detErr m) = 2 from Eq.symm (by rw [detErr, if_pos (by omega)])], rfl⟩
  · -- no 2
    try simp only [bs] at c2
    have h7 : m.length ≤ 7 := by omega
    refine awp_skip ?_
    refine awp_run_seq [0, 4, 5] [115] [((0 : Int) ≤ ((m.length : Nat) : Int)), (((m.length : Nat) : Int) ≤ ((m.length : Nat) : Int)), ((24 : Int) * ((m.length : Nat) : Int) ≤ 281474976710656), (((m.length : Nat) : Int) ≤ 9223372036854775807)] ⟨48, [(0, .one (.rs (.rows m))), (4, .one (.int .i64 ((m.length : Nat) : Int))), (5, .one (.rw 115 0 m.length))], [(115, .recs (.rows (List.replicate m.length ([] : List Int))))]⟩ hT (by kernel_rfl) ⟨(by first | omega | (simp only [lens]; omega) | (simp only [Bool.cond_decide]; omega) | (simp only [nadd_eq]; omega)), (by first | omega | (simp only [lens]; omega) | (simp only [Bool.cond_decide]; omega) | (simp only [nadd_eq]; omega)), (by first | omega | (simp only [lens]; omega) | (simp only [Bool.cond_decide]; omega) | (simp only [nadd_eq]; omega)), (by first | omega | (simp only [lens]; omega) | (simp only [Bool.cond_decide]; omega) | (simp only [nadd_eq]; omega)), trivial⟩ ?_
    refine awp_seq ?_
    refine awp_run_seq [4, 5, 16, 17, 18] [115] [] ⟨48, [(4, .one (.int .i64 ((m.length : Nat) : Int))), (5, .one (.rw 115 0 m.length)), (16, .one (.rs (.rows m))), (17, .one (.int .i64 ((m.length : Nat) : Int))), (18, .one (.int .i64 0))], [(115, .recs (.rows (List.replicate m.length ([] : List Int))))]⟩ hT (by kernel_rfl) trivial ?_
    refine awp_block ?_
    refine awp_weak (awk_mat 115 (List.replicate m.length ([] : List Int)) _ (by kernel_rfl) (fun _ => rows_nil _ _)) ?_
    refine awp_loop (I := fun κ σ => ∃ (i : Nat) (Atab : List (List Int)), ((i ≤ m.length) ∧ (rowsE m.length (m.drop i) = rowsE m.length m) ∧ (Atab.length = m.length) ∧ (∀ r, r < i → Atab.getD r [] = m.getD r []) ∧ m.length - i = κ) ∧ σ = ⟨48, [(4, .one (.int .i64 ((m.length : Nat) : Int))), (5, .one (.rw 115 0 m.length)), (16, .one (.rs (.rows m))), (17, .one (.int .i64 ((m.length : Nat) : Int))), (18, .one (.int .i64 ((i : Nat) : Int)))], [(115, .mat 115 Atab)]⟩) _ ⟨0, (List.replicate m.length ([] : List Int)), ⟨(by omega), (by rfl), (by exact List.length_replicate), (by intro r hr; omega), rfl⟩, (by kernel_rfl)⟩ ?_
    rintro κ _ ⟨i, Atab, ⟨hi, hq, hAl, hAr, rfl⟩, rfl⟩
    refine awp_run_seq [4, 5, 16, 17, 18, 19] [115] [] ⟨48, [(4, .one (.int .i64 ((m.length : Nat) : Int))), (5, .one (.rw 115 0 m.length)), (16, .one (.rs (.rows m))), (17, .one (.int .i64 ((m.length : Nat) : Int))), (18, .one (.int .i64 ((i : Nat) : Int))), (19, .one (.bool (decide (((i : Nat) : Int) < ((m.length : Nat) : Int)))))], [(115, .mat 115 Atab)]⟩ hT (by kernel_rfl) trivial ?_
    refine awp_seq ?_
    refine awp_cond (b := (decide (((i : Nat) : Int) < ((m.length : Nat) : Int)))) (by kernel_rfl) (fun c6 => ?_) (fun c6 => ?_)
    · -- yes 6
      try simp only [bs] at c6
      have him : i < m.length := by omega
      refine awp_skip ?_
      refine awp_seq ?_
      refine awp_block ?_
      refine awp_run_seq [4, 5, 6, 7, 16, 17, 18] [115] [((0 : Int) ≤ ((i : Nat) : Int)), (((i : Nat) : Int) < ((m.length : Nat) : Int))] ⟨48, [(4, .one (.int .i64 ((m.length : Nat) : Int))), (5, .one (.rw 115 0 m.length)), (6, .one (.int .i64 ((i : Nat) : Int))), (7, .one (.ro (.ints .i64 (List.getD m i [])))), (16, .one (.rs (.rows m))), (17, .one (.int .i64 ((m.length : Nat) : Int))), (18, .one (.int .i64 ((i : Nat) : Int)))], [(115, .mat 115 Atab)]⟩ hT (by kernel_rfl) ⟨(by first | omega | (simp only [lens]; omega) | (simp only [Bool.cond_decide]; omega) | (simp only [nadd_eq]; omega)), (by first | omega | (simp only [lens]; omega) | (simp only [Bool.cond_decide]; omega) | (simp only [nadd_eq]; omega)), trivial⟩ ?_
      refine awp_seq ?_
      refine awp_run_seq [4, 5, 6, 7, 16, 17, 18, 26] [115] [] ⟨48, [(4, .one (.int .i64 ((m.length : Nat) : Int))), (5, .one (.rw 115 0 m.length)), (6, .one (.int .i64 ((i : Nat) : Int))), (7, .one (.ro (.ints .i64 (List.getD m i [])))), (16, .one (.rs (.rows m))), (17, .one (.int .i64 ((m.length : Nat) : Int))), (18, .one (.int .i64 ((i : Nat) : Int))), (26, .one (.bool (decide ((((List.length (List.getD m i [])) : Nat) : Int) ≠ ((m.length : Nat) : Int)))))], [(115, .mat 115 Atab)]⟩ hT (by kernel_rfl) trivial ?_
      refine awp_cond (b := (decide ((((List.length (List.getD m i [])) : Nat) : Int) ≠ ((m.length : Nat) : Int)))) (by kernel_rfl) (fun c8 => ?_) (fun c8 => ?_)
      · -- yes 8
        try simp only [bs] at c8
        refine awp_run_seq [2, 3] [] [] ⟨48, [(2, .one (.int .i64 0)), (3, .one (.int .i64 3))], []⟩ hT (by kernel_rfl) trivial ?_
        refine awp_ret ?_
        refine kRet.ret _ [] [] (.tup [(false, [(.int .i64 0)]), (false, [(.int .i64 3)])]) [] (by kernel_rfl) trivial ?_
        exact ⟨by first | rw [show (detVal m) = 0 from Eq.symm (by exact detVal_bad (e := 3) (by rw [detErr, if_neg (by omega), ← hq, rowsE_drop (i := i) (by omega), if_pos (by omega)]) (by decide)), show (detErr m) = 3 from Eq.symm (by rw [detErr, if_neg (by omega), ← hq, rowsE_drop (i := i) (by omega), if_pos (by omega)])] | rw [show (detVal m) = 0 from Eq.symm (by exact detVal_bad (e := 3) (by rw [detErr, if_neg (by omega), ← hq, rowsE_drop (i := i) (by omega), if_pos (by omega)]) (by decide))] | rw [show (detErr m) = 3 from Eq.symm (by rw [detErr, if_neg (by omega), ← hq, rowsE_drop (i := i) (by omega), if_pos (by omega)])], rfl⟩
      · -- no 8
        try simp only [bs] at c8
        have hrl : (m.getD i []).length = m.length := by omega
        refine awp_skip ?_
        refine awp_seq ?_
        refine awp_run_seq [4, 5, 6, 7, 16, 17, 18, 27, 28, 29] [115] [] ⟨48, [(4, .one (.int .i64 ((m.length : Nat) : Int))), (5, .one (.rw 115 0 m.length)), (6, .one (.int .i64 ((i : Nat) : Int))), (7, .one (.ro (.ints .i64 (List.getD m i [])))), (16, .one (.rs (.rows m))), (17, .one (.int .i64 ((m.length : Nat) : Int))), (18, .one (.int .i64 ((i : Nat) : Int))), (27, .one (.ro (.ints .i64 (List.getD m i [])))), (28, .one (.int .i64 (((List.length (List.getD m i [])) : Nat) : Int))), (29, .one (.int .i64 0))], [(115, .mat 115 Atab)]⟩ hT (by kernel_rfl) trivial ?_
        refine awp_block ?_
        refine awp_loop (I := fun κ σ => ∃ (j : Nat), ((j ≤ (m.getD i []).length) ∧ (∀ j2, j2 < j → badE ((m.getD i []).getD j2 0) = false) ∧ (m.getD i []).length - j = κ) ∧ σ = ⟨48, [(4, .one (.int .i64 ((m.length : Nat) : Int))), (5, .one (.rw 115 0 m.length)), (6, .one (.int .i64 ((i : Nat) : Int))), (7, .one (.ro (.ints .i64 (List.getD m i [])))), (16, .one (.rs (.rows m))), (17, .one (.int .i64 ((m.length : Nat) : Int))), (18, .one (.int .i64 ((i : Nat) : Int))), (27, .one (.ro (.ints .i64 (List.getD m i [])))), (28, .one (.int .i64 (((List.length (List.getD m i [])) : Nat) : Int))), (29, .one (.int .i64 ((j : Nat) : Int)))], [(115, .mat 115 Atab)]⟩) _ ⟨0, ⟨(by omega), (by intro j2 hj2; omega), rfl⟩, (by kernel_rfl)⟩ ?_
        rintro κ _ ⟨j, ⟨hj, hj1, rfl⟩, rfl⟩
        refine awp_run_seq [4, 5, 6, 7, 16, 17, 18, 27, 28, 29, 30] [115] [] ⟨48, [(4, .one (.int .i64 ((m.length : Nat) : Int))), (5, .one (.rw 115 0 m.length)), (6, .one (.int .i64 ((i : Nat) : Int))), (7, .one (.ro (.ints .i64 (List.getD m i [])))), (16, .one (.rs (.rows m))), (17, .one (.int .i64 ((m.length : Nat) : Int))), (18, .one (.int .i64 ((i : Nat) : Int))), (27, .one (.ro (.ints .i64 (List.getD m i [])))), (28, .one (.int .i64 (((List.length (List.getD m i [])) : Nat) : Int))), (29, .one (.int .i64 ((j : Nat) : Int))), (30, .one (.bool (decide (((j : Nat) : Int) < (((List.length (List.getD m i [])) : Nat) : Int)))))], [(115, .mat 115 Atab)]⟩ hT (by kernel_rfl) trivial ?_
        refine awp_seq ?_
        refine awp_cond (b := (decide (((j : Nat) : Int) < (((List.length (List.getD m i [])) : Nat) : Int)))) (by kernel_rfl) (fun c11 => ?_) (fun c11 => ?_)
        · -- yes 11
          try simp only [bs] at c11
          refine awp_skip ?_
          refine awp_seq ?_
          refine awp_block ?_
          refine awp_run_seq [4, 5, 6, 7, 9, 16, 17, 18, 27, 28, 29] [115] [((0 : Int) ≤ ((j : Nat) : Int)), (((j : Nat) : Int) < (((List.length (List.getD m i [])) : Nat) : Int))] ⟨48, [(4, .one (.int .i64 ((m.length : Nat) : Int))), (5, .one (.rw 115 0 m.length)), (6, .one (.int .i64 ((i : Nat) : Int))), (7, .one (.ro (.ints .i64 (List.getD m i [])))), (9, .one (.int .i64 (List.getD (List.getD m i []) j 0))), (16, .one (.rs (.rows m))), (17, .one (.int .i64 ((m.length : Nat) : Int))), (18, .one (.int .i64 ((i : Nat) : Int))), (27, .one (.ro (.ints .i64 (List.getD m i [])))), (28, .one (.int .i64 (((List.length (List.getD m i [])) : Nat) : Int))), (29, .one (.int .i64 ((j : Nat) : Int)))], [(115, .mat 115 Atab)]⟩ hT (by kernel_rfl) ⟨(by first | omega | (simp only [lens]; omega) | (simp only [Bool.cond_decide]; omega) | (simp only [nadd_eq]; omega)), (by first | omega | (simp only [lens]; omega) | (simp only [Bool.cond_decide]; omega) | (simp only [nadd_eq]; omega)), trivial⟩ ?_
          refine awp_run_seq [4, 5, 6, 7, 16, 17, 18, 27, 28, 29, 38] [115] [((!(decide ((List.getD (List.getD m i []) j 0) < (-9)))) = true → ((!(decide ((List.getD (List.getD m i []) j 0) < (-9)))) = true → (!(decide ((List.getD (List.getD m i []) j 0) < (-9)))) = true)), ((!(decide ((List.getD (List.getD m i []) j 0) < (-9)))) = true → (!(decide ((List.getD (List.getD m i []) j 0) < (-9)))) = true)] ⟨48, [(4, .one (.int .i64 ((m.length : Nat) : Int))), (5, .one (.rw 115 0 m.length)), (6, .one (.int .i64 ((i : Nat) : Int))), (7, .one (.ro (.ints .i64 (List.getD m i [])))), (16, .one (.rs (.rows m))), (17, .one (.int .i64 ((m.length : Nat) : Int))), (18, .one (.int .i64 ((i : Nat) : Int))), (27, .one (.ro (.ints .i64 (List.getD m i [])))), (28, .one (.int .i64 (((List.length (List.getD m i [])) : Nat) : Int))), (29, .one (.int .i64 ((j : Nat) : Int))), (38, .one (.bool ((decide ((List.getD (List.getD m i []) j 0) < (-9))) || (decide ((9 : Int) < (List.getD (List.getD m i []) j 0))))))], [(115, .mat 115 Atab)]⟩ hT (by kernel_rfl) ⟨(by intro hg; first | exact hg | skip; (try simp only [bs] at hg ⊢); first | exact hg | first | omega | (simp only [lens]; omega) | (simp only [Bool.cond_decide]; omega) | (simp only [nadd_eq]; omega) | grind), (fun h => h), trivial⟩ ?_
          refine awp_cond (b := ((decide ((List.getD (List.getD m i []) j 0) < (-9))) || (decide ((9 : Int) < (List.getD (List.getD m i []) j 0))))) (by kernel_rfl) (fun c13 => ?_) (fun c13 => ?_)
          · -- yes 13
            try simp only [bs] at c13
            have hyes : (m.getD i []).any badE = true := any_at (d := 0) (i := j) (by omega) (badE_iff.2 (by omega))
            refine awp_run_seq [2, 3] [] [] ⟨48, [(2, .one (.int .i64 0)), (3, .one (.int .i64 1))], []⟩ hT (by kernel_rfl) trivial ?_
            refine awp_ret ?_
            refine kRet.ret _ [] [] (.tup [(false, [(.int .i64 0)]), (false, [(.int .i64 1)])]) [] (by kernel_rfl) trivial ?_
            exact ⟨by first | rw [show (detVal m) = 0 from Eq.symm (by exact detVal_bad (e := 1) (by rw [detErr, if_neg (by omega), ← hq, rowsE_drop (i := i) (by omega), if_neg (by omega), if_pos hyes]) (by decide)), show (detErr m) = 1 from Eq.symm (by rw [detErr, if_neg (by omega), ← hq, rowsE_drop (i := i) (by omega), if_neg (by omega), if_pos hyes])] | rw [show (detVal m) = 0 from Eq.symm (by exact detVal_bad (e := 1) (by rw [detErr, if_neg (by omega), ← hq, rowsE_drop (i := i) (by omega), if_neg (by omega), if_pos hyes]) (by decide))] | rw [show (detErr m) = 1 from Eq.symm (by rw [detErr, if_neg (by omega), ← hq, rowsE_drop (i := i) (by omega), if_neg (by omega), if_pos hyes])], rfl⟩
          · -- no 13
            try simp only [bs] at c13
            have hob : badE ((m.getD i []).getD j 0) = false := badE_no (by omega)
            refine awp_skip ?_
            refine awp_run [4, 5, 6, 7, 16, 17, 18, 27, 28, 29] [115] [(-9223372036854775808 ≤ (((j + 1) : Nat) : Int) ∧ (((j + 1) : Nat) : Int) ≤ 9223372036854775807)] ⟨48, [(4, .one (.int .i64 ((m.length : Nat) : Int))), (5, .one (.rw 115 0 m.length)), (6, .one (.int .i64 ((i : Nat) : Int))), (7, .one (.ro (.ints .i64 (List.getD m i [])))), (16, .one (.rs (.rows m))), (17, .one (.int .i64 ((m.length : Nat) : Int))), (18, .one (.int .i64 ((i : Nat) : Int))), (27, .one (.ro (.ints .i64 (List.getD m i [])))), (28, .one (.int .i64 (((List.length (List.getD m i [])) : Nat) : Int))), (29, .one (.int .i64 (((j + 1) : Nat) : Int)))], [(115, .mat 115 Atab)]⟩ hT (by kernel_rfl) ⟨(by first | omega | (simp only [lens]; omega) | (simp only [Bool.cond_decide]; omega) | (simp only [nadd_eq]; omega)), trivial⟩ ?_
            refine loop_end _ ?_ ⟨(j + 1), ⟨(by omega), (by intro j2 hj2; rcases Nat.lt_succ_iff_lt_or_eq.1 hj2 with q | q; exact hj1 j2 q; subst q; exact hob), rfl⟩, (by kernel_rfl)⟩
            omega
        · -- no 11
          try simp only [bs] at c11
          have hno : (m.getD i []).any badE = false := any_none (d := 0) (fun j2 hj2 => hj1 j2 (by omega))
          refine awp_exit ?_
          refine awp_region ?_
          refine aops_run 3 [4, 5, 16, 17, 18, 40, 41, 42] [115] [] ⟨48, [(4, .one (.int .i64 ((m.length : Nat) : Int))), (5, .one (.rw 115 0 m.length)), (16, .one (.rs (.rows m))), (17, .one (.int .i64 ((m.length : Nat) : Int))), (18, .one (.int .i64 ((i : Nat) : Int))), (40, .one (.rw 115 0 m.length)), (41, .one (.int .i64 ((i : Nat) : Int))), (42, .one (.ro (.ints .i64 (List.getD m i []))))], [(115, .mat 115 Atab)]⟩ hT (by kernel_rfl) (by kernel_rfl) trivial ?_
          refine aops_call [] [(9001, 143)] false ⟨true, [], 81, [.one (.ro (.ints .i64 (List.getD m i [])))], []⟩ [.one (.ro (.ints .i64 (List.getD m i [])))] (sm := ⟨48, [(4, .one (.int .i64 ((m.length : Nat) : Int))), (5, .one (.rw 115 0 m.length)), (16, .one (.rs (.rows m))), (17, .one (.int .i64 ((m.length : Nat) : Int))), (18, .one (.int .i64 ((i : Nat) : Int))), (40, .one (.rw 115 0 m.length)), (41, .one (.int .i64 ((i : Nat) : Int))), (42, .one (.ro (.ints .i64 (List.getD m i [])))), (43, .whn false (.one .any))], [(115, .mat 115 Atab)]⟩) (by kernel_rfl) (by kernel_rfl) (by decide) (fun _ => trivial) rfl (fun _ => clone_ints (List.getD m i []) (by first | omega | (simp; omega))) (fun _ v Hr hv => ?_) (fun h => by cases h)
          obtain ⟨rfl, rfl⟩ := hv
          refine ⟨⟨48, [(4, .one (.int .i64 ((m.length : Nat) : Int))), (5, .one (.rw 115 0 m.length)), (16, .one (.rs (.rows m))), (17, .one (.int .i64 ((m.length : Nat) : Int))), (18, .one (.int .i64 ((i : Nat) : Int))), (40, .one (.rw 115 0 m.length)), (41, .one (.int .i64 ((i : Nat) : Int))), (42, .one (.ro (.ints .i64 (List.getD m i [])))), (43, .one (.rw 143 0 (List.length (List.getD m i []))))], [(115, .mat 115 Atab), (143, .flat (.ints .i64 (List.getD m i [])))]⟩, by kernel_rfl, ?_⟩
          refine aops_run 1 [4, 5, 16, 17, 18, 43, 44] [115, 143] [((0 : Int) ≤ ((i : Nat) : Int)), (((i : Nat) : Int) < ((m.length : Nat) : Int))] ⟨48, [(4, .one (.int .i64 ((m.length : Nat) : Int))), (5, .one (.rw 115 0 m.length)), (16, .one (.rs (.rows m))), (17, .one (.int .i64 ((m.length : Nat) : Int))), (18, .one (.int .i64 ((i : Nat) : Int))), (43, .one (.rw 143 0 (List.length (List.getD m i [])))), (44, .one (.ptr 115 i 0))], [(115, .mat 115 Atab), (143, .flat (.ints .i64 (List.getD m i [])))]⟩ hT (by kernel_rfl) (by kernel_rfl) ⟨(by first | omega | (simp only [lens]; omega) | (simp only [Bool.cond_decide]; omega) | (simp only [nadd_eq]; omega)), (by first | omega | (simp only [lens]; omega) | (simp only [Bool.cond_decide]; omega) | (simp only [nadd_eq]; omega)), trivial⟩ ?_
          refine aops_absorb (A := 115) (R := 143) (i := i) (n := (List.length (List.getD m i []))) (xss := Atab) (ys := (List.getD m i [])) hT rfl rfl rfl rfl (show T 26 = some _ from rfl) rfl (by kernel_rfl) (by kernel_rfl) rfl rfl rfl rfl (by first | omega | (simp only [lens]; omega) | (simp only [Bool.cond_decide]; omega) | (simp only [nadd_eq]; omega)) (by first | (simp; done) | first | omega | (simp only [lens]; omega) | (simp only [Bool.cond_decide]; omega) | (simp only [nadd_eq]; omega)) ?_
          refine aops_cut [4, 5, 16, 17, 18, 43, 44] [115] ⟨48, [(4, .one (.int .i64 ((m.length : Nat) : Int))), (5, .one (.rw 115 0 m.length)), (16, .one (.rs (.rows m))), (17, .one (.int .i64 ((m.length : Nat) : Int))), (18, .one (.int .i64 ((i : Nat) : Int))), (43, .one .any), (44, .one (.ptr 115 i 0))], [(115, .mat 115 (List.set Atab i (List.getD m i [])))]⟩ (by kernel_rfl) ?_
          refine aops_cut [4, 5, 16, 17, 18] [115] ⟨48, [(4, .one (.int .i64 ((m.length : Nat) : Int))), (5, .one (.rw 115 0 m.length)), (16, .one (.rs (.rows m))), (17, .one (.int .i64 ((m.length : Nat) : Int))), (18, .one (.int .i64 ((i : Nat) : Int)))], [(115, .mat 115 (List.set Atab i (List.getD m i [])))]⟩ (by kernel_rfl) ?_
          refine aops_end (by kernel_rfl) ?_
          refine awp_run [4, 5, 16, 17, 18] [115] [(-9223372036854775808 ≤ (((i + 1) : Nat) : Int) ∧ (((i + 1) : Nat) : Int) ≤ 9223372036854775807)] ⟨48, [(4, .one (.int .i64 ((m.length : Nat) : Int))), (5, .one (.rw 115 0 m.length)), (16, .one (.rs (.rows m))), (17, .one (.int .i64 ((m.length : Nat) : Int))), (18, .one (.int .i64 (((i + 1) : Nat) : Int)))], [(115, .mat 115 (List.set Atab i (List.getD m i [])))]⟩ hT (by kernel_rfl) ⟨(by first | omega | (simp only [lens]; omega) | (simp only [Bool.cond_decide]; omega) | (simp only [nadd_eq]; omega)), trivial⟩ ?_
          refine loop_end _ ?_ ⟨(i + 1), (List.set Atab i (List.getD m i [])), ⟨(by omega), (by rw [← hq, rowsE_drop (i := i) (by omega), if_neg (by omega), if_neg (by rw [hno]; decide)]), (by rw [List.length_set]; exact hAl), (by intro r hr; rcases Nat.lt_succ_iff_lt_or_eq.1 hr with q | q; rw [getD_set_ne _ _ _ _ _ (by omega)]; exact hAr r q; subst q; exact getD_set_self _ _ _ _ (by omega)), rfl⟩, (by kernel_rfl)⟩
          omega
    · -- no 6
      try simp only [bs] at c6
      have hAm : Atab = m := list_ext [] hAl (fun r hr => hAr r (by omega))
      have hE : detErr m = 0 := by rw [detErr, if_neg (by omega), ← hq, rowsE_end (by omega)]
      obtain ⟨_, hsq, hen⟩ := detErr_ok hE
      have hi64 := hen.i64 (by decide)
      have hsm := small9 h7 hen
      refine awp_exit ?_
      rw [show Atab = m from hAm]
      refine awp_seq (awp_region ?_)
      refine aops_run 1 [46] [115] [] ⟨48, [(46, .one (.rw 115 0 m.length))], [(115, .mat 115 m)]⟩ hT (by kernel_rfl) (by kernel_rfl) trivial ?_
      refine aops_call [(99001, 115)] [(99001, 115)] false ⟨true, [], 82, [.one (.rw 99001 0 m.length)], [(99001, .mat 99001 m)]⟩ [.one (.rw 99001 0 m.length)] (sm := ⟨48, [(46, .one (.rw 115 0 m.length)), (47, .whn false (.one .any))], [(115, .mat 115 m)]⟩) (by kernel_rfl) (by kernel_rfl) (by decide) (fun _ => trivial) rfl (fun _ => tree_det m.length m hsq hi64 hsm (by omega)) (fun _ v Hr hv => ?_) (fun h => by cases h)
      obtain ⟨L18, rfl, rfl⟩ := hv
      refine ⟨⟨48, [(46, .one .any), (47, .one (.int .i64 (det m.length (at2 m))))], [(115, .mat 115 L18)]⟩, by kernel_rfl, ?_⟩
      refine aops_run 2 [2, 3] [] [] ⟨48, [(2, .one (.int .i64 (det m.length (at2 m)))), (3, .one (.int .i64 0))], []⟩ hT (by kernel_rfl) (by kernel_rfl) trivial ?_
      refine aops_end_seq (by kernel_rfl) ?_
      refine awp_ret ?_
      refine kRet.ret _ [] [] (.tup [(false, [(.int .i64 (det m.length (at2 m)))]), (false, [(.int .i64 0)])]) [] (by kernel_rfl) trivial ?_
      exact ⟨by first | rw [show (detVal m) = (det m.length (at2 m)) from Eq.symm (by exact detVal_ok hE), show (detErr m) = 0 from Eq.symm (by exact hE.symm)] | rw [show (detVal m) = (det m.length (at2 m)) from Eq.symm (by exact detVal_ok hE)] | rw [show (detErr m) = 0 from Eq.symm (by exact hE.symm)], rfl⟩

end Go.Ab
