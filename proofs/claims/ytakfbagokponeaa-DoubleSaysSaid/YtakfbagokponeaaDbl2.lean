/- Of even tables: the first order. -/
import Derived.Test.YtakfbagokponeaaTab
import Derived.Test.YtakfbagokponeaaF2
import Derived.Test.YtakfbagokponeaaIdx1
import Derived.Test.YtakfbagokponeaaPlDouble
set_option maxRecDepth 100000
namespace Go.Ab
open Go Go.Proofs
theorem first0 (L : List (List Int)) (l : List Int) (hl : l.length = L.length) (hok : okAll L l = true) (h6 : L.length ≤ 6) : ACall Try.prog 65 [.one (.rs (.rows L)), .one (.int .i64 ((l.length : Nat) : Int)), .one (.ro (.ints .i64 l))] [] (fun ov oh => (frst L.length L 0 l = none → ov = .one .nils ∧ oh = []) ∧ (∀ q, frst L.length L 0 l = some q → ov = .one (.rw 9001 0 q.length) ∧ oh = [(9001, .flat (.ints .i64 q))])) := by
  refine acall_intro hT Try.func65 rfl (by kernel_rfl) rfl (by kernel_rfl) ?_
  refine awp_run_seq [0, 1, 2] [] [] ⟨47, [(0, .one (.rs (.rows L))), (1, .one (.int .i64 ((l.length : Nat) : Int))), (2, .one (.ro (.ints .i64 l)))], []⟩ hT (by kernel_rfl) trivial ?_
  refine awp_seq ?_
  refine awp_run_seq [0, 1, 2, 13] [] [] ⟨47, [(0, .one (.rs (.rows L))), (1, .one (.int .i64 ((l.length : Nat) : Int))), (2, .one (.ro (.ints .i64 l))), (13, .one (.bool (decide (((l.length : Nat) : Int) = ((L.length : Nat) : Int)))))], []⟩ hT (by kernel_rfl) trivial ?_
  refine awp_cond (b := (decide (((l.length : Nat) : Int) = ((L.length : Nat) : Int)))) (by kernel_rfl) (fun c1 => ?_) (fun c1 => ?_)
  · -- yes 1
    try simp only [bs] at c1
    refine awp_seq (awp_region ?_)
    refine aops_run 1 [14] [] [] ⟨47, [(14, .one (.ro (.ints .i64 l)))], []⟩ hT (by kernel_rfl) (by kernel_rfl) trivial ?_
    refine aops_call [] [(9001, 115)] false ⟨true, [], 64, [.one (.ro (.ints .i64 l))], []⟩ [.one (.ro (.ints .i64 l))] (sm := ⟨47, [(14, .one (.ro (.ints .i64 l))), (15, .whn false (.one .any))], []⟩) (by kernel_rfl) (by kernel_rfl) (by decide) (fun _ => trivial) rfl (fun _ => clone_ints l (by first | omega | (simp; omega))) (fun _ v Hr hv => ?_) (fun h => by cases h)
    obtain ⟨rfl, rfl⟩ := hv
    refine ⟨⟨47, [(14, .one (.ro (.ints .i64 l))), (15, .one (.rw 115 0 l.length))], [(115, .flat (.ints .i64 l))]⟩, by kernel_rfl, ?_⟩
    refine aops_run 1 [6] [115] [] ⟨47, [(6, .one (.rw 115 0 l.length))], [(115, .flat (.ints .i64 l))]⟩ hT (by kernel_rfl) (by kernel_rfl) trivial ?_
    refine aops_end_seq (by kernel_rfl) ?_
    refine awp_weak (awk_ren 115 9001 (s' := ⟨47, [(6, .one (.rw 9001 0 l.length))], [(9001, .flat (.ints .i64 l))]⟩) (by kernel_rfl)) ?_
    refine awp_ret ?_
    refine kRet.ret _ [9001] [] (.one (.rw 9001 0 l.length)) [(9001, .flat (.ints .i64 l))] (by kernel_rfl) trivial ?_
    exact ⟨fun h => (by rw [frst_zero hok] at h; cases h), fun q h => (by rw [frst_zero hok] at h; cases h; exact ⟨rfl, rfl⟩)⟩
  · -- no 1
    try simp only [bs] at c1
    exfalso; omega

theorem firstS (L : List (List Int)) (d : Nat) (ih : ∀ l : List Int, l.length + d = L.length → okAll L l = true → ACall Try.prog 65 [.one (.rs (.rows L)), .one (.int .i64 ((l.length : Nat) : Int)), .one (.ro (.ints .i64 l))] [] (fun ov oh => (frst L.length L d l = none → ov = .one .nils ∧ oh = []) ∧ (∀ q, frst L.length L d l = some q → ov = .one (.rw 9001 0 q.length) ∧ oh = [(9001, .flat (.ints .i64 q))]))) (l : List Int) (hl : l.length + (d + 1) = L.length) (hok : okAll L l = true) (hsq : Sq L.length L) (h6 : L.length ≤ 6) : ACall Try.prog 65 [.one (.rs (.rows L)), .one (.int .i64 ((l.length : Nat) : Int)), .one (.ro (.ints .i64 l))] [] (fun ov oh => (frst L.length L (d + 1) l = none → ov = .one .nils ∧ oh = []) ∧ (∀ q, frst L.length L (d + 1) l = some q → ov = .one (.rw 9001 0 q.length) ∧ oh = [(9001, .flat (.ints .i64 q))])) := by
  refine acall_intro hT Try.func65 rfl (by kernel_rfl) rfl (by kernel_rfl) ?_
  have hrl := hsq.row l.length (by omega)
  refine awp_run_seq [0, 1, 2] [] [] ⟨47, [(0, .one (.rs (.rows L))), (1, .one (.int .i64 ((l.length : Nat) : Int))), (2, .one (.ro (.ints .i64 l)))], []⟩ hT (by kernel_rfl) trivial ?_
  refine awp_seq ?_
  refine awp_run_seq [0, 1, 2, 13] [] [] ⟨47, [(0, .one (.rs (.rows L))), (1, .one (.int .i64 ((l.length : Nat) : Int))), (2, .one (.ro (.ints .i64 l))), (13, .one (.bool (decide (((l.length : Nat) : Int) = ((L.length : Nat) : Int)))))], []⟩ hT (by kernel_rfl) trivial ?_
  refine awp_cond (b := (decide (((l.length : Nat) : Int) = ((L.length : Nat) : Int)))) (by kernel_rfl) (fun c1 => ?_) (fun c1 => ?_)
  · -- yes 1
    try simp only [bs] at c1
    exfalso; omega
  · -- no 1
    try simp only [bs] at c1
    refine awp_skip ?_
    refine awp_seq ?_
    refine awp_run_seq [0, 1, 2, 19, 20, 21] [] [((0 : Int) ≤ ((l.length : Nat) : Int)), (((l.length : Nat) : Int) < ((L.length : Nat) : Int))] ⟨47, [(0, .one (.rs (.rows L))), (1, .one (.int .i64 ((l.length : Nat) : Int))), (2, .one (.ro (.ints .i64 l))), (19, .one (.ro (.ints .i64 (List.getD L l.length [])))), (20, .one (.int .i64 (((List.length (List.getD L l.length [])) : Nat) : Int))), (21, .one (.int .i64 0))], []⟩ hT (by kernel_rfl) ⟨(by first | omega | (simp only [lens]; omega) | (simp only [Bool.cond_decide]; omega) | (simp only [nadd_eq]; omega)), (by first | omega | (simp only [lens]; omega) | (simp only [Bool.cond_decide]; omega) | (simp only [nadd_eq]; omega)), trivial⟩ ?_
    refine awp_block ?_
    refine awp_loop (I := fun κ σ => ∃ (k : Nat), ((k ≤ L.length) ∧ (frstK L.length L d l k = frst L.length L (d + 1) l) ∧ L.length - k = κ) ∧ σ = ⟨47, [(0, .one (.rs (.rows L))), (1, .one (.int .i64 ((l.length : Nat) : Int))), (2, .one (.ro (.ints .i64 l))), (19, .one (.ro (.ints .i64 (List.getD L l.length [])))), (20, .one (.int .i64 (((List.length (List.getD L l.length [])) : Nat) : Int))), (21, .one (.int .i64 ((k : Nat) : Int)))], []⟩) _ ⟨0, ⟨(by omega), (by exact (frst_succ _ _ _ _).symm), rfl⟩, (by kernel_rfl)⟩ ?_
    rintro κ _ ⟨k, ⟨hk, hfr, rfl⟩, rfl⟩
    refine awp_run_seq [0, 1, 2, 19, 20, 21, 22] [] [] ⟨47, [(0, .one (.rs (.rows L))), (1, .one (.int .i64 ((l.length : Nat) : Int))), (2, .one (.ro (.ints .i64 l))), (19, .one (.ro (.ints .i64 (List.getD L l.length [])))), (20, .one (.int .i64 (((List.length (List.getD L l.length [])) : Nat) : Int))), (21, .one (.int .i64 ((k : Nat) : Int))), (22, .one (.bool (decide (((k : Nat) : Int) < (((List.length (List.getD L l.length [])) : Nat) : Int)))))], []⟩ hT (by kernel_rfl) trivial ?_
    refine awp_seq ?_
    refine awp_cond (b := (decide (((k : Nat) : Int) < (((List.length (List.getD L l.length [])) : Nat) : Int)))) (by kernel_rfl) (fun c4 => ?_) (fun c4 => ?_)
    · -- yes 4
      try simp only [bs] at c4
      refine awp_skip ?_
      refine awp_seq ?_
      refine awp_block ?_
      refine awp_run_seq [0, 1, 2, 7, 8, 19, 20, 21] [] [((0 : Int) ≤ ((k : Nat) : Int)), (((k : Nat) : Int) < (((List.length (List.getD L l.length [])) : Nat) : Int))] ⟨47, [(0, .one (.rs (.rows L))), (1, .one (.int .i64 ((l.length : Nat) : Int))), (2, .one (.ro (.ints .i64 l))), (7, .one (.int .i64 ((k : Nat) : Int))), (8, .one (.int .i64 (List.getD (List.getD L l.length []) k 0))), (19, .one (.ro (.ints .i64 (List.getD L l.length [])))), (20, .one (.int .i64 (((List.length (List.getD L l.length [])) : Nat) : Int))), (21, .one (.int .i64 ((k : Nat) : Int)))], []⟩ hT (by kernel_rfl) ⟨(by first | omega | (simp only [lens]; omega) | (simp only [Bool.cond_decide]; omega) | (simp only [nadd_eq]; omega)), (by first | omega | (simp only [lens]; omega) | (simp only [Bool.cond_decide]; omega) | (simp only [nadd_eq]; omega)), trivial⟩ ?_
      refine awp_seq (awp_region ?_)
      refine aops_run 5 [0, 1, 2, 7, 19, 20, 21, 28, 29, 30] [] [] ⟨47, [(0, .one (.rs (.rows L))), (1, .one (.int .i64 ((l.length : Nat) : Int))), (2, .one (.ro (.ints .i64 l))), (7, .one (.int .i64 ((k : Nat) : Int))), (19, .one (.ro (.ints .i64 (List.getD L l.length [])))), (20, .one (.int .i64 (((List.length (List.getD L l.length [])) : Nat) : Int))), (21, .one (.int .i64 ((k : Nat) : Int))), (28, .one (.bool (decide ((0 : Int) < (List.getD (List.getD L l.length []) k 0))))), (29, .whn (decide ((0 : Int) < (List.getD (List.getD L l.length []) k 0))) (.one (.ro (.ints .i64 l)))), (30, .whn (decide ((0 : Int) < (List.getD (List.getD L l.length []) k 0))) (.one (.int .i64 ((k : Nat) : Int))))], []⟩ hT (by kernel_rfl) (by kernel_rfl) trivial ?_
      refine aops_pure false ⟨(decide ((0 : Int) < (List.getD (List.getD L l.length []) k 0))), [((decide ((0 : Int) < (List.getD (List.getD L l.length []) k 0))) = true → (decide ((0 : Int) < (List.getD (List.getD L l.length []) k 0))) = true), ((decide ((0 : Int) < (List.getD (List.getD L l.length []) k 0))) = true → (decide ((0 : Int) < (List.getD (List.getD L l.length []) k 0))) = true)], 87, [.one (.ro (.ints .i64 l)), .one (.int .i64 ((k : Nat) : Int))], []⟩ [.one (.ro (.ints .i64 l)), .one (.int .i64 ((k : Nat) : Int))] (.one (.bool (decide ((0 : Int) ≤ rk l ((k : Nat) : Int))))) ⟨47, [(0, .one (.rs (.rows L))), (1, .one (.int .i64 ((l.length : Nat) : Int))), (2, .one (.ro (.ints .i64 l))), (7, .one (.int .i64 ((k : Nat) : Int))), (19, .one (.ro (.ints .i64 (List.getD L l.length [])))), (20, .one (.int .i64 (((List.length (List.getD L l.length [])) : Nat) : Int))), (21, .one (.int .i64 ((k : Nat) : Int))), (28, .one (.bool (decide ((0 : Int) < (List.getD (List.getD L l.length []) k 0))))), (29, .whn (decide ((0 : Int) < (List.getD (List.getD L l.length []) k 0))) (.one (.ro (.ints .i64 l)))), (30, .whn (decide ((0 : Int) < (List.getD (List.getD L l.length []) k 0))) (.one (.int .i64 ((k : Nat) : Int)))), (31, .whn (decide ((0 : Int) < (List.getD (List.getD L l.length []) k 0))) (.one (.bool (decide ((0 : Int) ≤ rk l ((k : Nat) : Int))))))], []⟩ (by kernel_rfl) (by kernel_rfl) (fun _ => ⟨(fun h => h), (fun h => h), trivial⟩) rfl (fun _ => contains_ints l ((k : Nat) : Int)) ?_
      refine aops_run 2 [0, 1, 2, 7, 19, 20, 21, 33] [] [((decide ((0 : Int) < (List.getD (List.getD L l.length []) k 0))) = true → ((decide ((0 : Int) < (List.getD (List.getD L l.length []) k 0))) = true → (decide ((0 : Int) < (List.getD (List.getD L l.length []) k 0))) = true)), ((decide ((0 : Int) < (List.getD (List.getD L l.length []) k 0))) = true → (decide ((0 : Int) < (List.getD (List.getD L l.length []) k 0))) = true)] ⟨47, [(0, .one (.rs (.rows L))), (1, .one (.int .i64 ((l.length : Nat) : Int))), (2, .one (.ro (.ints .i64 l))), (7, .one (.int .i64 ((k : Nat) : Int))), (19, .one (.ro (.ints .i64 (List.getD L l.length [])))), (20, .one (.int .i64 (((List.length (List.getD L l.length [])) : Nat) : Int))), (21, .one (.int .i64 ((k : Nat) : Int))), (33, .one (.bool ((decide ((0 : Int) < (List.getD (List.getD L l.length []) k 0))) && (!(decide ((0 : Int) ≤ rk l ((k : Nat) : Int)))))))], []⟩ hT (by kernel_rfl) (by kernel_rfl) ⟨(by intro hg; first | exact hg | skip; (try simp only [bs] at hg ⊢); first | exact hg | first | omega | (simp only [lens]; omega) | (simp only [Bool.cond_decide]; omega) | (simp only [nadd_eq]; omega) | grind), (fun h => h), trivial⟩ ?_
      refine aops_end_seq (by kernel_rfl) ?_
      refine awp_cond (b := ((decide ((0 : Int) < (List.getD (List.getD L l.length []) k 0))) && (!(decide ((0 : Int) ≤ rk l ((k : Nat) : Int)))))) (by kernel_rfl) (fun c6 => ?_) (fun c6 => ?_)
      · -- yes 6
        try simp only [bs] at c6
        have hkn : k < L.length := by omega
        have hnm : ¬ ((k : Nat) : Int) ∈ l := fun q => by have := mem_rk.1 q; omega
        have hlk : (l ++ [((k : Nat) : Int)]).length + d = L.length := by rw [List.length_append, List.length_singleton]; omega
        have hokk : okAll L (l ++ [((k : Nat) : Int)]) = true := okAll_snoc.2 ⟨hok, by rw [Int.toNat_natCast]; exact c6.1⟩
        by_cases hfk : frst L.length L d (l ++ [((k : Nat) : Int)]) = none
        · -- hfk is True
          have hsk := frstK_none (n := L.length) (L := L) hkn hnm hfk
          refine awp_seq (awp_region ?_)
          refine aops_run 4 [0, 1, 2, 7, 19, 20, 21, 34, 36, 37] [] [(-9223372036854775808 ≤ (((l.length + 1) : Nat) : Int) ∧ (((l.length + 1) : Nat) : Int) ≤ 9223372036854775807)] ⟨47, [(0, .one (.rs (.rows L))), (1, .one (.int .i64 ((l.length : Nat) : Int))), (2, .one (.ro (.ints .i64 l))), (7, .one (.int .i64 ((k : Nat) : Int))), (19, .one (.ro (.ints .i64 (List.getD L l.length [])))), (20, .one (.int .i64 (((List.length (List.getD L l.length [])) : Nat) : Int))), (21, .one (.int .i64 ((k : Nat) : Int))), (34, .one (.rs (.rows L))), (36, .one (.int .i64 (((l.length + 1) : Nat) : Int))), (37, .one (.ro (.ints .i64 l)))], []⟩ hT (by kernel_rfl) (by kernel_rfl) ⟨(by first | omega | (simp only [lens]; omega) | (simp only [Bool.cond_decide]; omega) | (simp only [nadd_eq]; omega)), trivial⟩ ?_
          refine aops_call [] [(9001, 138)] false ⟨true, [], 64, [.one (.ro (.ints .i64 l))], []⟩ [.one (.ro (.ints .i64 l))] (sm := ⟨47, [(0, .one (.rs (.rows L))), (1, .one (.int .i64 ((l.length : Nat) : Int))), (2, .one (.ro (.ints .i64 l))), (7, .one (.int .i64 ((k : Nat) : Int))), (19, .one (.ro (.ints .i64 (List.getD L l.length [])))), (20, .one (.int .i64 (((List.length (List.getD L l.length [])) : Nat) : Int))), (21, .one (.int .i64 ((k : Nat) : Int))), (34, .one (.rs (.rows L))), (36, .one (.int .i64 (((l.length + 1) : Nat) : Int))), (37, .one (.ro (.ints .i64 l))), (38, .whn false (.one .any))], []⟩) (by kernel_rfl) (by kernel_rfl) (by decide) (fun _ => trivial) rfl (fun _ => clone_ints l (by first | omega | (simp; omega))) (fun _ v Hr hv => ?_) (fun h => by cases h)
          obtain ⟨rfl, rfl⟩ := hv
          refine ⟨⟨47, [(0, .one (.rs (.rows L))), (1, .one (.int .i64 ((l.length : Nat) : Int))), (2, .one (.ro (.ints .i64 l))), (7, .one (.int .i64 ((k : Nat) : Int))), (19, .one (.ro (.ints .i64 (List.getD L l.length [])))), (20, .one (.int .i64 (((List.length (List.getD L l.length [])) : Nat) : Int))), (21, .one (.int .i64 ((k : Nat) : Int))), (34, .one (.rs (.rows L))), (36, .one (.int .i64 (((l.length + 1) : Nat) : Int))), (37, .one (.ro (.ints .i64 l))), (38, .one (.rw 138 0 l.length))], [(138, .flat (.ints .i64 l))]⟩, by kernel_rfl, ?_⟩
          refine aops_run 3 [0, 1, 2, 19, 20, 21, 34, 36, 41] [138] [(l.length = l.length), ((l.length + 1) * 8 ≤ 140737488355328), ((l.length + 1) ≤ 9223372036854775807)] ⟨47, [(0, .one (.rs (.rows L))), (1, .one (.int .i64 ((l.length : Nat) : Int))), (2, .one (.ro (.ints .i64 l))), (19, .one (.ro (.ints .i64 (List.getD L l.length [])))), (20, .one (.int .i64 (((List.length (List.getD L l.length [])) : Nat) : Int))), (21, .one (.int .i64 ((k : Nat) : Int))), (34, .one (.rs (.rows L))), (36, .one (.int .i64 (((l.length + 1) : Nat) : Int))), (41, .one (.rw 138 0 (l.length + 1)))], [(138, .flat (.ints .i64 (l ++ [((k : Nat) : Int)])))]⟩ hT (by kernel_rfl) (by kernel_rfl) ⟨(by first | omega | (simp only [lens]; omega) | (simp only [Bool.cond_decide]; omega) | (simp only [nadd_eq]; omega)), (by first | omega | (simp only [lens]; omega) | (simp only [Bool.cond_decide]; omega) | (simp only [nadd_eq]; omega)), (by first | omega | (simp only [lens]; omega) | (simp only [Bool.cond_decide]; omega) | (simp only [nadd_eq]; omega)), trivial⟩ ?_
          refine aops_pure true ⟨true, [], 65, [.one (.rs (.rows L)), .one (.int .i64 (((l.length + 1) : Nat) : Int)), .one (.ro (.ints .i64 (List.take (l.length + 1) (l ++ [((k : Nat) : Int)]))))], []⟩ [.one (.rs (.rows L)), .one (.int .i64 (((l.length + 1) : Nat) : Int)), .one (.ro (.ints .i64 (l ++ [((k : Nat) : Int)])))] (.one .nils) ⟨47, [(0, .one (.rs (.rows L))), (1, .one (.int .i64 ((l.length : Nat) : Int))), (2, .one (.ro (.ints .i64 l))), (19, .one (.ro (.ints .i64 (List.getD L l.length [])))), (20, .one (.int .i64 (((List.length (List.getD L l.length [])) : Nat) : Int))), (21, .one (.int .i64 ((k : Nat) : Int))), (34, .one (.rs (.rows L))), (36, .one (.int .i64 (((l.length + 1) : Nat) : Int))), (41, .one (.rw 138 0 (l.length + 1))), (42, .one .nils)], [(138, .flat (.ints .i64 (l ++ [((k : Nat) : Int)])))]⟩ (by kernel_rfl) (by kernel_rfl) (fun _ => trivial) (by rw [show (List.take (l.length + 1) (l ++ [((k : Nat) : Int)])) = (l ++ [((k : Nat) : Int)]) from List.take_of_length_le (by first | omega | simp)]) (fun _ => (by have h9 := ih (l ++ [((k : Nat) : Int)]) hlk hokk; rw [List.length_append, List.length_singleton] at h9; exact h9.mono (fun ov oh h => h.1 hfk))) ?_
          refine aops_run 1 [0, 1, 2, 9, 19, 20, 21] [] [] ⟨47, [(0, .one (.rs (.rows L))), (1, .one (.int .i64 ((l.length : Nat) : Int))), (2, .one (.ro (.ints .i64 l))), (9, .one .nils), (19, .one (.ro (.ints .i64 (List.getD L l.length [])))), (20, .one (.int .i64 (((List.length (List.getD L l.length [])) : Nat) : Int))), (21, .one (.int .i64 ((k : Nat) : Int)))], []⟩ hT (by kernel_rfl) (by kernel_rfl) trivial ?_
          refine aops_end_seq (by kernel_rfl) ?_
          refine awp_seq (awp_region ?_)
          refine aops_run 1 [0, 1, 2, 9, 19, 20, 21, 43] [] [] ⟨47, [(0, .one (.rs (.rows L))), (1, .one (.int .i64 ((l.length : Nat) : Int))), (2, .one (.ro (.ints .i64 l))), (9, .one .nils), (19, .one (.ro (.ints .i64 (List.getD L l.length [])))), (20, .one (.int .i64 (((List.length (List.getD L l.length [])) : Nat) : Int))), (21, .one (.int .i64 ((k : Nat) : Int))), (43, .one .nils)], []⟩ hT (by kernel_rfl) (by kernel_rfl) trivial ?_
          refine aops_nilyes (v := .nils) true hT rfl rfl rfl rfl (by kernel_rfl) (show T 25 = some _ from rfl) rfl (by kernel_rfl) rfl rfl ?_
          refine aops_cut [0, 1, 2, 9, 19, 20, 21, 43, 44] [] ⟨47, [(0, .one (.rs (.rows L))), (1, .one (.int .i64 ((l.length : Nat) : Int))), (2, .one (.ro (.ints .i64 l))), (9, .one .nils), (19, .one (.ro (.ints .i64 (List.getD L l.length [])))), (20, .one (.int .i64 (((List.length (List.getD L l.length [])) : Nat) : Int))), (21, .one (.int .i64 ((k : Nat) : Int))), (43, .one .nils), (44, .one (.bool false))], []⟩ (by kernel_rfl) ?_
          refine aops_cut [0, 1, 2, 9, 19, 20, 21, 44] [] ⟨47, [(0, .one (.rs (.rows L))), (1, .one (.int .i64 ((l.length : Nat) : Int))), (2, .one (.ro (.ints .i64 l))), (9, .one .nils), (19, .one (.ro (.ints .i64 (List.getD L l.length [])))), (20, .one (.int .i64 (((List.length (List.getD L l.length [])) : Nat) : Int))), (21, .one (.int .i64 ((k : Nat) : Int))), (44, .one (.bool false))], []⟩ (by kernel_rfl) ?_
          refine aops_end_seq (by kernel_rfl) ?_
          refine awp_cond (b := false) (by kernel_rfl) (fun h => by cases h) (fun _ => ?_)
          refine awp_skip ?_
          refine awp_run [0, 1, 2, 19, 20, 21] [] [(-9223372036854775808 ≤ (((k + 1) : Nat) : Int) ∧ (((k + 1) : Nat) : Int) ≤ 9223372036854775807)] ⟨47, [(0, .one (.rs (.rows L))), (1, .one (.int .i64 ((l.length : Nat) : Int))), (2, .one (.ro (.ints .i64 l))), (19, .one (.ro (.ints .i64 (List.getD L l.length [])))), (20, .one (.int .i64 (((List.length (List.getD L l.length [])) : Nat) : Int))), (21, .one (.int .i64 (((k + 1) : Nat) : Int)))], []⟩ hT (by kernel_rfl) ⟨(by first | omega | (simp only [lens]; omega) | (simp only [Bool.cond_decide]; omega) | (simp only [nadd_eq]; omega)), trivial⟩ ?_
          refine loop_end _ ?_ ⟨(k + 1), ⟨(by omega), (by rw [← hsk]; exact hfr), rfl⟩, (by kernel_rfl)⟩
          omega
        · -- hfk is False
          obtain ⟨q, hq⟩ : ∃ q, frst L.length L d (l ++ [((k : Nat) : Int)]) = some q := Option.ne_none_iff_exists'.1 hfk
          have hsm := frstK_some (n := L.length) (L := L) hkn hnm hq
          obtain ⟨qs, hqs, hql0⟩ := from_prefix (List.mem_of_find?_eq_some hq)
          have hql : 0 < q.length := by rw [hqs, List.length_append, List.length_append, List.length_singleton]; omega
          refine awp_seq (awp_region ?_)
          refine aops_run 4 [0, 1, 2, 7, 19, 20, 21, 34, 36, 37] [] [(-9223372036854775808 ≤ (((l.length + 1) : Nat) : Int) ∧ (((l.length + 1) : Nat) : Int) ≤ 9223372036854775807)] ⟨47, [(0, .one (.rs (.rows L))), (1, .one (.int .i64 ((l.length : Nat) : Int))), (2, .one (.ro (.ints .i64 l))), (7, .one (.int .i64 ((k : Nat) : Int))), (19, .one (.ro (.ints .i64 (List.getD L l.length [])))), (20, .one (.int .i64 (((List.length (List.getD L l.length [])) : Nat) : Int))), (21, .one (.int .i64 ((k : Nat) : Int))), (34, .one (.rs (.rows L))), (36, .one (.int .i64 (((l.length + 1) : Nat) : Int))), (37, .one (.ro (.ints .i64 l)))], []⟩ hT (by kernel_rfl) (by kernel_rfl) ⟨(by first | omega | (simp only [lens]; omega) | (simp only [Bool.cond_decide]; omega) | (simp only [nadd_eq]; omega)), trivial⟩ ?_
          refine aops_call [] [(9001, 138)] false ⟨true, [], 64, [.one (.ro (.ints .i64 l))], []⟩ [.one (.ro (.ints .i64 l))] (sm := ⟨47, [(0, .one (.rs (.rows L))), (1, .one (.int .i64 ((l.length : Nat) : Int))), (2, .one (.ro (.ints .i64 l))), (7, .one (.int .i64 ((k : Nat) : Int))), (19, .one (.ro (.ints .i64 (List.getD L l.length [])))), (20, .one (.int .i64 (((List.length (List.getD L l.length [])) : Nat) : Int))), (21, .one (.int .i64 ((k : Nat) : Int))), (34, .one (.rs (.rows L))), (36, .one (.int .i64 (((l.length + 1) : Nat) : Int))), (37, .one (.ro (.ints .i64 l))), (38, .whn false (.one .any))], []⟩) (by kernel_rfl) (by kernel_rfl) (by decide) (fun _ => trivial) rfl (fun _ => clone_ints l (by first | omega | (simp; omega))) (fun _ v Hr hv => ?_) (fun h => by cases h)
          obtain ⟨rfl, rfl⟩ := hv
          refine ⟨⟨47, [(0, .one (.rs (.rows L))), (1, .one (.int .i64 ((l.length : Nat) : Int))), (2, .one (.ro (.ints .i64 l))), (7, .one (.int .i64 ((k : Nat) : Int))), (19, .one (.ro (.ints .i64 (List.getD L l.length [])))), (20, .one (.int .i64 (((List.length (List.getD L l.length [])) : Nat) : Int))), (21, .one (.int .i64 ((k : Nat) : Int))), (34, .one (.rs (.rows L))), (36, .one (.int .i64 (((l.length + 1) : Nat) : Int))), (37, .one (.ro (.ints .i64 l))), (38, .one (.rw 138 0 l.length))], [(138, .flat (.ints .i64 l))]⟩, by kernel_rfl, ?_⟩
          refine aops_run 3 [0, 1, 2, 19, 20, 21, 34, 36, 41] [138] [(l.length = l.length), ((l.length + 1) * 8 ≤ 140737488355328), ((l.length + 1) ≤ 9223372036854775807)] ⟨47, [(0, .one (.rs (.rows L))), (1, .one (.int .i64 ((l.length : Nat) : Int))), (2, .one (.ro (.ints .i64 l))), (19, .one (.ro (.ints .i64 (List.getD L l.length [])))), (20, .one (.int .i64 (((List.length (List.getD L l.length [])) : Nat) : Int))), (21, .one (.int .i64 ((k : Nat) : Int))), (34, .one (.rs (.rows L))), (36, .one (.int .i64 (((l.length + 1) : Nat) : Int))), (41, .one (.rw 138 0 (l.length + 1)))], [(138, .flat (.ints .i64 (l ++ [((k : Nat) : Int)])))]⟩ hT (by kernel_rfl) (by kernel_rfl) ⟨(by first | omega | (simp only [lens]; omega) | (simp only [Bool.cond_decide]; omega) | (simp only [nadd_eq]; omega)), (by first | omega | (simp only [lens]; omega) | (simp only [Bool.cond_decide]; omega) | (simp only [nadd_eq]; omega)), (by first | omega | (simp only [lens]; omega) | (simp only [Bool.cond_decide]; omega) | (simp only [nadd_eq]; omega)), trivial⟩ ?_
          refine aops_call [] [(9001, 142)] true ⟨true, [], 65, [.one (.rs (.rows L)), .one (.int .i64 (((l.length + 1) : Nat) : Int)), .one (.ro (.ints .i64 (List.take (l.length + 1) (l ++ [((k : Nat) : Int)]))))], []⟩ [.one (.rs (.rows L)), .one (.int .i64 (((l.length + 1) : Nat) : Int)), .one (.ro (.ints .i64 (l ++ [((k : Nat) : Int)])))] (sm := ⟨47, [(0, .one (.rs (.rows L))), (1, .one (.int .i64 ((l.length : Nat) : Int))), (2, .one (.ro (.ints .i64 l))), (19, .one (.ro (.ints .i64 (List.getD L l.length [])))), (20, .one (.int .i64 (((List.length (List.getD L l.length [])) : Nat) : Int))), (21, .one (.int .i64 ((k : Nat) : Int))), (34, .one (.rs (.rows L))), (36, .one (.int .i64 (((l.length + 1) : Nat) : Int))), (41, .one (.rw 138 0 (l.length + 1))), (42, .whn false (.one .any))], [(138, .flat (.ints .i64 (l ++ [((k : Nat) : Int)])))]⟩) (by kernel_rfl) (by kernel_rfl) (by decide) (fun _ => trivial) (by rw [show (List.take (l.length + 1) (l ++ [((k : Nat) : Int)])) = (l ++ [((k : Nat) : Int)]) from List.take_of_length_le (by first | omega | simp)]) (fun _ => (by have h9 := ih (l ++ [((k : Nat) : Int)]) hlk hokk; rw [List.length_append, List.length_singleton] at h9; exact h9.mono (fun ov oh h => h.2 q hq))) (fun _ v Hr hv => ?_) (fun h => by cases h)
          obtain ⟨rfl, rfl⟩ := hv
          refine ⟨⟨47, [(0, .one (.rs (.rows L))), (1, .one (.int .i64 ((l.length : Nat) : Int))), (2, .one (.ro (.ints .i64 l))), (19, .one (.ro (.ints .i64 (List.getD L l.length [])))), (20, .one (.int .i64 (((List.length (List.getD L l.length [])) : Nat) : Int))), (21, .one (.int .i64 ((k : Nat) : Int))), (34, .one (.rs (.rows L))), (36, .one (.int .i64 (((l.length + 1) : Nat) : Int))), (41, .one (.rw 138 0 (l.length + 1))), (42, .one (.rw 142 0 q.length))], [(138, .flat (.ints .i64 (l ++ [((k : Nat) : Int)]))), (142, .flat (.ints .i64 q))]⟩, by kernel_rfl, ?_⟩
          refine aops_run 1 [0, 1, 2, 9, 19, 20, 21] [142] [] ⟨47, [(0, .one (.rs (.rows L))), (1, .one (.int .i64 ((l.length : Nat) : Int))), (2, .one (.ro (.ints .i64 l))), (9, .one (.rw 142 0 q.length)), (19, .one (.ro (.ints .i64 (List.getD L l.length [])))), (20, .one (.int .i64 (((List.length (List.getD L l.length [])) : Nat) : Int))), (21, .one (.int .i64 ((k : Nat) : Int)))], [(142, .flat (.ints .i64 q))]⟩ hT (by kernel_rfl) (by kernel_rfl) trivial ?_
          refine aops_end_seq (by kernel_rfl) ?_
          refine awp_seq (awp_region ?_)
          refine aops_run 1 [0, 1, 2, 9, 19, 20, 21, 43] [142] [] ⟨47, [(0, .one (.rs (.rows L))), (1, .one (.int .i64 ((l.length : Nat) : Int))), (2, .one (.ro (.ints .i64 l))), (9, .one (.rw 142 0 q.length)), (19, .one (.ro (.ints .i64 (List.getD L l.length [])))), (20, .one (.int .i64 (((List.length (List.getD L l.length [])) : Nat) : Int))), (21, .one (.int .i64 ((k : Nat) : Int))), (43, .one (.rw 142 0 q.length))], [(142, .flat (.ints .i64 q))]⟩ hT (by kernel_rfl) (by kernel_rfl) trivial ?_
          refine aops_isnil (v := (.rw 142 0 q.length)) true hT rfl rfl rfl rfl (by kernel_rfl) (show T 25 = some _ from rfl) rfl (by kernel_rfl) rfl ?_
          intro nb8 hnb8
          replace hnb8 : nb8 = true → q.length = 0 := hnb8
          refine aops_cut [0, 1, 2, 9, 19, 20, 21, 43, 44] [142] ⟨47, [(0, .one (.rs (.rows L))), (1, .one (.int .i64 ((l.length : Nat) : Int))), (2, .one (.ro (.ints .i64 l))), (9, .one (.rw 142 0 q.length)), (19, .one (.ro (.ints .i64 (List.getD L l.length [])))), (20, .one (.int .i64 (((List.length (List.getD L l.length [])) : Nat) : Int))), (21, .one (.int .i64 ((k : Nat) : Int))), (43, .one (.rw 142 0 q.length)), (44, .one (.bool (!nb8)))], [(142, .flat (.ints .i64 q))]⟩ (by kernel_rfl) ?_
          refine aops_cut [0, 1, 2, 9, 19, 20, 21, 44] [142] ⟨47, [(0, .one (.rs (.rows L))), (1, .one (.int .i64 ((l.length : Nat) : Int))), (2, .one (.ro (.ints .i64 l))), (9, .one (.rw 142 0 q.length)), (19, .one (.ro (.ints .i64 (List.getD L l.length [])))), (20, .one (.int .i64 (((List.length (List.getD L l.length [])) : Nat) : Int))), (21, .one (.int .i64 ((k : Nat) : Int))), (44, .one (.bool (!nb8)))], [(142, .flat (.ints .i64 q))]⟩ (by kernel_rfl) ?_
          refine aops_end_seq (by kernel_rfl) ?_
          refine awp_cond (b := (!nb8)) (by kernel_rfl) (fun c8 => ?_) (fun c8 => ?_)
          · -- yes 8
            try simp only [bs] at c8
            refine awp_run_seq [6] [142] [] ⟨47, [(6, .one (.rw 142 0 q.length))], [(142, .flat (.ints .i64 q))]⟩ hT (by kernel_rfl) trivial ?_
            refine awp_weak (awk_ren 142 9001 (s' := ⟨47, [(6, .one (.rw 9001 0 q.length))], [(9001, .flat (.ints .i64 q))]⟩) (by kernel_rfl)) ?_
            refine awp_ret ?_
            refine kRet.ret _ [9001] [] (.one (.rw 9001 0 q.length)) [(9001, .flat (.ints .i64 q))] (by kernel_rfl) trivial ?_
            exact ⟨fun h => (by rw [← hfr, hsm] at h; cases h), fun q2 h => (by rw [← hfr, hsm] at h; cases h; exact ⟨rfl, rfl⟩)⟩
          · -- no 8
            try simp only [bs] at c8
            exfalso; have := hnb8 c8; omega
      · -- no 6
        try simp only [bs] at c6
        have hsk := frstK_skip (n := L.length) (L := L) (d := d) (l := l) (k := k) (by omega) (fun q => by
          rcases c6 with c | c
          · exact c q.1
          · exact q.2 (mem_rk.2 (by omega)))
        refine awp_skip ?_
        refine awp_run [0, 1, 2, 19, 20, 21] [] [(-9223372036854775808 ≤ (((k + 1) : Nat) : Int) ∧ (((k + 1) : Nat) : Int) ≤ 9223372036854775807)] ⟨47, [(0, .one (.rs (.rows L))), (1, .one (.int .i64 ((l.length : Nat) : Int))), (2, .one (.ro (.ints .i64 l))), (19, .one (.ro (.ints .i64 (List.getD L l.length [])))), (20, .one (.int .i64 (((List.length (List.getD L l.length [])) : Nat) : Int))), (21, .one (.int .i64 (((k + 1) : Nat) : Int)))], []⟩ hT (by kernel_rfl) ⟨(by first | omega | (simp only [lens]; omega) | (simp only [Bool.cond_decide]; omega) | (simp only [nadd_eq]; omega)), trivial⟩ ?_
        refine loop_end _ ?_ ⟨(k + 1), ⟨(by omega), (by rw [← hsk]; exact hfr), rfl⟩, (by kernel_rfl)⟩
        omega
    · -- no 4
      try simp only [bs] at c4
      refine awp_exit ?_
      refine awp_run_seq [6] [] [] ⟨47, [(6, .one .nils)], []⟩ hT (by kernel_rfl) trivial ?_
      refine awp_ret ?_
      refine kRet.ret _ [] [] (.one .nils) [] (by kernel_rfl) trivial ?_
      exact ⟨fun _ => ⟨rfl, rfl⟩, fun q h => (by rw [← hfr, frstK_end (by omega)] at h; cases h)⟩

theorem double_first (L : List (List Int)) (hsq : Sq L.length L) (h6 : L.length ≤ 6) : ∀ (d : Nat) (l : List Int), l.length + d = L.length → okAll L l = true → ACall Try.prog 65 [.one (.rs (.rows L)), .one (.int .i64 ((l.length : Nat) : Int)), .one (.ro (.ints .i64 l))] [] (fun ov oh => (frst L.length L d l = none → ov = .one .nils ∧ oh = []) ∧ (∀ q, frst L.length L d l = some q → ov = .one (.rw 9001 0 q.length) ∧ oh = [(9001, .flat (.ints .i64 q))]))
  | 0, l, hl, hok => first0 L l (by omega) hok h6
  | d + 1, l, hl, hok => firstS L d (fun l hl hok => double_first L hsq h6 d l hl hok) l hl hok hsq h6
theorem double_first0 (L : List (List Int)) (hsq : Sq L.length L) (h6 : L.length ≤ 6) (q : List Int) (hq : frst L.length L L.length [] = some q) : ACall Try.prog 65 [.one (.rs (.rows L)), .one (.int .i64 0), .one (.ro (.ints .i64 []))] [] (fun ov oh => ov = .one (.rw 9001 0 q.length) ∧ oh = [(9001, .flat (.ints .i64 q))]) :=
  (double_first L hsq h6 L.length [] (by simp) rfl).mono fun ov oh h => h.2 q hq

end Go.Ab
