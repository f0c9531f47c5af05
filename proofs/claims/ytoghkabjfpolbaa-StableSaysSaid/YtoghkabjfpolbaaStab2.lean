/- Of pairs that stay: who would rather go. -/
import Derived.Test.YtoghkabjfpolbaaTab
import Derived.Test.YtoghkabjfpolbaaStab1
set_option maxRecDepth 100000
namespace Go.Ab
open Go Go.Proofs
theorem check_pairs (a b : List (List Int)) (p : List Int) : ACall Try.prog 127 [.one (.rs (.rows a)), .one (.rs (.rows b)), .one (.ro (.ints .i64 p))] [] (fun ov oh => ov = .one (.int .i64 (pairsErr a b p)) ∧ oh = []) := by
  refine acall_intro hT Try.func127 rfl (by kernel_rfl) rfl (by kernel_rfl) ?_
  refine awp_run_seq [0, 1, 2] [] [] ⟨30, [(0, .one (.rs (.rows a))), (1, .one (.rs (.rows b))), (2, .one (.ro (.ints .i64 p)))], []⟩ hT (by kernel_rfl) trivial ?_
  refine awp_seq ?_
  refine awp_seq (awp_region ?_)
  refine aops_run 2 [0, 2, 9, 10] [] [] ⟨30, [(0, .one (.rs (.rows a))), (2, .one (.ro (.ints .i64 p))), (9, .one (.rs (.rows a))), (10, .one (.rs (.rows b)))], []⟩ hT (by kernel_rfl) (by kernel_rfl) trivial ?_
  refine aops_pure false ⟨true, [], 65, [.one (.rs (.rows a)), .one (.rs (.rows b))], []⟩ [.one (.rs (.rows a)), .one (.rs (.rows b))] (.one (.int .i64 (listErr a b))) ⟨30, [(0, .one (.rs (.rows a))), (2, .one (.ro (.ints .i64 p))), (9, .one (.rs (.rows a))), (10, .one (.rs (.rows b))), (11, .one (.int .i64 (listErr a b)))], []⟩ (by kernel_rfl) (by kernel_rfl) (fun _ => trivial) rfl (fun _ => stable_check a b) ?_
  refine aops_run 1 [0, 2, 7] [] [] ⟨30, [(0, .one (.rs (.rows a))), (2, .one (.ro (.ints .i64 p))), (7, .one (.int .i64 (listErr a b)))], []⟩ hT (by kernel_rfl) (by kernel_rfl) trivial ?_
  refine aops_end_seq (by kernel_rfl) ?_
  refine awp_run_seq [0, 2, 7, 13] [] [] ⟨30, [(0, .one (.rs (.rows a))), (2, .one (.ro (.ints .i64 p))), (7, .one (.int .i64 (listErr a b))), (13, .one (.bool (decide ((listErr a b) ≠ 0))))], []⟩ hT (by kernel_rfl) trivial ?_
  refine awp_cond (b := (decide ((listErr a b) ≠ 0))) (by kernel_rfl) (fun c2 => ?_) (fun c2 => ?_)
  · -- yes 2
    try simp only [bs] at c2
    refine awp_run_seq [6] [] [] ⟨30, [(6, .one (.int .i64 (listErr a b)))], []⟩ hT (by kernel_rfl) trivial ?_
    refine awp_ret ?_
    refine kRet.ret _ [] [] (.one (.int .i64 (listErr a b))) [] (by kernel_rfl) trivial ?_
    exact ⟨congrArg (fun x1 => (.one (.int .i64 x1) : AV)) (show (listErr a b) = (pairsErr a b p) from by rw [pairsErr, if_pos c2]), rfl⟩
  · -- no 2
    try simp only [bs] at c2
    have hle : listErr a b = 0 := by omega
    have hls := listErr_ok hle
    have h6 := hls.small
    have hlb := hls.len
    refine awp_skip ?_
    refine awp_seq ?_
    refine awp_run_seq [2, 19] [] [] ⟨30, [(2, .one (.ro (.ints .i64 p))), (19, .one (.bool (decide (((p.length : Nat) : Int) ≠ ((a.length : Nat) : Int)))))], []⟩ hT (by kernel_rfl) trivial ?_
    refine awp_cond (b := (decide (((p.length : Nat) : Int) ≠ ((a.length : Nat) : Int)))) (by kernel_rfl) (fun c4 => ?_) (fun c4 => ?_)
    · -- yes 4
      try simp only [bs] at c4
      refine awp_run_seq [6] [] [] ⟨30, [(6, .one (.int .i64 3))], []⟩ hT (by kernel_rfl) trivial ?_
      refine awp_ret ?_
      refine kRet.ret _ [] [] (.one (.int .i64 3)) [] (by kernel_rfl) trivial ?_
      exact ⟨congrArg (fun x1 => (.one (.int .i64 x1) : AV)) (show 3 = (pairsErr a b p) from by rw [pairsErr, if_neg c2, if_neg (by rw [fullB_no (fun q => by have := q.1; omega)]; decide)]), rfl⟩
    · -- no 4
      try simp only [bs] at c4
      refine awp_skip ?_
      refine awp_seq ?_
      refine awp_run_seq [2, 21, 22] [] [] ⟨30, [(2, .one (.ro (.ints .i64 p))), (21, .one (.int .i64 ((p.length : Nat) : Int))), (22, .one (.int .i64 0))], []⟩ hT (by kernel_rfl) trivial ?_
      refine awp_block ?_
      refine awp_loop (I := fun κ σ => ∃ (k : Nat), ((k ≤ a.length) ∧ (∀ j, j < k → (0 : Int) ≤ rk p ((j : Nat) : Int)) ∧ a.length - k = κ) ∧ σ = ⟨30, [(2, .one (.ro (.ints .i64 p))), (21, .one (.int .i64 ((p.length : Nat) : Int))), (22, .one (.int .i64 ((k : Nat) : Int)))], []⟩) _ ⟨0, ⟨(by omega), (by intro j hj; omega), rfl⟩, (by kernel_rfl)⟩ ?_
      rintro κ _ ⟨k, ⟨hk, hp, rfl⟩, rfl⟩
      refine awp_run_seq [2, 21, 22, 23] [] [] ⟨30, [(2, .one (.ro (.ints .i64 p))), (21, .one (.int .i64 ((p.length : Nat) : Int))), (22, .one (.int .i64 ((k : Nat) : Int))), (23, .one (.bool (decide (((k : Nat) : Int) < ((p.length : Nat) : Int)))))], []⟩ hT (by kernel_rfl) trivial ?_
      refine awp_seq ?_
      refine awp_cond (b := (decide (((k : Nat) : Int) < ((p.length : Nat) : Int)))) (by kernel_rfl) (fun c7 => ?_) (fun c7 => ?_)
      · -- yes 7
        try simp only [bs] at c7
        refine awp_skip ?_
        refine awp_seq ?_
        refine awp_block ?_
        refine awp_run_seq [2, 8, 21, 22] [] [] ⟨30, [(2, .one (.ro (.ints .i64 p))), (8, .one (.int .i64 ((k : Nat) : Int))), (21, .one (.int .i64 ((p.length : Nat) : Int))), (22, .one (.int .i64 ((k : Nat) : Int)))], []⟩ hT (by kernel_rfl) trivial ?_
        refine awp_seq (awp_region ?_)
        refine aops_run 2 [2, 21, 22, 25, 26] [] [] ⟨30, [(2, .one (.ro (.ints .i64 p))), (21, .one (.int .i64 ((p.length : Nat) : Int))), (22, .one (.int .i64 ((k : Nat) : Int))), (25, .one (.ro (.ints .i64 p))), (26, .one (.int .i64 ((k : Nat) : Int)))], []⟩ hT (by kernel_rfl) (by kernel_rfl) trivial ?_
        refine aops_pure false ⟨true, [], 78, [.one (.ro (.ints .i64 p)), .one (.int .i64 ((k : Nat) : Int))], []⟩ [.one (.ro (.ints .i64 p)), .one (.int .i64 ((k : Nat) : Int))] (.one (.bool (decide ((0 : Int) ≤ rk p ((k : Nat) : Int))))) ⟨30, [(2, .one (.ro (.ints .i64 p))), (21, .one (.int .i64 ((p.length : Nat) : Int))), (22, .one (.int .i64 ((k : Nat) : Int))), (25, .one (.ro (.ints .i64 p))), (26, .one (.int .i64 ((k : Nat) : Int))), (27, .one (.bool (decide ((0 : Int) ≤ rk p ((k : Nat) : Int)))))], []⟩ (by kernel_rfl) (by kernel_rfl) (fun _ => trivial) rfl (fun _ => contains_ints p ((k : Nat) : Int)) ?_
        refine aops_run 1 [2, 21, 22, 28] [] [] ⟨30, [(2, .one (.ro (.ints .i64 p))), (21, .one (.int .i64 ((p.length : Nat) : Int))), (22, .one (.int .i64 ((k : Nat) : Int))), (28, .one (.bool (!(decide ((0 : Int) ≤ rk p ((k : Nat) : Int))))))], []⟩ hT (by kernel_rfl) (by kernel_rfl) trivial ?_
        refine aops_end_seq (by kernel_rfl) ?_
        refine awp_cond (b := (!(decide ((0 : Int) ≤ rk p ((k : Nat) : Int))))) (by kernel_rfl) (fun c9 => ?_) (fun c9 => ?_)
        · -- yes 9
          try simp only [bs] at c9
          refine awp_run_seq [6] [] [] ⟨30, [(6, .one (.int .i64 3))], []⟩ hT (by kernel_rfl) trivial ?_
          refine awp_ret ?_
          refine kRet.ret _ [] [] (.one (.int .i64 3)) [] (by kernel_rfl) trivial ?_
          exact ⟨congrArg (fun x1 => (.one (.int .i64 x1) : AV)) (show 3 = (pairsErr a b p) from by rw [pairsErr, if_neg c2, if_neg (by rw [fullB_no (fun q => by have := mem_rk.1 (q.2 k (by omega)); omega)]; decide)]), rfl⟩
        · -- no 9
          try simp only [bs] at c9
          refine awp_skip ?_
          refine awp_run [2, 21, 22] [] [(-9223372036854775808 ≤ (((k + 1) : Nat) : Int) ∧ (((k + 1) : Nat) : Int) ≤ 9223372036854775807)] ⟨30, [(2, .one (.ro (.ints .i64 p))), (21, .one (.int .i64 ((p.length : Nat) : Int))), (22, .one (.int .i64 (((k + 1) : Nat) : Int)))], []⟩ hT (by kernel_rfl) ⟨(by first | omega | (simp only [lens]; omega) | (simp only [Bool.cond_decide]; omega)), trivial⟩ ?_
          refine loop_end _ ?_ ⟨(k + 1), ⟨(by omega), (by intro j hj; rcases Nat.lt_succ_iff_lt_or_eq.1 hj with h | h; exact hp j h; subst h; omega), rfl⟩, (by kernel_rfl)⟩
          omega
      · -- no 7
        try simp only [bs] at c7
        refine awp_exit ?_
        refine awp_run_seq [6] [] [] ⟨30, [(6, .one (.int .i64 0))], []⟩ hT (by kernel_rfl) trivial ?_
        refine awp_ret ?_
        refine kRet.ret _ [] [] (.one (.int .i64 0)) [] (by kernel_rfl) trivial ?_
        exact ⟨congrArg (fun x1 => (.one (.int .i64 x1) : AV)) (show 0 = (pairsErr a b p) from by rw [pairsErr, if_neg c2, if_pos (fullB_iff.2 ⟨by omega, fun j hj => mem_rk.2 (hp j (by omega))⟩)]), rfl⟩

theorem stable_pair (a b : List (List Int)) (p : List Int) : ACall Try.prog 64 [.one (.rs (.rows a)), .one (.rs (.rows b)), .one (.ro (.ints .i64 p))] [] (fun ov oh => ov = .tup [(false, [(.int .i64 (pairI a b p))]), (false, [(.int .i64 (pairK a b p))]), (false, [(.int .i64 (pairErr a b p))])] ∧ oh = []) := by
  refine acall_intro hT Try.func64 rfl (by kernel_rfl) rfl (by kernel_rfl) ?_
  refine awp_run_seq [0, 1, 2] [] [] ⟨60, [(0, .one (.rs (.rows a))), (1, .one (.rs (.rows b))), (2, .one (.ro (.ints .i64 p)))], []⟩ hT (by kernel_rfl) trivial ?_
  refine awp_seq ?_
  refine awp_seq (awp_region ?_)
  refine aops_run 3 [0, 1, 2, 14, 15, 16] [] [] ⟨60, [(0, .one (.rs (.rows a))), (1, .one (.rs (.rows b))), (2, .one (.ro (.ints .i64 p))), (14, .one (.rs (.rows a))), (15, .one (.rs (.rows b))), (16, .one (.ro (.ints .i64 p)))], []⟩ hT (by kernel_rfl) (by kernel_rfl) trivial ?_
  refine aops_pure false ⟨true, [], 127, [.one (.rs (.rows a)), .one (.rs (.rows b)), .one (.ro (.ints .i64 p))], []⟩ [.one (.rs (.rows a)), .one (.rs (.rows b)), .one (.ro (.ints .i64 p))] (.one (.int .i64 (pairsErr a b p))) ⟨60, [(0, .one (.rs (.rows a))), (1, .one (.rs (.rows b))), (2, .one (.ro (.ints .i64 p))), (14, .one (.rs (.rows a))), (15, .one (.rs (.rows b))), (16, .one (.ro (.ints .i64 p))), (17, .one (.int .i64 (pairsErr a b p)))], []⟩ (by kernel_rfl) (by kernel_rfl) (fun _ => trivial) rfl (fun _ => check_pairs a b p) ?_
  refine aops_run 1 [0, 1, 2, 9] [] [] ⟨60, [(0, .one (.rs (.rows a))), (1, .one (.rs (.rows b))), (2, .one (.ro (.ints .i64 p))), (9, .one (.int .i64 (pairsErr a b p)))], []⟩ hT (by kernel_rfl) (by kernel_rfl) trivial ?_
  refine aops_end_seq (by kernel_rfl) ?_
  refine awp_run_seq [0, 1, 2, 9, 19] [] [] ⟨60, [(0, .one (.rs (.rows a))), (1, .one (.rs (.rows b))), (2, .one (.ro (.ints .i64 p))), (9, .one (.int .i64 (pairsErr a b p))), (19, .one (.bool (decide ((pairsErr a b p) ≠ 0))))], []⟩ hT (by kernel_rfl) trivial ?_
  refine awp_cond (b := (decide ((pairsErr a b p) ≠ 0))) (by kernel_rfl) (fun c2 => ?_) (fun c2 => ?_)
  · -- yes 2
    try simp only [bs] at c2
    have hpe : pairErr a b p = pairsErr a b p := pairErr_no c2
    refine awp_run_seq [6, 7, 8] [] [] ⟨60, [(6, .one (.int .i64 0)), (7, .one (.int .i64 0)), (8, .one (.int .i64 (pairsErr a b p)))], []⟩ hT (by kernel_rfl) trivial ?_
    refine awp_ret ?_
    refine kRet.ret _ [] [] (.tup [(false, [(.int .i64 0)]), (false, [(.int .i64 0)]), (false, [(.int .i64 (pairsErr a b p))])]) [] (by kernel_rfl) trivial ?_
    exact ⟨by first | rw [show (pairI a b p) = 0 from Eq.symm (by rw [pairI, hpe, if_neg c2]), show (pairK a b p) = 0 from Eq.symm (by rw [pairK, hpe, if_neg c2]), show (pairErr a b p) = (pairsErr a b p) from Eq.symm (by exact hpe.symm)] | rw [show (pairI a b p) = 0 from Eq.symm (by rw [pairI, hpe, if_neg c2])] | rw [show (pairK a b p) = 0 from Eq.symm (by rw [pairK, hpe, if_neg c2])] | rw [show (pairErr a b p) = (pairsErr a b p) from Eq.symm (by exact hpe.symm)], rfl⟩
  · -- no 2
    try simp only [bs] at c2
    have hpe0 : pairsErr a b p = 0 := by omega
    obtain ⟨hle, hfp⟩ := pairsErr_ok hpe0
    have hpl := hfp.1
    have hls := listErr_ok hle
    have h6 := hls.small
    have hlb := hls.len
    refine awp_skip ?_
    refine awp_seq ?_
    refine awp_run_seq [1, 2, 21, 22, 23] [] [] ⟨60, [(1, .one (.rs (.rows b))), (2, .one (.ro (.ints .i64 p))), (21, .one (.rs (.rows a))), (22, .one (.int .i64 ((a.length : Nat) : Int))), (23, .one (.int .i64 0))], []⟩ hT (by kernel_rfl) trivial ?_
    refine awp_block ?_
    refine awp_loop (I := fun κ σ => ∃ (i : Nat), ((i ≤ a.length) ∧ (partFrom b p i (a.drop i) = partOf a b p) ∧ a.length - i = κ) ∧ σ = ⟨60, [(1, .one (.rs (.rows b))), (2, .one (.ro (.ints .i64 p))), (21, .one (.rs (.rows a))), (22, .one (.int .i64 ((a.length : Nat) : Int))), (23, .one (.int .i64 ((i : Nat) : Int)))], []⟩) _ ⟨0, ⟨(by omega), (by rfl), rfl⟩, (by kernel_rfl)⟩ ?_
    rintro κ _ ⟨i, ⟨hi, hP, rfl⟩, rfl⟩
    refine awp_run_seq [1, 2, 21, 22, 23, 24] [] [] ⟨60, [(1, .one (.rs (.rows b))), (2, .one (.ro (.ints .i64 p))), (21, .one (.rs (.rows a))), (22, .one (.int .i64 ((a.length : Nat) : Int))), (23, .one (.int .i64 ((i : Nat) : Int))), (24, .one (.bool (decide (((i : Nat) : Int) < ((a.length : Nat) : Int)))))], []⟩ hT (by kernel_rfl) trivial ?_
    refine awp_seq ?_
    refine awp_cond (b := (decide (((i : Nat) : Int) < ((a.length : Nat) : Int)))) (by kernel_rfl) (fun c5 => ?_) (fun c5 => ?_)
    · -- yes 5
      try simp only [bs] at c5
      have hil : i < a.length := by omega
      have hfr := hls.ra i hil
      have hrl := hfr.1
      have hpi := hfp.at_ hil
      obtain ⟨r1, r2, r3⟩ := rk_in (isFull.mem_ hfr hpi.1 hpi.2)
      refine awp_skip ?_
      refine awp_seq ?_
      refine awp_block ?_
      refine awp_run_seq [1, 2, 10, 11, 21, 22, 23] [] [((0 : Int) ≤ ((i : Nat) : Int)), (((i : Nat) : Int) < ((a.length : Nat) : Int))] ⟨60, [(1, .one (.rs (.rows b))), (2, .one (.ro (.ints .i64 p))), (10, .one (.int .i64 ((i : Nat) : Int))), (11, .one (.ro (.ints .i64 (List.getD a i [])))), (21, .one (.rs (.rows a))), (22, .one (.int .i64 ((a.length : Nat) : Int))), (23, .one (.int .i64 ((i : Nat) : Int)))], []⟩ hT (by kernel_rfl) ⟨(by first | omega | (simp only [lens]; omega) | (simp only [Bool.cond_decide]; omega)), (by first | omega | (simp only [lens]; omega) | (simp only [Bool.cond_decide]; omega)), trivial⟩ ?_
      refine awp_seq (awp_region ?_)
      refine aops_run 6 [1, 2, 10, 21, 22, 23, 28, 29, 33] [] [((0 : Int) ≤ ((i : Nat) : Int)), (((i : Nat) : Int) < ((p.length : Nat) : Int))] ⟨60, [(1, .one (.rs (.rows b))), (2, .one (.ro (.ints .i64 p))), (10, .one (.int .i64 ((i : Nat) : Int))), (21, .one (.rs (.rows a))), (22, .one (.int .i64 ((a.length : Nat) : Int))), (23, .one (.int .i64 ((i : Nat) : Int))), (28, .one (.ro (.ints .i64 (List.getD a i [])))), (29, .one (.ro (.ints .i64 (List.getD a i [])))), (33, .one (.int .i64 (List.getD p i 0)))], []⟩ hT (by kernel_rfl) (by kernel_rfl) ⟨(by first | omega | (simp only [lens]; omega) | (simp only [Bool.cond_decide]; omega)), (by first | omega | (simp only [lens]; omega) | (simp only [Bool.cond_decide]; omega)), trivial⟩ ?_
      refine aops_pure false ⟨true, [], 95, [.one (.ro (.ints .i64 (List.getD a i []))), .one (.int .i64 (List.getD p i 0))], []⟩ [.one (.ro (.ints .i64 (List.getD a i []))), .one (.int .i64 (List.getD p i 0))] (.one (.int .i64 (rk (List.getD a i []) (List.getD p i 0)))) ⟨60, [(1, .one (.rs (.rows b))), (2, .one (.ro (.ints .i64 p))), (10, .one (.int .i64 ((i : Nat) : Int))), (21, .one (.rs (.rows a))), (22, .one (.int .i64 ((a.length : Nat) : Int))), (23, .one (.int .i64 ((i : Nat) : Int))), (28, .one (.ro (.ints .i64 (List.getD a i [])))), (29, .one (.ro (.ints .i64 (List.getD a i [])))), (33, .one (.int .i64 (List.getD p i 0))), (34, .one (.int .i64 (rk (List.getD a i []) (List.getD p i 0))))], []⟩ (by kernel_rfl) (by kernel_rfl) (fun _ => trivial) rfl (fun _ => index_ints (List.getD a i []) (List.getD p i 0)) ?_
      refine aops_run 3 [1, 2, 10, 21, 22, 23, 35, 36, 37] [] [((0 : Int) ≤ 0), ((0 : Int) ≤ (rk (List.getD a i []) (List.getD p i 0))), ((rk (List.getD a i []) (List.getD p i 0)) ≤ (((List.length (List.getD a i [])) : Nat) : Int))] ⟨60, [(1, .one (.rs (.rows b))), (2, .one (.ro (.ints .i64 p))), (10, .one (.int .i64 ((i : Nat) : Int))), (21, .one (.rs (.rows a))), (22, .one (.int .i64 ((a.length : Nat) : Int))), (23, .one (.int .i64 ((i : Nat) : Int))), (35, .one (.ro (.ints .i64 (List.take (Int.toNat (rk (List.getD a i []) (List.getD p i 0))) (List.getD a i []))))), (36, .one (.int .i64 (((List.length (List.take (Int.toNat (rk (List.getD a i []) (List.getD p i 0))) (List.getD a i []))) : Nat) : Int))), (37, .one (.int .i64 0))], []⟩ hT (by kernel_rfl) (by kernel_rfl) ⟨(by first | omega | (simp only [lens]; omega) | (simp only [Bool.cond_decide]; omega)), (by first | omega | (simp only [lens]; omega) | (simp only [Bool.cond_decide]; omega)), (by first | omega | (simp only [lens]; omega) | (simp only [Bool.cond_decide]; omega)), trivial⟩ ?_
      refine aops_end_seq (by kernel_rfl) ?_
      refine awp_block ?_
      refine awp_loop (I := fun κ σ => ∃ (j : Nat), ((j ≤ (List.take (Int.toNat (rk (List.getD a i []) (List.getD p i 0))) (List.getD a i [])).length) ∧ (rowFind b p (i : Int) (List.drop j (List.take (Int.toNat (rk (List.getD a i []) (List.getD p i 0))) (List.getD a i []))) = rowFind b p (i : Int) (List.take (Int.toNat (rk (List.getD a i []) (List.getD p i 0))) (List.getD a i []))) ∧ (List.take (Int.toNat (rk (List.getD a i []) (List.getD p i 0))) (List.getD a i [])).length - j = κ) ∧ σ = ⟨60, [(1, .one (.rs (.rows b))), (2, .one (.ro (.ints .i64 p))), (10, .one (.int .i64 ((i : Nat) : Int))), (21, .one (.rs (.rows a))), (22, .one (.int .i64 ((a.length : Nat) : Int))), (23, .one (.int .i64 ((i : Nat) : Int))), (35, .one (.ro (.ints .i64 (List.take (Int.toNat (rk (List.getD a i []) (List.getD p i 0))) (List.getD a i []))))), (36, .one (.int .i64 (((List.length (List.take (Int.toNat (rk (List.getD a i []) (List.getD p i 0))) (List.getD a i []))) : Nat) : Int))), (37, .one (.int .i64 ((j : Nat) : Int)))], []⟩) _ ⟨0, ⟨(by omega), (by rfl), rfl⟩, (by kernel_rfl)⟩ ?_
      rintro κ _ ⟨j, ⟨hj, hq, rfl⟩, rfl⟩
      refine awp_run_seq [1, 2, 10, 21, 22, 23, 35, 36, 37, 38] [] [] ⟨60, [(1, .one (.rs (.rows b))), (2, .one (.ro (.ints .i64 p))), (10, .one (.int .i64 ((i : Nat) : Int))), (21, .one (.rs (.rows a))), (22, .one (.int .i64 ((a.length : Nat) : Int))), (23, .one (.int .i64 ((i : Nat) : Int))), (35, .one (.ro (.ints .i64 (List.take (Int.toNat (rk (List.getD a i []) (List.getD p i 0))) (List.getD a i []))))), (36, .one (.int .i64 (((List.length (List.take (Int.toNat (rk (List.getD a i []) (List.getD p i 0))) (List.getD a i []))) : Nat) : Int))), (37, .one (.int .i64 ((j : Nat) : Int))), (38, .one (.bool (decide (((j : Nat) : Int) < (((List.length (List.take (Int.toNat (rk (List.getD a i []) (List.getD p i 0))) (List.getD a i []))) : Nat) : Int)))))], []⟩ hT (by kernel_rfl) trivial ?_
      refine awp_seq ?_
      refine awp_cond (b := (decide (((j : Nat) : Int) < (((List.length (List.take (Int.toNat (rk (List.getD a i []) (List.getD p i 0))) (List.getD a i []))) : Nat) : Int)))) (by kernel_rfl) (fun c8 => ?_) (fun c8 => ?_)
      · -- yes 8
        try simp only [bs] at c8
        have hjl : j < (List.take (Int.toNat (rk (List.getD a i []) (List.getD p i 0))) (List.getD a i [])).length := by omega
        have hjl2 : (List.take (Int.toNat (rk (List.getD a i []) (List.getD p i 0))) (List.getD a i [])).length ≤ (List.getD a i []).length := by rw [List.length_take]; omega
        have hjm := List.mem_of_mem_take (getD_mem (d := 0) hjl)
        have hkin := hfr.in_ hjm
        have hfb := hls.rb (Int.toNat (List.getD (List.take (Int.toNat (rk (List.getD a i []) (List.getD p i 0))) (List.getD a i [])) j 0)) (by omega)
        have hfbl := hfb.1
        have hrd := rowFind_drop (b := b) (p := p) (i := (i : Int)) hjl
        refine awp_skip ?_
        refine awp_seq ?_
        refine awp_block ?_
        refine awp_run_seq [1, 2, 10, 13, 21, 22, 23, 35, 36, 37] [] [((0 : Int) ≤ ((j : Nat) : Int)), (((j : Nat) : Int) < (((List.length (List.take (Int.toNat (rk (List.getD a i []) (List.getD p i 0))) (List.getD a i []))) : Nat) : Int))] ⟨60, [(1, .one (.rs (.rows b))), (2, .one (.ro (.ints .i64 p))), (10, .one (.int .i64 ((i : Nat) : Int))), (13, .one (.int .i64 (List.getD (List.take (Int.toNat (rk (List.getD a i []) (List.getD p i 0))) (List.getD a i [])) j 0))), (21, .one (.rs (.rows a))), (22, .one (.int .i64 ((a.length : Nat) : Int))), (23, .one (.int .i64 ((i : Nat) : Int))), (35, .one (.ro (.ints .i64 (List.take (Int.toNat (rk (List.getD a i []) (List.getD p i 0))) (List.getD a i []))))), (36, .one (.int .i64 (((List.length (List.take (Int.toNat (rk (List.getD a i []) (List.getD p i 0))) (List.getD a i []))) : Nat) : Int))), (37, .one (.int .i64 ((j : Nat) : Int)))], []⟩ hT (by kernel_rfl) ⟨(by first | omega | (simp only [lens]; omega) | (simp only [Bool.cond_decide]; omega)), (by first | omega | (simp only [lens]; omega) | (simp only [Bool.cond_decide]; omega)), trivial⟩ ?_
        -- 15 of 15 operations in any order; 1 orders of the rest
        refine awp_seq (awp_calm2 [(5, ⟨[.one (.ro (.ints .i64 (List.getD b (Int.toNat (List.getD (List.take (Int.toNat (rk (List.getD a i []) (List.getD p i 0))) (List.getD a i [])) j 0)) []))), .one (.int .i64 ((i : Nat) : Int))], .one (.int .i64 (rk (List.getD b (Int.toNat (List.getD (List.take (Int.toNat (rk (List.getD a i []) (List.getD p i 0))) (List.getD a i [])) j 0)) []) ((i : Nat) : Int))), [], []⟩), (12, ⟨[.one (.ro (.ints .i64 p)), .one (.int .i64 (List.getD (List.take (Int.toNat (rk (List.getD a i []) (List.getD p i 0))) (List.getD a i [])) j 0))], .one (.int .i64 (rk p (List.getD (List.take (Int.toNat (rk (List.getD a i []) (List.getD p i 0))) (List.getD a i [])) j 0))), [], []⟩), (13, ⟨[.one (.ro (.ints .i64 (List.getD b (Int.toNat (List.getD (List.take (Int.toNat (rk (List.getD a i []) (List.getD p i 0))) (List.getD a i [])) j 0)) []))), .one (.int .i64 (rk p (List.getD (List.take (Int.toNat (rk (List.getD a i []) (List.getD p i 0))) (List.getD a i [])) j 0)))], .one (.int .i64 (rk (List.getD b (Int.toNat (List.getD (List.take (Int.toNat (rk (List.getD a i []) (List.getD p i 0))) (List.getD a i [])) j 0)) []) (rk p (List.getD (List.take (Int.toNat (rk (List.getD a i []) (List.getD p i 0))) (List.getD a i [])) j 0)))), [], []⟩)] false [[], [], [0, 1], [0, 1, 2], [], [0, 1, 2, 3, 4], [], [], [6, 7], [6, 7, 8], [], [], [0, 1, 2, 3, 4, 5, 10, 11], [0, 1, 2, 3, 4, 5, 6, 7, 8, 9, 10, 11, 12], [0, 1, 2, 3, 4, 5, 6, 7, 8, 9, 10, 11, 12, 13]] 15 [1, 2, 10, 13, 21, 22, 23, 35, 36, 37, 55] [] [(0, []), (1, []), (2, [((0 : Int) ≤ (List.getD (List.take (Int.toNat (rk (List.getD a i []) (List.getD p i 0))) (List.getD a i [])) j 0)), ((List.getD (List.take (Int.toNat (rk (List.getD a i []) (List.getD p i 0))) (List.getD a i [])) j 0) < ((b.length : Nat) : Int))]), (3, []), (4, []), (5, [(true = true → (AllP [] ∧ [.one (.ro (.ints .i64 (List.getD b (Int.toNat (List.getD (List.take (Int.toNat (rk (List.getD a i []) (List.getD p i 0))) (List.getD a i [])) j 0)) []))), .one (.int .i64 ((i : Nat) : Int))] = ([.one (.ro (.ints .i64 (List.getD b (Int.toNat (List.getD (List.take (Int.toNat (rk (List.getD a i []) (List.getD p i 0))) (List.getD a i [])) j 0)) []))), .one (.int .i64 ((i : Nat) : Int))] : List AV) ∧ ACall Try.prog 95 [.one (.ro (.ints .i64 (List.getD b (Int.toNat (List.getD (List.take (Int.toNat (rk (List.getD a i []) (List.getD p i 0))) (List.getD a i [])) j 0)) []))), .one (.int .i64 ((i : Nat) : Int))] [] (fun ov oh => ov = .one (.int .i64 (rk (List.getD b (Int.toNat (List.getD (List.take (Int.toNat (rk (List.getD a i []) (List.getD p i 0))) (List.getD a i [])) j 0)) []) ((i : Nat) : Int))) ∧ oh = [])))]), (6, []), (7, []), (8, [((0 : Int) ≤ (List.getD (List.take (Int.toNat (rk (List.getD a i []) (List.getD p i 0))) (List.getD a i [])) j 0)), ((List.getD (List.take (Int.toNat (rk (List.getD a i []) (List.getD p i 0))) (List.getD a i [])) j 0) < ((b.length : Nat) : Int))]), (9, []), (10, []), (11, []), (12, [(true = true → (AllP [] ∧ [.one (.ro (.ints .i64 p)), .one (.int .i64 (List.getD (List.take (Int.toNat (rk (List.getD a i []) (List.getD p i 0))) (List.getD a i [])) j 0))] = ([.one (.ro (.ints .i64 p)), .one (.int .i64 (List.getD (List.take (Int.toNat (rk (List.getD a i []) (List.getD p i 0))) (List.getD a i [])) j 0))] : List AV) ∧ ACall Try.prog 95 [.one (.ro (.ints .i64 p)), .one (.int .i64 (List.getD (List.take (Int.toNat (rk (List.getD a i []) (List.getD p i 0))) (List.getD a i [])) j 0))] [] (fun ov oh => ov = .one (.int .i64 (rk p (List.getD (List.take (Int.toNat (rk (List.getD a i []) (List.getD p i 0))) (List.getD a i [])) j 0))) ∧ oh = [])))]), (13, [(true = true → (AllP [] ∧ [.one (.ro (.ints .i64 (List.getD b (Int.toNat (List.getD (List.take (Int.toNat (rk (List.getD a i []) (List.getD p i 0))) (List.getD a i [])) j 0)) []))), .one (.int .i64 (rk p (List.getD (List.take (Int.toNat (rk (List.getD a i []) (List.getD p i 0))) (List.getD a i [])) j 0)))] = ([.one (.ro (.ints .i64 (List.getD b (Int.toNat (List.getD (List.take (Int.toNat (rk (List.getD a i []) (List.getD p i 0))) (List.getD a i [])) j 0)) []))), .one (.int .i64 (rk p (List.getD (List.take (Int.toNat (rk (List.getD a i []) (List.getD p i 0))) (List.getD a i [])) j 0)))] : List AV) ∧ ACall Try.prog 95 [.one (.ro (.ints .i64 (List.getD b (Int.toNat (List.getD (List.take (Int.toNat (rk (List.getD a i []) (List.getD p i 0))) (List.getD a i [])) j 0)) []))), .one (.int .i64 (rk p (List.getD (List.take (Int.toNat (rk (List.getD a i []) (List.getD p i 0))) (List.getD a i [])) j 0)))] [] (fun ov oh => ov = .one (.int .i64 (rk (List.getD b (Int.toNat (List.getD (List.take (Int.toNat (rk (List.getD a i []) (List.getD p i 0))) (List.getD a i [])) j 0)) []) (rk p (List.getD (List.take (Int.toNat (rk (List.getD a i []) (List.getD p i 0))) (List.getD a i [])) j 0)))) ∧ oh = [])))]), (14, [])] [] 1 ⟨60, [(1, .one (.rs (.rows b))), (2, .one (.ro (.ints .i64 p))), (10, .one (.int .i64 ((i : Nat) : Int))), (13, .one (.int .i64 (List.getD (List.take (Int.toNat (rk (List.getD a i []) (List.getD p i 0))) (List.getD a i [])) j 0))), (21, .one (.rs (.rows a))), (22, .one (.int .i64 ((a.length : Nat) : Int))), (23, .one (.int .i64 ((i : Nat) : Int))), (35, .one (.ro (.ints .i64 (List.take (Int.toNat (rk (List.getD a i []) (List.getD p i 0))) (List.getD a i []))))), (36, .one (.int .i64 (((List.length (List.take (Int.toNat (rk (List.getD a i []) (List.getD p i 0))) (List.getD a i []))) : Nat) : Int))), (37, .one (.int .i64 ((j : Nat) : Int))), (55, .one (.bool (decide ((rk (List.getD b (Int.toNat (List.getD (List.take (Int.toNat (rk (List.getD a i []) (List.getD p i 0))) (List.getD a i [])) j 0)) []) ((i : Nat) : Int)) < (rk (List.getD b (Int.toNat (List.getD (List.take (Int.toNat (rk (List.getD a i []) (List.getD p i 0))) (List.getD a i [])) j 0)) []) (rk p (List.getD (List.take (Int.toNat (rk (List.getD a i []) (List.getD p i 0))) (List.getD a i [])) j 0)))))))], []⟩ (by kernel_rfl) (by kernel_rfl) hT (by kernel_rfl) (by kernel_rfl) ⟨trivial, trivial, ⟨(by first | omega | (simp only [lens]; omega) | (simp only [Bool.cond_decide]; omega)), (by first | omega | (simp only [lens]; omega) | (simp only [Bool.cond_decide]; omega)), trivial⟩, trivial, trivial, ⟨(fun _ => ⟨trivial, rfl, index_ints (List.getD b (Int.toNat (List.getD (List.take (Int.toNat (rk (List.getD a i []) (List.getD p i 0))) (List.getD a i [])) j 0)) []) ((i : Nat) : Int)⟩), trivial⟩, trivial, trivial, ⟨(by first | omega | (simp only [lens]; omega) | (simp only [Bool.cond_decide]; omega)), (by first | omega | (simp only [lens]; omega) | (simp only [Bool.cond_decide]; omega)), trivial⟩, trivial, trivial, trivial, ⟨(fun _ => ⟨trivial, rfl, index_ints p (List.getD (List.take (Int.toNat (rk (List.getD a i []) (List.getD p i 0))) (List.getD a i [])) j 0)⟩), trivial⟩, ⟨(fun _ => ⟨trivial, rfl, index_ints (List.getD b (Int.toNat (List.getD (List.take (Int.toNat (rk (List.getD a i []) (List.getD p i 0))) (List.getD a i [])) j 0)) []) (rk p (List.getD (List.take (Int.toNat (rk (List.getD a i []) (List.getD p i 0))) (List.getD a i [])) j 0))⟩), trivial⟩, trivial, trivial⟩ trivial ?_)
        refine awp_cond (b := (decide ((rk (List.getD b (Int.toNat (List.getD (List.take (Int.toNat (rk (List.getD a i []) (List.getD p i 0))) (List.getD a i [])) j 0)) []) ((i : Nat) : Int)) < (rk (List.getD b (Int.toNat (List.getD (List.take (Int.toNat (rk (List.getD a i []) (List.getD p i 0))) (List.getD a i [])) j 0)) []) (rk p (List.getD (List.take (Int.toNat (rk (List.getD a i []) (List.getD p i 0))) (List.getD a i [])) j 0)))))) (by kernel_rfl) (fun c10 => ?_) (fun c10 => ?_)
        · -- yes 10
          try simp only [bs] at c10
          have hbt : blockAt b p (i : Int) (List.getD (List.take (Int.toNat (rk (List.getD a i []) (List.getD p i 0))) (List.getD a i [])) j 0) = true := decide_eq_true c10
          have hsome : partOf a b p = some ((i : Int), List.getD (List.take (Int.toNat (rk (List.getD a i []) (List.getD p i 0))) (List.getD a i [])) j 0) := by rw [← hP]; refine partFrom_some hil ?_; show rowFind b p (i : Int) (List.take (Int.toNat (rk (List.getD a i []) (List.getD p i 0))) (List.getD a i [])) = _; rw [← hq, hrd, if_pos hbt]
          have hpe : pairErr a b p = 0 := pairErr_some hpe0 hsome
          refine awp_run_seq [6, 7, 8] [] [] ⟨60, [(6, .one (.int .i64 ((i : Nat) : Int))), (7, .one (.int .i64 (List.getD (List.take (Int.toNat (rk (List.getD a i []) (List.getD p i 0))) (List.getD a i [])) j 0))), (8, .one (.int .i64 0))], []⟩ hT (by kernel_rfl) trivial ?_
          refine awp_ret ?_
          refine kRet.ret _ [] [] (.tup [(false, [(.int .i64 ((i : Nat) : Int))]), (false, [(.int .i64 (List.getD (List.take (Int.toNat (rk (List.getD a i []) (List.getD p i 0))) (List.getD a i [])) j 0))]), (false, [(.int .i64 0)])]) [] (by kernel_rfl) trivial ?_
          exact ⟨by first | rw [show (pairI a b p) = ((i : Nat) : Int) from Eq.symm (by rw [pairI, if_pos hpe, hsome]; rfl), show (pairK a b p) = (List.getD (List.take (Int.toNat (rk (List.getD a i []) (List.getD p i 0))) (List.getD a i [])) j 0) from Eq.symm (by rw [pairK, if_pos hpe, hsome]; rfl), show (pairErr a b p) = 0 from Eq.symm (by exact hpe.symm)] | rw [show (pairI a b p) = ((i : Nat) : Int) from Eq.symm (by rw [pairI, if_pos hpe, hsome]; rfl)] | rw [show (pairK a b p) = (List.getD (List.take (Int.toNat (rk (List.getD a i []) (List.getD p i 0))) (List.getD a i [])) j 0) from Eq.symm (by rw [pairK, if_pos hpe, hsome]; rfl)] | rw [show (pairErr a b p) = 0 from Eq.symm (by exact hpe.symm)], rfl⟩
        · -- no 10
          try simp only [bs] at c10
          have hqs : rowFind b p (i : Int) (List.drop (j + 1) (List.take (Int.toNat (rk (List.getD a i []) (List.getD p i 0))) (List.getD a i []))) = rowFind b p (i : Int) (List.take (Int.toNat (rk (List.getD a i []) (List.getD p i 0))) (List.getD a i [])) := by rw [← hq, hrd, if_neg (by rw [blockAt, decide_eq_true_eq]; exact c10)]
          refine awp_skip ?_
          refine awp_run [1, 2, 10, 21, 22, 23, 35, 36, 37] [] [(-9223372036854775808 ≤ (((j + 1) : Nat) : Int) ∧ (((j + 1) : Nat) : Int) ≤ 9223372036854775807)] ⟨60, [(1, .one (.rs (.rows b))), (2, .one (.ro (.ints .i64 p))), (10, .one (.int .i64 ((i : Nat) : Int))), (21, .one (.rs (.rows a))), (22, .one (.int .i64 ((a.length : Nat) : Int))), (23, .one (.int .i64 ((i : Nat) : Int))), (35, .one (.ro (.ints .i64 (List.take (Int.toNat (rk (List.getD a i []) (List.getD p i 0))) (List.getD a i []))))), (36, .one (.int .i64 (((List.length (List.take (Int.toNat (rk (List.getD a i []) (List.getD p i 0))) (List.getD a i []))) : Nat) : Int))), (37, .one (.int .i64 (((j + 1) : Nat) : Int)))], []⟩ hT (by kernel_rfl) ⟨(by first | omega | (simp only [lens]; omega) | (simp only [Bool.cond_decide]; omega)), trivial⟩ ?_
          refine loop_end _ ?_ ⟨(j + 1), ⟨(by omega), (by exact hqs), rfl⟩, (by kernel_rfl)⟩
          omega
      · -- no 8
        try simp only [bs] at c8
        have hnone : rowFind b p (i : Int) (List.take (Int.toNat (rk (List.getD a i []) (List.getD p i 0))) (List.getD a i [])) = none := by rw [← hq]; exact rowFind_end (by omega)
        have hpn := partFrom_none (b := b) (p := p) hil hnone
        refine awp_exit ?_
        refine awp_run [1, 2, 21, 22, 23] [] [(-9223372036854775808 ≤ (((i + 1) : Nat) : Int) ∧ (((i + 1) : Nat) : Int) ≤ 9223372036854775807)] ⟨60, [(1, .one (.rs (.rows b))), (2, .one (.ro (.ints .i64 p))), (21, .one (.rs (.rows a))), (22, .one (.int .i64 ((a.length : Nat) : Int))), (23, .one (.int .i64 (((i + 1) : Nat) : Int)))], []⟩ hT (by kernel_rfl) ⟨(by first | omega | (simp only [lens]; omega) | (simp only [Bool.cond_decide]; omega)), trivial⟩ ?_
        refine loop_end _ ?_ ⟨(i + 1), ⟨(by omega), (by rw [← hP, hpn]), rfl⟩, (by kernel_rfl)⟩
        omega
    · -- no 5
      try simp only [bs] at c5
      have hn : partOf a b p = none := by rw [← hP]; exact partFrom_end (by omega)
      have hpe : pairErr a b p = 5 := pairErr_none hpe0 hn
      refine awp_exit ?_
      refine awp_run_seq [6, 7, 8] [] [] ⟨60, [(6, .one (.int .i64 0)), (7, .one (.int .i64 0)), (8, .one (.int .i64 5))], []⟩ hT (by kernel_rfl) trivial ?_
      refine awp_ret ?_
      refine kRet.ret _ [] [] (.tup [(false, [(.int .i64 0)]), (false, [(.int .i64 0)]), (false, [(.int .i64 5)])]) [] (by kernel_rfl) trivial ?_
      exact ⟨by first | rw [show (pairI a b p) = 0 from Eq.symm (by rw [pairI, hpe]; rfl), show (pairK a b p) = 0 from Eq.symm (by rw [pairK, hpe]; rfl), show (pairErr a b p) = 5 from Eq.symm (by exact hpe.symm)] | rw [show (pairI a b p) = 0 from Eq.symm (by rw [pairI, hpe]; rfl)] | rw [show (pairK a b p) = 0 from Eq.symm (by rw [pairK, hpe]; rfl)] | rw [show (pairErr a b p) = 5 from Eq.symm (by exact hpe.symm)], rfl⟩

theorem ref_rank (l : List Int) (x : Int) : ACall Try.prog 47 [.one (.ro (.ints .i64 l)), .one (.int .i64 x)] [] (fun ov oh => ov = .one (.int .i64 (rk l x)) ∧ oh = []) := by
  refine acall_intro hT Try.func47 rfl (by kernel_rfl) rfl (by kernel_rfl) ?_
  refine awp_run_seq [0, 1] [] [] ⟨8, [(0, .one (.ro (.ints .i64 l))), (1, .one (.int .i64 x))], []⟩ hT (by kernel_rfl) trivial ?_
  refine awp_seq (awp_region ?_)
  refine aops_run 2 [5, 6] [] [] ⟨8, [(5, .one (.ro (.ints .i64 l))), (6, .one (.int .i64 x))], []⟩ hT (by kernel_rfl) (by kernel_rfl) trivial ?_
  refine aops_pure false ⟨true, [], 95, [.one (.ro (.ints .i64 l)), .one (.int .i64 x)], []⟩ [.one (.ro (.ints .i64 l)), .one (.int .i64 x)] (.one (.int .i64 (rk l x))) ⟨8, [(5, .one (.ro (.ints .i64 l))), (6, .one (.int .i64 x)), (7, .one (.int .i64 (rk l x)))], []⟩ (by kernel_rfl) (by kernel_rfl) (fun _ => trivial) rfl (fun _ => index_ints l x) ?_
  refine aops_run 1 [4] [] [] ⟨8, [(4, .one (.int .i64 (rk l x)))], []⟩ hT (by kernel_rfl) (by kernel_rfl) trivial ?_
  refine aops_end_seq (by kernel_rfl) ?_
  refine awp_ret ?_
  refine kRet.ret _ [] [] (.one (.int .i64 (rk l x))) [] (by kernel_rfl) trivial ?_
  exact ⟨rfl, rfl⟩

end Go.Ab
