/- Of trees: Decode. -/
import Derived.Test.YtakfbagokponeaaTab
import Derived.Test.YtakfbagokponeaaG1
import Derived.Test.YtakfbagokponeaaPlTree2
set_option maxRecDepth 100000
namespace Go.Ab
open Go Go.Proofs
theorem index_fst (l : List Int) : ACall Try.prog 72 [.one (.ro (.ints .i64 l)), .one (.int .i64 0)] [] (fun ov oh => ov = .one (.int .i64 (fst0 l)) ∧ oh = []) := by
  refine acall_intro hT Try.func72 rfl (by kernel_rfl) rfl (by kernel_rfl) ?_
  refine awp_len 0 0 (.ints .i64 l) (by kernel_rfl) (fun hlen => ?_)
  simp only [C0.len, maxLen] at hlen
  refine awp_run_seq [0, 1] [] [] ⟨19, [(0, .one (.ro (.ints .i64 l))), (1, .one (.int .i64 0))], []⟩ hT (by kernel_rfl) trivial ?_
  refine awp_seq ?_
  refine awp_run_seq [0, 1, 7, 8] [] [] ⟨19, [(0, .one (.ro (.ints .i64 l))), (1, .one (.int .i64 0)), (7, .one (.int .i64 ((l.length : Nat) : Int))), (8, .one (.int .i64 0))], []⟩ hT (by kernel_rfl) trivial ?_
  refine awp_block ?_
  refine awp_loop (I := fun κ σ => ∃ (i : Nat), ((i ≤ l.length) ∧ (∀ j, j < i → l.getD j 0 ≠ 0) ∧ l.length - i = κ) ∧ σ = ⟨19, [(0, .one (.ro (.ints .i64 l))), (1, .one (.int .i64 0)), (7, .one (.int .i64 ((l.length : Nat) : Int))), (8, .one (.int .i64 (i : Int)))], []⟩) _ ⟨0, ⟨(by omega), (by intro j hj; omega), rfl⟩, (by kernel_rfl)⟩ ?_
  rintro κ _ ⟨i, ⟨hi, hp, rfl⟩, rfl⟩
  refine awp_run_seq [0, 1, 7, 8, 9] [] [] ⟨19, [(0, .one (.ro (.ints .i64 l))), (1, .one (.int .i64 0)), (7, .one (.int .i64 ((l.length : Nat) : Int))), (8, .one (.int .i64 (i : Int))), (9, .one (.bool (decide ((i : Int) < ((l.length : Nat) : Int)))))], []⟩ hT (by kernel_rfl) trivial ?_
  refine awp_seq ?_
  refine awp_cond (b := (decide ((i : Int) < ((l.length : Nat) : Int)))) (by kernel_rfl) (fun c2 => ?_) (fun c2 => ?_)
  ·
    try simp only [bs] at c2
    refine awp_skip ?_
    refine awp_seq ?_
    refine awp_block ?_
    refine awp_run_seq [0, 1, 5, 7, 8] [] [] ⟨19, [(0, .one (.ro (.ints .i64 l))), (1, .one (.int .i64 0)), (5, .one (.int .i64 (i : Int))), (7, .one (.int .i64 ((l.length : Nat) : Int))), (8, .one (.int .i64 (i : Int)))], []⟩ hT (by kernel_rfl) trivial ?_
    refine awp_run_seq [0, 1, 5, 7, 8, 16] [] [((0 : Int) ≤ (i : Int)), ((i : Int) < ((l.length : Nat) : Int))] ⟨19, [(0, .one (.ro (.ints .i64 l))), (1, .one (.int .i64 0)), (5, .one (.int .i64 (i : Int))), (7, .one (.int .i64 ((l.length : Nat) : Int))), (8, .one (.int .i64 (i : Int))), (16, .one (.bool (decide ((0 : Int) = (List.getD l i 0)))))], []⟩ hT (by kernel_rfl) ⟨(by omega), (by omega), trivial⟩ ?_
    refine awp_cond (b := (decide ((0 : Int) = (List.getD l i 0)))) (by kernel_rfl) (fun c4 => ?_) (fun c4 => ?_)
    ·
      try simp only [bs] at c4
      refine awp_run_seq [4] [] [] ⟨19, [(4, .one (.int .i64 (i : Int)))], []⟩ hT (by kernel_rfl) trivial ?_
      refine awp_ret ?_
      refine kRet.ret _ [] [] (.one (.int .i64 (i : Int))) [] (by kernel_rfl) trivial ?_
      exact ⟨congrArg (fun x1 => (.one (.int .i64 x1) : AV)) (show (i : Int) = (fst0 l) from by exact (fst0_at hp (by omega) c4.symm).symm), rfl⟩
    ·
      try simp only [bs] at c4
      refine awp_skip ?_
      refine awp_run [0, 1, 7, 8] [] [(-9223372036854775808 ≤ (((i + 1) : Nat) : Int) ∧ (((i + 1) : Nat) : Int) ≤ 9223372036854775807)] ⟨19, [(0, .one (.ro (.ints .i64 l))), (1, .one (.int .i64 0)), (7, .one (.int .i64 ((l.length : Nat) : Int))), (8, .one (.int .i64 (((i + 1) : Nat) : Int)))], []⟩ hT (by kernel_rfl) ⟨(by omega), trivial⟩ ?_
      refine loop_end _ ?_ ⟨(i + 1), ⟨(by omega), (by intro j hj; rcases Nat.lt_succ_iff_lt_or_eq.1 hj with h | h; exact hp j h; subst h; exact fun q => c4 q.symm), rfl⟩, (by kernel_rfl)⟩
      omega
  ·
    try simp only [bs] at c2
    refine awp_exit ?_
    refine awp_run_seq [4] [] [] ⟨19, [(4, .one (.int .i64 (-1)))], []⟩ hT (by kernel_rfl) trivial ?_
    refine awp_ret ?_
    refine kRet.ret _ [] [] (.one (.int .i64 (-1))) [] (by kernel_rfl) trivial ?_
    exact ⟨congrArg (fun x1 => (.one (.int .i64 x1) : AV)) (show (-1) = (fst0 l) from by exact (fst0_none (fun j hj => hp j (by omega))).symm), rfl⟩
theorem tree_decode (l : List Int) (hsz : l.length * 8 ≤ 140737488355328) : ACall Try.prog 21 [.one (.ro (.ints .i64 l))] [] (fun ov oh => ov = .tup [(true, [(.int .i64 (okI (decErr l) (((l.length : Nat) : Int) + 2))), (.ro (.arcs (okL (decErr l) (decT (cntL (l.length + 2) l) l))))]), (false, [(.int .i64 (decErr l))])] ∧ oh = []) := by
  refine acall_intro hT Try.func21 rfl (by kernel_rfl) rfl (by kernel_rfl) ?_
  refine awp_len 0 0 (.ints .i64 l) (by kernel_rfl) (fun hlen => ?_)
  simp only [C0.len, maxLen] at hlen
  refine awp_run_seq [0, 2] [102] [] ⟨89, [(0, .one (.ro (.ints .i64 l))), (2, .one (.ptr 102 0 0))], [(102, .box 1 2 [(.int .i64 0), .nils])]⟩ hT (by kernel_rfl) trivial ?_
  refine awp_run_seq [0, 2, 4] [102] [(-9223372036854775808 ≤ (((l.length + 2) : Nat) : Int) ∧ (((l.length + 2) : Nat) : Int) ≤ 9223372036854775807)] ⟨89, [(0, .one (.ro (.ints .i64 l))), (2, .one (.ptr 102 0 0)), (4, .one (.int .i64 (((l.length + 2) : Nat) : Int)))], [(102, .box 1 2 [(.int .i64 0), .nils])]⟩ hT (by kernel_rfl) ⟨(by omega), trivial⟩ ?_
  refine awp_seq ?_
  refine awp_run_seq [0, 2, 4, 17] [102] [] ⟨89, [(0, .one (.ro (.ints .i64 l))), (2, .one (.ptr 102 0 0)), (4, .one (.int .i64 (((l.length + 2) : Nat) : Int))), (17, .one (.bool (decide ((12 : Int) < (((l.length + 2) : Nat) : Int)))))], [(102, .box 1 2 [(.int .i64 0), .nils])]⟩ hT (by kernel_rfl) trivial ?_
  refine awp_cond (b := (decide ((12 : Int) < (((l.length + 2) : Nat) : Int)))) (by kernel_rfl) (fun c2 => ?_) (fun c2 => ?_)
  ·
    try simp only [bs] at c2
    have hD : decErr l = 2 := if_pos (by omega)
    have hD0 : decErr l ≠ 0 := by omega
    refine awp_run_seq [2, 3] [102] [(0 < 1)] ⟨89, [(2, .one (.ptr 102 0 0)), (3, .one (.int .i64 2))], [(102, .box 1 2 [(.int .i64 0), .nils])]⟩ hT (by kernel_rfl) ⟨(by decide), trivial⟩ ?_
    refine awp_weak (awk_boxcell 102 1 1 2 [(.int .i64 0), .nils] (.nils) ((.ro (.arcs []))) _ (by kernel_rfl) rfl (wkv_nil0 rfl)) ?_
    refine awp_ret ?_
    refine kRet.ret _ [] [(0 < 1)] (.tup [(true, [(.int .i64 0), (.ro (.arcs []))]), (false, [(.int .i64 2)])]) [] (by kernel_rfl) ⟨(by decide), trivial⟩ ?_
    exact ⟨by first | rw [show (okI (decErr l) (((l.length : Nat) : Int) + 2)) = 0 from Eq.symm (by first | exact hD.symm | exact (okI_no _ hD0).symm | exact (okL_no _ hD0).symm), show (okL (decErr l) (decT (cntL (l.length + 2) l) l)) = [] from Eq.symm (by first | exact hD.symm | exact (okI_no _ hD0).symm | exact (okL_no _ hD0).symm), show (decErr l) = 2 from Eq.symm (by first | exact hD.symm | exact (okI_no _ hD0).symm | exact (okL_no _ hD0).symm)] | rw [show (okI (decErr l) (((l.length : Nat) : Int) + 2)) = 0 from Eq.symm (by first | exact hD.symm | exact (okI_no _ hD0).symm | exact (okL_no _ hD0).symm)] | rw [show (okL (decErr l) (decT (cntL (l.length + 2) l) l)) = [] from Eq.symm (by first | exact hD.symm | exact (okI_no _ hD0).symm | exact (okL_no _ hD0).symm)] | rw [show (decErr l) = 2 from Eq.symm (by first | exact hD.symm | exact (okI_no _ hD0).symm | exact (okL_no _ hD0).symm)], rfl⟩
  ·
    try simp only [bs] at c2
    have hl10 : l.length ≤ 10 := by omega
    refine awp_skip ?_
    refine awp_run_seq [0, 2, 4, 5] [102, 120] [((0 : Int) ≤ (((l.length + 2) : Nat) : Int)), ((((l.length + 2) : Nat) : Int) ≤ (((l.length + 2) : Nat) : Int)), ((8 : Int) * (((l.length + 2) : Nat) : Int) ≤ 281474976710656), ((((l.length + 2) : Nat) : Int) ≤ 9223372036854775807)] ⟨89, [(0, .one (.ro (.ints .i64 l))), (2, .one (.ptr 102 0 0)), (4, .one (.int .i64 (((l.length + 2) : Nat) : Int))), (5, .one (.rw 120 0 (l.length + 2)))], [(102, .box 1 2 [(.int .i64 0), .nils]), (120, .flat (.ints .i64 (List.replicate (l.length + 2) (0 : Int))))]⟩ hT (by kernel_rfl) ⟨(by omega), (by omega), (by omega), (by omega), trivial⟩ ?_
    refine awp_seq ?_
    refine awp_run_seq [0, 2, 4, 5, 21, 22, 23] [102, 120] [] ⟨89, [(0, .one (.ro (.ints .i64 l))), (2, .one (.ptr 102 0 0)), (4, .one (.int .i64 (((l.length + 2) : Nat) : Int))), (5, .one (.rw 120 0 (l.length + 2))), (21, .one (.ro (.ints .i64 l))), (22, .one (.int .i64 ((l.length : Nat) : Int))), (23, .one (.int .i64 0))], [(102, .box 1 2 [(.int .i64 0), .nils]), (120, .flat (.ints .i64 (List.replicate (l.length + 2) (0 : Int))))]⟩ hT (by kernel_rfl) trivial ?_
    refine awp_block ?_
    refine awp_loop (I := fun κ σ => ∃ (i : Nat) (L : List Int), ((i ≤ l.length) ∧ (L = cntL (l.length + 2) (l.take i)) ∧ (∀ j, j < i → badK l (l.getD j 0) = false) ∧ l.length - i = κ) ∧ σ = ⟨89, [(0, .one (.ro (.ints .i64 l))), (2, .one (.ptr 102 0 0)), (4, .one (.int .i64 (((l.length + 2) : Nat) : Int))), (5, .one (.rw 120 0 (l.length + 2))), (21, .one (.ro (.ints .i64 l))), (22, .one (.int .i64 ((l.length : Nat) : Int))), (23, .one (.int .i64 (i : Int)))], [(102, .box 1 2 [(.int .i64 0), .nils]), (120, .flat (.ints .i64 L))]⟩) _ ⟨0, (List.replicate (l.length + 2) 0), ⟨(by omega), (by exact cntL_nil.symm), (by intro j hj; omega), rfl⟩, (by kernel_rfl)⟩ ?_
    rintro κ _ ⟨i, L, ⟨hi, hL, hno, rfl⟩, rfl⟩
    have hLl : L.length = l.length + 2 := by rw [hL]; exact cntL_len _ _
    refine awp_run_seq [0, 2, 4, 5, 21, 22, 23, 24] [102, 120] [] ⟨89, [(0, .one (.ro (.ints .i64 l))), (2, .one (.ptr 102 0 0)), (4, .one (.int .i64 (((l.length + 2) : Nat) : Int))), (5, .one (.rw 120 0 (l.length + 2))), (21, .one (.ro (.ints .i64 l))), (22, .one (.int .i64 ((l.length : Nat) : Int))), (23, .one (.int .i64 (i : Int))), (24, .one (.bool (decide ((i : Int) < ((l.length : Nat) : Int)))))], [(102, .box 1 2 [(.int .i64 0), .nils]), (120, .flat (.ints .i64 L))]⟩ hT (by kernel_rfl) trivial ?_
    refine awp_seq ?_
    refine awp_cond (b := (decide ((i : Int) < ((l.length : Nat) : Int)))) (by kernel_rfl) (fun c6 => ?_) (fun c6 => ?_)
    ·
      try simp only [bs] at c6
      refine awp_skip ?_
      refine awp_seq ?_
      refine awp_block ?_
      refine awp_run_seq [0, 2, 4, 5, 7, 21, 22, 23] [102, 120] [((0 : Int) ≤ (i : Int)), ((i : Int) < ((l.length : Nat) : Int))] ⟨89, [(0, .one (.ro (.ints .i64 l))), (2, .one (.ptr 102 0 0)), (4, .one (.int .i64 (((l.length + 2) : Nat) : Int))), (5, .one (.rw 120 0 (l.length + 2))), (7, .one (.int .i64 (List.getD l i 0))), (21, .one (.ro (.ints .i64 l))), (22, .one (.int .i64 ((l.length : Nat) : Int))), (23, .one (.int .i64 (i : Int)))], [(102, .box 1 2 [(.int .i64 0), .nils]), (120, .flat (.ints .i64 L))]⟩ hT (by kernel_rfl) ⟨(by omega), (by omega), trivial⟩ ?_
      refine awp_seq ?_
      refine awp_run_seq [0, 2, 4, 5, 7, 21, 22, 23, 33] [102, 120] [((!(decide ((List.getD l i 0) < 0))) = true → ((!(decide ((List.getD l i 0) < 0))) = true → (!(decide ((List.getD l i 0) < 0))) = true)), ((!(decide ((List.getD l i 0) < 0))) = true → ((!(decide ((List.getD l i 0) < 0))) = true → (!(decide ((List.getD l i 0) < 0))) = true)), ((!(decide ((List.getD l i 0) < 0))) = true → (!(decide ((List.getD l i 0) < 0))) = true)] ⟨89, [(0, .one (.ro (.ints .i64 l))), (2, .one (.ptr 102 0 0)), (4, .one (.int .i64 (((l.length + 2) : Nat) : Int))), (5, .one (.rw 120 0 (l.length + 2))), (7, .one (.int .i64 (List.getD l i 0))), (21, .one (.ro (.ints .i64 l))), (22, .one (.int .i64 ((l.length : Nat) : Int))), (23, .one (.int .i64 (i : Int))), (33, .one (.bool ((decide ((List.getD l i 0) < 0)) || (decide ((((l.length + 2) : Nat) : Int) ≤ (List.getD l i 0))))))], [(102, .box 1 2 [(.int .i64 0), .nils]), (120, .flat (.ints .i64 L))]⟩ hT (by kernel_rfl) ⟨(by intro hg; first | exact hg | skip; (try simp only [bs] at hg ⊢); first | exact hg | first | omega | (simp only [lens]; omega) | (simp only [Bool.cond_decide]; omega) | (simp only [nadd_eq]; omega) | grind), (by intro hg; first | exact hg | skip; (try simp only [bs] at hg ⊢); first | exact hg | first | omega | (simp only [lens]; omega) | (simp only [Bool.cond_decide]; omega) | (simp only [nadd_eq]; omega) | grind), (fun h => h), trivial⟩ ?_
      refine awp_cond (b := ((decide ((List.getD l i 0) < 0)) || (decide ((((l.length + 2) : Nat) : Int) ≤ (List.getD l i 0))))) (by kernel_rfl) (fun c8 => ?_) (fun c8 => ?_)
      ·
        try simp only [bs] at c8
        have hbad : l.any (badK l) = true := any_at (d := 0) (i := i) (by omega) (by rw [badK, Bool.or_eq_true, decide_eq_true_eq, decide_eq_true_eq]; omega)
        have hD : decErr l = 4 := by rw [decErr, if_neg (by omega), if_pos hbad]
        have hD0 : decErr l ≠ 0 := by omega
        refine awp_run_seq [2, 3] [102] [(0 < 1)] ⟨89, [(2, .one (.ptr 102 0 0)), (3, .one (.int .i64 4))], [(102, .box 1 2 [(.int .i64 0), .nils])]⟩ hT (by kernel_rfl) ⟨(by decide), trivial⟩ ?_
        refine awp_weak (awk_boxcell 102 1 1 2 [(.int .i64 0), .nils] (.nils) ((.ro (.arcs []))) _ (by kernel_rfl) rfl (wkv_nil0 rfl)) ?_
        refine awp_ret ?_
        refine kRet.ret _ [] [(0 < 1)] (.tup [(true, [(.int .i64 0), (.ro (.arcs []))]), (false, [(.int .i64 4)])]) [] (by kernel_rfl) ⟨(by decide), trivial⟩ ?_
        exact ⟨by first | rw [show (okI (decErr l) (((l.length : Nat) : Int) + 2)) = 0 from Eq.symm (by first | exact hD.symm | exact (okI_no _ hD0).symm | exact (okL_no _ hD0).symm), show (okL (decErr l) (decT (cntL (l.length + 2) l) l)) = [] from Eq.symm (by first | exact hD.symm | exact (okI_no _ hD0).symm | exact (okL_no _ hD0).symm), show (decErr l) = 4 from Eq.symm (by first | exact hD.symm | exact (okI_no _ hD0).symm | exact (okL_no _ hD0).symm)] | rw [show (okI (decErr l) (((l.length : Nat) : Int) + 2)) = 0 from Eq.symm (by first | exact hD.symm | exact (okI_no _ hD0).symm | exact (okL_no _ hD0).symm)] | rw [show (okL (decErr l) (decT (cntL (l.length + 2) l) l)) = [] from Eq.symm (by first | exact hD.symm | exact (okI_no _ hD0).symm | exact (okL_no _ hD0).symm)] | rw [show (decErr l) = 4 from Eq.symm (by first | exact hD.symm | exact (okI_no _ hD0).symm | exact (okL_no _ hD0).symm)], rfl⟩
      ·
        try simp only [bs] at c8
        have hnb : badK l (l.getD i 0) = false := by rw [badK, Bool.or_eq_false_iff, decide_eq_false_iff_not, decide_eq_false_iff_not]; omega
        have hob := cntL_le (m := (l.length + 2)) (l := l.take i) (v := (l.getD i 0).toNat)
        rw [← hL, List.length_take] at hob
        refine awp_skip ?_
        refine awp_run [0, 2, 4, 5, 21, 22, 23] [102, 120] [((0 : Int) ≤ (List.getD l i 0)), ((List.getD l i 0) < (((l.length + 2) : Nat) : Int)), ((Int.toNat (List.getD l i 0)) < L.length), (-9223372036854775808 ≤ ((List.getD L (Int.toNat (List.getD l i 0)) 0) + 1) ∧ ((List.getD L (Int.toNat (List.getD l i 0)) 0) + 1) ≤ 9223372036854775807), ((0 : Int) ≤ (List.getD l i 0)), ((List.getD l i 0) < (((l.length + 2) : Nat) : Int)), ((Int.toNat (List.getD l i 0)) < L.length)] ⟨89, [(0, .one (.ro (.ints .i64 l))), (2, .one (.ptr 102 0 0)), (4, .one (.int .i64 (((l.length + 2) : Nat) : Int))), (5, .one (.rw 120 0 (l.length + 2))), (21, .one (.ro (.ints .i64 l))), (22, .one (.int .i64 ((l.length : Nat) : Int))), (23, .one (.int .i64 (i : Int)))], [(102, .box 1 2 [(.int .i64 0), .nils]), (120, .flat (.ints .i64 (List.set L (Int.toNat (List.getD l i 0)) ((List.getD L (Int.toNat (List.getD l i 0)) 0) + 1))))]⟩ hT (by kernel_rfl) ⟨(by omega), (by omega), (by omega), (by omega), (by omega), (by omega), (by omega), trivial⟩ ?_
        refine awp_run [0, 2, 4, 5, 21, 22, 23] [102, 120] [(-9223372036854775808 ≤ (((i + 1) : Nat) : Int) ∧ (((i + 1) : Nat) : Int) ≤ 9223372036854775807)] ⟨89, [(0, .one (.ro (.ints .i64 l))), (2, .one (.ptr 102 0 0)), (4, .one (.int .i64 (((l.length + 2) : Nat) : Int))), (5, .one (.rw 120 0 (l.length + 2))), (21, .one (.ro (.ints .i64 l))), (22, .one (.int .i64 ((l.length : Nat) : Int))), (23, .one (.int .i64 (((i + 1) : Nat) : Int)))], [(102, .box 1 2 [(.int .i64 0), .nils]), (120, .flat (.ints .i64 (List.set L (Int.toNat (List.getD l i 0)) ((List.getD L (Int.toNat (List.getD l i 0)) 0) + 1))))]⟩ hT (by kernel_rfl) ⟨(by omega), trivial⟩ ?_
        refine loop_end _ ?_ ⟨(i + 1), (List.set L (Int.toNat (List.getD l i 0)) ((List.getD L (Int.toNat (List.getD l i 0)) 0) + 1)), ⟨(by omega), (by rw [cntL_step (by omega) (by omega) (by omega), ← hL]), (by intro j hj; rcases Nat.lt_succ_iff_lt_or_eq.1 hj with h | h; exact hno j h; subst h; exact hnb), rfl⟩, (by kernel_rfl)⟩
        omega
    ·
      try simp only [bs] at c6
      have hD : decErr l = 0 := by rw [decErr, if_neg (by omega), if_neg (by rw [any_none (d := 0) (fun j hj => hno j (by omega))]; decide)]
      have hrg := (decErr_ok hD).2
      have hLz : L = cntL (l.length + 2) l := by rw [hL, List.take_of_length_le (by omega)]
      have hst := lft_start hrg
      refine awp_exit ?_
      refine awp_run_seq [0, 2, 5, 8] [102, 108, 120] [(0 < 1)] ⟨89, [(0, .one (.ro (.ints .i64 l))), (2, .one (.ptr 102 0 0)), (5, .one (.rw 120 0 (l.length + 2))), (8, .one (.ptr 108 0 0))], [(102, .box 1 2 [(.int .i64 0), .nils]), (108, .box 1 2 [(.int .i64 (((l.length + 2) : Nat) : Int)), .nils]), (120, .flat (.ints .i64 L))]⟩ hT (by kernel_rfl) ⟨(by decide), trivial⟩ ?_
      refine awp_seq ?_
      refine awp_run_seq [2, 5, 8, 44, 45, 46] [102, 108, 120] [] ⟨89, [(2, .one (.ptr 102 0 0)), (5, .one (.rw 120 0 (l.length + 2))), (8, .one (.ptr 108 0 0)), (44, .one (.ro (.ints .i64 l))), (45, .one (.int .i64 ((l.length : Nat) : Int))), (46, .one (.int .i64 0))], [(102, .box 1 2 [(.int .i64 0), .nils]), (108, .box 1 2 [(.int .i64 (((l.length + 2) : Nat) : Int)), .nils]), (120, .flat (.ints .i64 L))]⟩ hT (by kernel_rfl) trivial ?_
      refine awp_block ?_
      refine awp_weak (awk_empty 6801 (.flat (.arcs [])) rfl (by decide) _) ?_
      refine awp_weak (awk_boxcell 108 1 1 2 [(.int .i64 (((l.length + 2) : Nat) : Int)), .nils] .nils (.rw 6801 0 0) _ (by kernel_rfl) rfl (wkv_nils (o := .flat (.arcs [])) (by kernel_rfl))) ?_
      refine awp_loop (I := fun κ σ => ∃ (i : Nat) (L : List Int) (b : List Arc), ((i ≤ l.length) ∧ (Lft (l.length + 2) L (l.drop i)) ∧ (b ++ decT L (l.drop i) = decT (cntL (l.length + 2) l) l) ∧ l.length - i = κ) ∧ σ = ⟨89, [(2, .one (.ptr 102 0 0)), (5, .one (.rw 120 0 (l.length + 2))), (8, .one (.ptr 108 0 0)), (44, .one (.ro (.ints .i64 l))), (45, .one (.int .i64 ((l.length : Nat) : Int))), (46, .one (.int .i64 (i : Int)))], [(102, .box 1 2 [(.int .i64 0), .nils]), (108, .box 1 2 [(.int .i64 (((l.length : Nat) : Int) + 2)), (.rw 6801 0 b.length)]), (120, .flat (.ints .i64 L)), (6801, .flat (.arcs b))]⟩) _ ⟨0, L, [], ⟨(by omega), (by rw [hLz]; exact hst), (by rw [hLz]; rfl), rfl⟩, (by kernel_rfl)⟩ ?_
      rintro κ _ ⟨i, L, b, ⟨hi, hLf, hb, rfl⟩, rfl⟩
      have hLl := hLf.len
      have htk1 : fst0 (List.take (l.length + 2) L) = fst0 L := by rw [List.take_of_length_le (by omega)]
      have htk2 : fst0 (List.take (l.length + 2) (List.set L (Int.toNat (fst0 L)) (-1))) = fst0 (List.set L (Int.toNat (fst0 L)) (-1)) := by rw [List.take_of_length_le (by rw [List.length_set]; omega)]
      have hbl := congrArg List.length hb
      rw [List.length_append, dec_len, dec_len, List.length_drop] at hbl
      refine awp_run_seq [2, 5, 8, 44, 45, 46, 47] [102, 108, 120, 6801] [] ⟨89, [(2, .one (.ptr 102 0 0)), (5, .one (.rw 120 0 (l.length + 2))), (8, .one (.ptr 108 0 0)), (44, .one (.ro (.ints .i64 l))), (45, .one (.int .i64 ((l.length : Nat) : Int))), (46, .one (.int .i64 (i : Int))), (47, .one (.bool (decide ((i : Int) < ((l.length : Nat) : Int)))))], [(102, .box 1 2 [(.int .i64 0), .nils]), (108, .box 1 2 [(.int .i64 (((l.length : Nat) : Int) + 2)), (.rw 6801 0 b.length)]), (120, .flat (.ints .i64 L)), (6801, .flat (.arcs b))]⟩ hT (by kernel_rfl) trivial ?_
      refine awp_seq ?_
      refine awp_cond (b := (decide ((i : Int) < ((l.length : Nat) : Int)))) (by kernel_rfl) (fun c14 => ?_) (fun c14 => ?_)
      ·
        try simp only [bs] at c14
        have hdr := drop_cons (l := l) (i := i) (by omega)
        rw [hdr] at hLf hb
        obtain ⟨f, f1, f2, f3, f4, k0, k1, k2, hne⟩ := hLf.head
        have hhi := hLf.hi (v := (l.getD i 0).toNat) (by omega)
        rw [List.length_cons, List.length_drop] at hhi
        have hsg : (L.set (Int.toNat (fst0 L)) (-1)).getD (Int.toNat (l.getD i 0)) 0 = L.getD (Int.toNat (l.getD i 0)) 0 := by rw [getD_set_ne _ _ _ _ _ (by omega)]
        have hnx := hLf.next
        refine awp_skip ?_
        refine awp_seq ?_
        refine awp_block ?_
        refine awp_run_seq [2, 5, 8, 10, 44, 45, 46] [102, 108, 120, 6801] [((0 : Int) ≤ (i : Int)), ((i : Int) < ((l.length : Nat) : Int))] ⟨89, [(2, .one (.ptr 102 0 0)), (5, .one (.rw 120 0 (l.length + 2))), (8, .one (.ptr 108 0 0)), (10, .one (.int .i64 (List.getD l i 0))), (44, .one (.ro (.ints .i64 l))), (45, .one (.int .i64 ((l.length : Nat) : Int))), (46, .one (.int .i64 (i : Int)))], [(102, .box 1 2 [(.int .i64 0), .nils]), (108, .box 1 2 [(.int .i64 (((l.length : Nat) : Int) + 2)), (.rw 6801 0 b.length)]), (120, .flat (.ints .i64 L)), (6801, .flat (.arcs b))]⟩ hT (by kernel_rfl) ⟨(by omega), (by omega), trivial⟩ ?_
        refine awp_seq (awp_region ?_)
        refine aops_run 1 [2, 5, 8, 10, 44, 45, 46, 50] [102, 108, 120, 6801] [] ⟨89, [(2, .one (.ptr 102 0 0)), (5, .one (.rw 120 0 (l.length + 2))), (8, .one (.ptr 108 0 0)), (10, .one (.int .i64 (List.getD l i 0))), (44, .one (.ro (.ints .i64 l))), (45, .one (.int .i64 ((l.length : Nat) : Int))), (46, .one (.int .i64 (i : Int))), (50, .one (.rw 120 0 (l.length + 2)))], [(102, .box 1 2 [(.int .i64 0), .nils]), (108, .box 1 2 [(.int .i64 (((l.length : Nat) : Int) + 2)), (.rw 6801 0 b.length)]), (120, .flat (.ints .i64 L)), (6801, .flat (.arcs b))]⟩ hT (by kernel_rfl) (by kernel_rfl) trivial ?_
        refine aops_pure true ⟨true, [], 72, [.one (.ro (.ints .i64 (List.take (l.length + 2) L))), .one (.int .i64 0)], []⟩ [.one (.ro (.ints .i64 (List.take (l.length + 2) L))), .one (.int .i64 0)] (.one (.int .i64 (fst0 (List.take (l.length + 2) L)))) ⟨89, [(2, .one (.ptr 102 0 0)), (5, .one (.rw 120 0 (l.length + 2))), (8, .one (.ptr 108 0 0)), (10, .one (.int .i64 (List.getD l i 0))), (44, .one (.ro (.ints .i64 l))), (45, .one (.int .i64 ((l.length : Nat) : Int))), (46, .one (.int .i64 (i : Int))), (50, .one (.rw 120 0 (l.length + 2))), (51, .one (.int .i64 (fst0 (List.take (l.length + 2) L))))], [(102, .box 1 2 [(.int .i64 0), .nils]), (108, .box 1 2 [(.int .i64 (((l.length : Nat) : Int) + 2)), (.rw 6801 0 b.length)]), (120, .flat (.ints .i64 L)), (6801, .flat (.arcs b))]⟩ (by kernel_rfl) (by kernel_rfl) (fun _ => trivial) rfl (fun _ => index_fst (List.take (l.length + 2) L)) ?_
        refine aops_run 1 [2, 5, 8, 10, 11, 44, 45, 46] [102, 108, 120, 6801] [] ⟨89, [(2, .one (.ptr 102 0 0)), (5, .one (.rw 120 0 (l.length + 2))), (8, .one (.ptr 108 0 0)), (10, .one (.int .i64 (List.getD l i 0))), (11, .one (.int .i64 (fst0 (List.take (l.length + 2) L)))), (44, .one (.ro (.ints .i64 l))), (45, .one (.int .i64 ((l.length : Nat) : Int))), (46, .one (.int .i64 (i : Int)))], [(102, .box 1 2 [(.int .i64 0), .nils]), (108, .box 1 2 [(.int .i64 (((l.length : Nat) : Int) + 2)), (.rw 6801 0 b.length)]), (120, .flat (.ints .i64 L)), (6801, .flat (.arcs b))]⟩ hT (by kernel_rfl) (by kernel_rfl) trivial ?_
        refine aops_end_seq (by kernel_rfl) ?_
        rw [show (fst0 (List.take (l.length + 2) L)) = (fst0 L) from htk1]
        refine awp_run_seq [2, 5, 8, 10, 11, 44, 45, 46] [102, 108, 120, 6801] [((0 : Int) ≤ (fst0 L)), ((fst0 L) < (((l.length + 2) : Nat) : Int)), ((Int.toNat (fst0 L)) < L.length)] ⟨89, [(2, .one (.ptr 102 0 0)), (5, .one (.rw 120 0 (l.length + 2))), (8, .one (.ptr 108 0 0)), (10, .one (.int .i64 (List.getD l i 0))), (11, .one (.int .i64 (fst0 L))), (44, .one (.ro (.ints .i64 l))), (45, .one (.int .i64 ((l.length : Nat) : Int))), (46, .one (.int .i64 (i : Int)))], [(102, .box 1 2 [(.int .i64 0), .nils]), (108, .box 1 2 [(.int .i64 (((l.length : Nat) : Int) + 2)), (.rw 6801 0 b.length)]), (120, .flat (.ints .i64 (List.set L (Int.toNat (fst0 L)) (-1)))), (6801, .flat (.arcs b))]⟩ hT (by kernel_rfl) ⟨(by omega), (by omega), (by omega), trivial⟩ ?_
        refine awp_run_seq [2, 5, 8, 10, 11, 44, 45, 46] [102, 108, 120, 6801] [((0 : Int) ≤ (List.getD l i 0)), ((List.getD l i 0) < (((l.length + 2) : Nat) : Int)), ((Int.toNat (List.getD l i 0)) < (List.length (List.set L (Int.toNat (fst0 L)) (-1)))), (-9223372036854775808 ≤ ((List.getD (List.set L (Int.toNat (fst0 L)) (-1)) (Int.toNat (List.getD l i 0)) 0) - 1) ∧ ((List.getD (List.set L (Int.toNat (fst0 L)) (-1)) (Int.toNat (List.getD l i 0)) 0) - 1) ≤ 9223372036854775807), ((0 : Int) ≤ (List.getD l i 0)), ((List.getD l i 0) < (((l.length + 2) : Nat) : Int)), ((Int.toNat (List.getD l i 0)) < (List.length (List.set L (Int.toNat (fst0 L)) (-1))))] ⟨89, [(2, .one (.ptr 102 0 0)), (5, .one (.rw 120 0 (l.length + 2))), (8, .one (.ptr 108 0 0)), (10, .one (.int .i64 (List.getD l i 0))), (11, .one (.int .i64 (fst0 L))), (44, .one (.ro (.ints .i64 l))), (45, .one (.int .i64 ((l.length : Nat) : Int))), (46, .one (.int .i64 (i : Int)))], [(102, .box 1 2 [(.int .i64 0), .nils]), (108, .box 1 2 [(.int .i64 (((l.length : Nat) : Int) + 2)), (.rw 6801 0 b.length)]), (120, .flat (.ints .i64 (List.set (List.set L (Int.toNat (fst0 L)) (-1)) (Int.toNat (List.getD l i 0)) ((List.getD (List.set L (Int.toNat (fst0 L)) (-1)) (Int.toNat (List.getD l i 0)) 0) - 1)))), (6801, .flat (.arcs b))]⟩ hT (by kernel_rfl) ⟨(by first | omega | (simp only [lens]; omega) | (simp only [Bool.cond_decide]; omega) | (simp only [nadd_eq]; omega)), (by first | omega | (simp only [lens]; omega) | (simp only [Bool.cond_decide]; omega) | (simp only [nadd_eq]; omega)), (by first | omega | (simp only [lens]; omega) | (simp only [Bool.cond_decide]; omega) | (simp only [nadd_eq]; omega)), (by first | omega | (simp only [lens]; omega) | (simp only [Bool.cond_decide]; omega) | (simp only [nadd_eq]; omega)), (by first | omega | (simp only [lens]; omega) | (simp only [Bool.cond_decide]; omega) | (simp only [nadd_eq]; omega)), (by first | omega | (simp only [lens]; omega) | (simp only [Bool.cond_decide]; omega) | (simp only [nadd_eq]; omega)), (by first | omega | (simp only [lens]; omega) | (simp only [Bool.cond_decide]; omega) | (simp only [nadd_eq]; omega)), trivial⟩ ?_
        refine awp_region ?_
        refine aops_run 13 [2, 5, 8, 44, 45, 46] [102, 108, 120, 6801] [(0 < 1), (b.length = b.length), ((b.length + 1) * 24 ≤ 140737488355328), ((b.length + 1) ≤ 9223372036854775807), (0 < 1)] ⟨89, [(2, .one (.ptr 102 0 0)), (5, .one (.rw 120 0 (l.length + 2))), (8, .one (.ptr 108 0 0)), (44, .one (.ro (.ints .i64 l))), (45, .one (.int .i64 ((l.length : Nat) : Int))), (46, .one (.int .i64 (i : Int)))], [(102, .box 1 2 [(.int .i64 0), .nils]), (108, .box 1 2 [(.int .i64 (((l.length : Nat) : Int) + 2)), (.rw 6801 0 (b.length + 1))]), (120, .flat (.ints .i64 (List.set (List.set L (Int.toNat (fst0 L)) (-1)) (Int.toNat (List.getD l i 0)) ((List.getD (List.set L (Int.toNat (fst0 L)) (-1)) (Int.toNat (List.getD l i 0)) 0) - 1)))), (6801, .flat (.arcs (b ++ [⟨(min (fst0 L) (List.getD l i 0)), (max (fst0 L) (List.getD l i 0)), 0⟩])))]⟩ hT (by kernel_rfl) (by kernel_rfl) ⟨(by decide), (by omega), (by omega), (by omega), (by decide), trivial⟩ ?_
        refine aops_end (by kernel_rfl) ?_
        refine awp_run [2, 5, 8, 44, 45, 46] [102, 108, 120, 6801] [(-9223372036854775808 ≤ (((i + 1) : Nat) : Int) ∧ (((i + 1) : Nat) : Int) ≤ 9223372036854775807)] ⟨89, [(2, .one (.ptr 102 0 0)), (5, .one (.rw 120 0 (l.length + 2))), (8, .one (.ptr 108 0 0)), (44, .one (.ro (.ints .i64 l))), (45, .one (.int .i64 ((l.length : Nat) : Int))), (46, .one (.int .i64 (((i + 1) : Nat) : Int)))], [(102, .box 1 2 [(.int .i64 0), .nils]), (108, .box 1 2 [(.int .i64 (((l.length : Nat) : Int) + 2)), (.rw 6801 0 (b.length + 1))]), (120, .flat (.ints .i64 (List.set (List.set L (Int.toNat (fst0 L)) (-1)) (Int.toNat (List.getD l i 0)) ((List.getD (List.set L (Int.toNat (fst0 L)) (-1)) (Int.toNat (List.getD l i 0)) 0) - 1)))), (6801, .flat (.arcs (b ++ [⟨(min (fst0 L) (List.getD l i 0)), (max (fst0 L) (List.getD l i 0)), 0⟩])))]⟩ hT (by kernel_rfl) ⟨(by omega), trivial⟩ ?_
        refine loop_end _ ?_ ⟨(i + 1), (List.set (List.set L (Int.toNat (fst0 L)) (-1)) (Int.toNat (List.getD l i 0)) ((List.getD (List.set L (Int.toNat (fst0 L)) (-1)) (Int.toNat (List.getD l i 0)) 0) - 1)), (b ++ [⟨(min (fst0 L) (List.getD l i 0)), (max (fst0 L) (List.getD l i 0)), 0⟩]), ⟨(by omega), (by exact hnx), (by rw [← hb, decT, List.append_assoc]; rfl), rfl⟩, (by first | (simp only [lens]; done) | (simp only [Nat.zero_add]; done) | simp only [lens, Nat.zero_add])⟩
        omega
      ·
        try simp only [bs] at c14
        have hdn : l.drop i = [] := List.drop_of_length_le (by omega)
        rw [hdn] at hLf hb
        obtain ⟨p, q, pq, qn, p1, q1, _⟩ := hLf.two
        have q2 : fst0 (L.set (Int.toNat (fst0 L)) (-1)) = q := by rw [p1]; exact q1
        refine awp_exit ?_
        refine awp_seq (awp_region ?_)
        refine aops_run 1 [2, 5, 8, 74] [102, 108, 120, 6801] [] ⟨89, [(2, .one (.ptr 102 0 0)), (5, .one (.rw 120 0 (l.length + 2))), (8, .one (.ptr 108 0 0)), (74, .one (.rw 120 0 (l.length + 2)))], [(102, .box 1 2 [(.int .i64 0), .nils]), (108, .box 1 2 [(.int .i64 (((l.length : Nat) : Int) + 2)), (.rw 6801 0 b.length)]), (120, .flat (.ints .i64 L)), (6801, .flat (.arcs b))]⟩ hT (by kernel_rfl) (by kernel_rfl) trivial ?_
        refine aops_pure true ⟨true, [], 72, [.one (.ro (.ints .i64 (List.take (l.length + 2) L))), .one (.int .i64 0)], []⟩ [.one (.ro (.ints .i64 (List.take (l.length + 2) L))), .one (.int .i64 0)] (.one (.int .i64 (fst0 (List.take (l.length + 2) L)))) ⟨89, [(2, .one (.ptr 102 0 0)), (5, .one (.rw 120 0 (l.length + 2))), (8, .one (.ptr 108 0 0)), (74, .one (.rw 120 0 (l.length + 2))), (75, .one (.int .i64 (fst0 (List.take (l.length + 2) L))))], [(102, .box 1 2 [(.int .i64 0), .nils]), (108, .box 1 2 [(.int .i64 (((l.length : Nat) : Int) + 2)), (.rw 6801 0 b.length)]), (120, .flat (.ints .i64 L)), (6801, .flat (.arcs b))]⟩ (by kernel_rfl) (by kernel_rfl) (fun _ => trivial) rfl (fun _ => index_fst (List.take (l.length + 2) L)) ?_
        refine aops_run 1 [2, 5, 8, 12] [102, 108, 120, 6801] [] ⟨89, [(2, .one (.ptr 102 0 0)), (5, .one (.rw 120 0 (l.length + 2))), (8, .one (.ptr 108 0 0)), (12, .one (.int .i64 (fst0 (List.take (l.length + 2) L))))], [(102, .box 1 2 [(.int .i64 0), .nils]), (108, .box 1 2 [(.int .i64 (((l.length : Nat) : Int) + 2)), (.rw 6801 0 b.length)]), (120, .flat (.ints .i64 L)), (6801, .flat (.arcs b))]⟩ hT (by kernel_rfl) (by kernel_rfl) trivial ?_
        refine aops_end_seq (by kernel_rfl) ?_
        rw [show (fst0 (List.take (l.length + 2) L)) = (fst0 L) from htk1]
        refine awp_run_seq [2, 5, 8, 12] [102, 108, 120, 6801] [((0 : Int) ≤ (fst0 L)), ((fst0 L) < (((l.length + 2) : Nat) : Int)), ((Int.toNat (fst0 L)) < L.length)] ⟨89, [(2, .one (.ptr 102 0 0)), (5, .one (.rw 120 0 (l.length + 2))), (8, .one (.ptr 108 0 0)), (12, .one (.int .i64 (fst0 L)))], [(102, .box 1 2 [(.int .i64 0), .nils]), (108, .box 1 2 [(.int .i64 (((l.length : Nat) : Int) + 2)), (.rw 6801 0 b.length)]), (120, .flat (.ints .i64 (List.set L (Int.toNat (fst0 L)) (-1)))), (6801, .flat (.arcs b))]⟩ hT (by kernel_rfl) ⟨(by omega), (by omega), (by omega), trivial⟩ ?_
        refine awp_seq (awp_calm2 [(4, ⟨[.one (.ro (.ints .i64 (List.take (l.length + 2) (List.set L (Int.toNat (fst0 L)) (-1))))), .one (.int .i64 0)], .one (.int .i64 (fst0 (List.take (l.length + 2) (List.set L (Int.toNat (fst0 L)) (-1))))), [], []⟩)] true [[], [0], [], [], [3], [2, 3, 4], [2, 3, 4, 5], [0, 1, 2, 3, 4, 5, 6], [0, 1, 2, 3, 4, 5, 6, 7], [0, 1, 2, 3, 4, 5, 6, 7, 8]] 7 [2, 8] [102, 108, 6801] [(0, []), (1, [(0 < 1)]), (2, []), (3, []), (4, [(true = true → (AllP [] ∧ [.one (.ro (.ints .i64 (List.take (l.length + 2) (List.set L (Int.toNat (fst0 L)) (-1))))), .one (.int .i64 0)] = ([.one (.ro (.ints .i64 (List.take (l.length + 2) (List.set L (Int.toNat (fst0 L)) (-1))))), .one (.int .i64 0)] : List AV) ∧ ACall Try.prog 72 [.one (.ro (.ints .i64 (List.take (l.length + 2) (List.set L (Int.toNat (fst0 L)) (-1))))), .one (.int .i64 0)] [] (fun ov oh => ov = .one (.int .i64 (fst0 (List.take (l.length + 2) (List.set L (Int.toNat (fst0 L)) (-1))))) ∧ oh = [])))]), (5, []), (6, [])] [(7, [(b.length = b.length), ((b.length + 1) * 24 ≤ 140737488355328), ((b.length + 1) ≤ 9223372036854775807)]), (8, []), (9, [(0 < 1)])] 1 ⟨89, [(2, .one (.ptr 102 0 0)), (8, .one (.ptr 108 0 0))], [(102, .box 1 2 [(.int .i64 0), .nils]), (108, .box 1 2 [(.int .i64 (((l.length : Nat) : Int) + 2)), (.rw 6801 0 (b.length + 1))]), (6801, .flat (.arcs (b ++ [⟨(fst0 L), (fst0 (List.take (l.length + 2) (List.set L (Int.toNat (fst0 L)) (-1)))), 0⟩])))]⟩ (by kernel_rfl) (by kernel_rfl) hT (by kernel_rfl) (by kernel_rfl) ⟨trivial, ⟨(by decide), trivial⟩, trivial, trivial, ⟨(fun _ => ⟨trivial, rfl, index_fst (List.take (l.length + 2) (List.set L (Int.toNat (fst0 L)) (-1)))⟩), trivial⟩, trivial, trivial, trivial⟩ ⟨⟨(by omega), (by omega), (by omega), trivial⟩, trivial, ⟨(by decide), trivial⟩, trivial⟩ ?_)
        rw [show (fst0 (List.take (l.length + 2) (List.set L (Int.toNat (fst0 L)) (-1)))) = (fst0 (List.set L (Int.toNat (fst0 L)) (-1))) from htk2]
        refine awp_run_seq [2, 3] [102, 6801] [(0 < 1), (0 < 1)] ⟨89, [(2, .one (.ptr 102 0 0)), (3, .one (.int .i64 0))], [(102, .box 1 2 [(.int .i64 (((l.length : Nat) : Int) + 2)), (.rw 6801 0 (b.length + 1))]), (6801, .flat (.arcs (b ++ [⟨(fst0 L), (fst0 (List.set L (Int.toNat (fst0 L)) (-1))), 0⟩])))]⟩ hT (by kernel_rfl) ⟨(by decide), (by decide), trivial⟩ ?_
        refine awp_weak (awk_seal 6801 (s' := ⟨89, [(2, .one (.ptr 102 0 0)), (3, .one (.int .i64 0))], [(102, .box 1 2 [(.int .i64 (((l.length : Nat) : Int) + 2)), (.ro (.arcs (List.take (b.length + 1) (b ++ [⟨(fst0 L), (fst0 (List.set L (Int.toNat (fst0 L)) (-1))), 0⟩]))))])]⟩) (by kernel_rfl)) ?_
        rw [show (List.take (b.length + 1) (b ++ [⟨(fst0 L), (fst0 (List.set L (Int.toNat (fst0 L)) (-1))), 0⟩])) = (b ++ [⟨(fst0 L), (fst0 (List.set L (Int.toNat (fst0 L)) (-1))), 0⟩]) from List.take_of_length_le (by first | omega | simp)]
        refine awp_ret ?_
        refine kRet.ret _ [] [(0 < 1)] (.tup [(true, [(.int .i64 (((l.length : Nat) : Int) + 2)), (.ro (.arcs (b ++ [⟨(fst0 L), (fst0 (List.set L (Int.toNat (fst0 L)) (-1))), 0⟩])))]), (false, [(.int .i64 0)])]) [] (by kernel_rfl) ⟨(by decide), trivial⟩ ?_
        exact ⟨by first | rw [show (okI (decErr l) (((l.length : Nat) : Int) + 2)) = (((l.length : Nat) : Int) + 2) from Eq.symm (by first | exact hD.symm | exact (okI_ok _ hD).symm | (rw [okL_ok _ hD, ← hb]; rfl)), show (okL (decErr l) (decT (cntL (l.length + 2) l) l)) = (b ++ [⟨(fst0 L), (fst0 (List.set L (Int.toNat (fst0 L)) (-1))), 0⟩]) from Eq.symm (by first | exact hD.symm | exact (okI_ok _ hD).symm | (rw [okL_ok _ hD, ← hb]; rfl)), show (decErr l) = 0 from Eq.symm (by first | exact hD.symm | exact (okI_ok _ hD).symm | (rw [okL_ok _ hD, ← hb]; rfl))] | rw [show (okI (decErr l) (((l.length : Nat) : Int) + 2)) = (((l.length : Nat) : Int) + 2) from Eq.symm (by first | exact hD.symm | exact (okI_ok _ hD).symm | (rw [okL_ok _ hD, ← hb]; rfl))] | rw [show (okL (decErr l) (decT (cntL (l.length + 2) l) l)) = (b ++ [⟨(fst0 L), (fst0 (List.set L (Int.toNat (fst0 L)) (-1))), 0⟩]) from Eq.symm (by first | exact hD.symm | exact (okI_ok _ hD).symm | (rw [okL_ok _ hD, ← hb]; rfl))] | rw [show (decErr l) = 0 from Eq.symm (by first | exact hD.symm | exact (okI_ok _ hD).symm | (rw [okL_ok _ hD, ← hb]; rfl))], rfl⟩
end Go.Ab
