/- Of even tables: the pieces, in the reference. -/
import Derived.Test.YtakfbagokponeaaTab
import Derived.Test.YtakfbagokponeaaOrd1
import Derived.Test.YtakfbagokponeaaF2
import Derived.Test.YtakfbagokponeaaRowApp
import Derived.Test.YtakfbagokponeaaFork
import Derived.Test.YtakfbagokponeaaDag
import Derived.Test.YtakfbagokponeaaPlDouble
set_option maxRecDepth 100000
namespace Go.Ab
open Go Go.Proofs
theorem pieces1 (L : List (List Int)) (n : Nat) (p : List Int) (hp : isFull n p) (hsq : Sq n L) (h6 : n ≤ 6) : ACall Try.prog 70 [.one (.ro (.ints .i64 p)), .one (.ptr 1 0 0)] [(1, .box 1 1 [(.rw 2 0 n)]), (2, .mat 2 L)] (fun ov oh => ov = .one (.bool (okNe L p)) ∧ oh = [(1, .box 1 1 [(.rw 2 0 n)]), (2, .mat 2 L)]) := by
  refine acall_intro hT Try.func70 rfl (by kernel_rfl) rfl (by kernel_rfl) ?_
  have hLl := hsq.len
  have hpl := hp.1
  refine awp_run_seq [0, 1] [] [] ⟨22, [(0, .one (.ro (.ints .i64 p))), (1, .one (.ptr 1 0 0))], [(1, .box 1 1 [(.rw 2 0 n)]), (2, .mat 2 L)]⟩ hT (by kernel_rfl) trivial ?_
  refine awp_seq ?_
  refine awp_run_seq [1, 6, 7, 8] [] [] ⟨22, [(1, .one (.ptr 1 0 0)), (6, .one (.ro (.ints .i64 p))), (7, .one (.int .i64 ((p.length : Nat) : Int))), (8, .one (.int .i64 0))], [(1, .box 1 1 [(.rw 2 0 n)]), (2, .mat 2 L)]⟩ hT (by kernel_rfl) trivial ?_
  refine awp_block ?_
  refine awp_loop (I := fun κ σ => ∃ (i : Nat), ((i ≤ p.length) ∧ (∀ j, j < i → at2 L j (p.getD j 0).toNat ≠ 0) ∧ p.length - i = κ) ∧ σ = ⟨22, [(1, .one (.ptr 1 0 0)), (6, .one (.ro (.ints .i64 p))), (7, .one (.int .i64 ((p.length : Nat) : Int))), (8, .one (.int .i64 ((i : Nat) : Int)))], [(1, .box 1 1 [(.rw 2 0 n)]), (2, .mat 2 L)]⟩) _ ⟨0, ⟨(by omega), (by intro j hj; omega), rfl⟩, (by kernel_rfl)⟩ ?_
  rintro κ _ ⟨i, ⟨hi, hz, rfl⟩, rfl⟩
  refine awp_run_seq [1, 6, 7, 8, 9] [] [] ⟨22, [(1, .one (.ptr 1 0 0)), (6, .one (.ro (.ints .i64 p))), (7, .one (.int .i64 ((p.length : Nat) : Int))), (8, .one (.int .i64 ((i : Nat) : Int))), (9, .one (.bool (decide (((i : Nat) : Int) < ((p.length : Nat) : Int)))))], [(1, .box 1 1 [(.rw 2 0 n)]), (2, .mat 2 L)]⟩ hT (by kernel_rfl) trivial ?_
  refine awp_seq ?_
  refine awp_cond (b := (decide (((i : Nat) : Int) < ((p.length : Nat) : Int)))) (by kernel_rfl) (fun c2 => ?_) (fun c2 => ?_)
  · -- yes 2
    try simp only [bs] at c2
    have hin : i < n := by omega
    have hpi := hp.at_ hin
    have hrow := hsq.row i hin
    refine awp_skip ?_
    refine awp_seq ?_
    refine awp_block ?_
    refine awp_run_seq [1, 4, 5, 6, 7, 8] [] [((0 : Int) ≤ ((i : Nat) : Int)), (((i : Nat) : Int) < ((p.length : Nat) : Int))] ⟨22, [(1, .one (.ptr 1 0 0)), (4, .one (.int .i64 ((i : Nat) : Int))), (5, .one (.int .i64 (List.getD p i 0))), (6, .one (.ro (.ints .i64 p))), (7, .one (.int .i64 ((p.length : Nat) : Int))), (8, .one (.int .i64 ((i : Nat) : Int)))], [(1, .box 1 1 [(.rw 2 0 n)]), (2, .mat 2 L)]⟩ hT (by kernel_rfl) ⟨(by first | omega | (simp only [lens]; omega) | (simp only [Bool.cond_decide]; omega) | (simp only [nadd_eq]; omega)), (by first | omega | (simp only [lens]; omega) | (simp only [Bool.cond_decide]; omega) | (simp only [nadd_eq]; omega)), trivial⟩ ?_
    refine awp_run_seq [1, 6, 7, 8, 20] [] [(0 < 1), ((0 : Int) ≤ ((i : Nat) : Int)), (((i : Nat) : Int) < ((n : Nat) : Int)), (i < L.length), ((0 : Int) ≤ (List.getD p i 0)), ((List.getD p i 0) < (((List.length (List.getD L i [])) : Nat) : Int)), ((Int.toNat (List.getD p i 0)) < (List.length (List.getD L i [])))] ⟨22, [(1, .one (.ptr 1 0 0)), (6, .one (.ro (.ints .i64 p))), (7, .one (.int .i64 ((p.length : Nat) : Int))), (8, .one (.int .i64 ((i : Nat) : Int))), (20, .one (.bool (decide ((List.getD (List.getD L i []) (Int.toNat (List.getD p i 0)) 0) = 0))))], [(1, .box 1 1 [(.rw 2 0 n)]), (2, .mat 2 L)]⟩ hT (by kernel_rfl) ⟨(by decide), (by first | omega | (simp only [lens]; omega) | (simp only [Bool.cond_decide]; omega) | (simp only [nadd_eq]; omega)), (by first | omega | (simp only [lens]; omega) | (simp only [Bool.cond_decide]; omega) | (simp only [nadd_eq]; omega)), (by first | omega | (simp only [lens]; omega) | (simp only [Bool.cond_decide]; omega) | (simp only [nadd_eq]; omega)), (by first | omega | (simp only [lens]; omega) | (simp only [Bool.cond_decide]; omega) | (simp only [nadd_eq]; omega)), (by first | omega | (simp only [lens]; omega) | (simp only [Bool.cond_decide]; omega) | (simp only [nadd_eq]; omega)), (by first | omega | (simp only [lens]; omega) | (simp only [Bool.cond_decide]; omega) | (simp only [nadd_eq]; omega)), trivial⟩ ?_
    refine awp_cond (b := (decide ((List.getD (List.getD L i []) (Int.toNat (List.getD p i 0)) 0) = 0))) (by kernel_rfl) (fun c4 => ?_) (fun c4 => ?_)
    · -- yes 4
      try simp only [bs] at c4
      have hno : okNe L p = false := by
        rw [Bool.eq_false_iff]
        intro q
        have h9 := okNe_iff.1 q i (by omega)
        unfold at2 at h9
        omega
      refine awp_run_seq [3] [] [] ⟨22, [(3, .one (.bool false))], [(1, .box 1 1 [(.rw 2 0 n)]), (2, .mat 2 L)]⟩ hT (by kernel_rfl) trivial ?_
      refine awp_ret ?_
      refine kRet.ret _ [] [] (.one (.bool false)) [(1, .box 1 1 [(.rw 2 0 n)]), (2, .mat 2 L)] (by kernel_rfl) trivial ?_
      exact ⟨(by rw [hno]), (by kernel_rfl)⟩
    · -- no 4
      try simp only [bs] at c4
      have hnz : at2 L i (p.getD i 0).toNat ≠ 0 := by unfold at2; omega
      refine awp_skip ?_
      refine awp_run [1, 6, 7, 8] [] [(-9223372036854775808 ≤ (((i + 1) : Nat) : Int) ∧ (((i + 1) : Nat) : Int) ≤ 9223372036854775807)] ⟨22, [(1, .one (.ptr 1 0 0)), (6, .one (.ro (.ints .i64 p))), (7, .one (.int .i64 ((p.length : Nat) : Int))), (8, .one (.int .i64 (((i + 1) : Nat) : Int)))], [(1, .box 1 1 [(.rw 2 0 n)]), (2, .mat 2 L)]⟩ hT (by kernel_rfl) ⟨(by first | omega | (simp only [lens]; omega) | (simp only [Bool.cond_decide]; omega) | (simp only [nadd_eq]; omega)), trivial⟩ ?_
      refine loop_end _ ?_ ⟨(i + 1), ⟨(by omega), (by intro j hj; rcases Nat.lt_succ_iff_lt_or_eq.1 hj with q | q; exact hz j q; subst q; exact hnz), rfl⟩, (by kernel_rfl)⟩
      omega
  · -- no 2
    try simp only [bs] at c2
    have hyes : okNe L p = true := okNe_iff.2 fun j hj => hz j (by omega)
    refine awp_exit ?_
    refine awp_run_seq [3] [] [] ⟨22, [(3, .one (.bool true))], [(1, .box 1 1 [(.rw 2 0 n)]), (2, .mat 2 L)]⟩ hT (by kernel_rfl) trivial ?_
    refine awp_ret ?_
    refine kRet.ret _ [] [] (.one (.bool true)) [(1, .box 1 1 [(.rw 2 0 n)]), (2, .mat 2 L)] (by kernel_rfl) trivial ?_
    exact ⟨(by rw [hyes]), (by kernel_rfl)⟩

theorem idxf_rm (F : FuncId) (p : List Int → Bool) (l : List (List Int)) (n : Nat) (L : List (List Int)) (hF : ∀ x ∈ l, ACall Try.prog F [.one (.ro (.ints .i64 x)), .one (.ptr 1 0 0)] [(1, .box 1 1 [(.rw 2 0 n)]), (2, .mat 2 L)] (fun ov oh => ov = .one (.bool (p x)) ∧ oh = [(1, .box 1 1 [(.rw 2 0 n)]), (2, .mat 2 L)])) : ACall Try.prog 69 [.one (.rs (.rows l)), .one (.fn F [(.ptr 1 0 0)])] [(1, .box 1 1 [(.rw 2 0 n)]), (2, .mat 2 L)] (fun ov oh => ov = .one (.int .i64 (idxOf p l)) ∧ oh = [(1, .box 1 1 [(.rw 2 0 n)]), (2, .mat 2 L)]) := by
  refine acall_intro hT Try.func69 rfl (by kernel_rfl) rfl (by kernel_rfl) ?_
  refine awp_len1 0 0 (.rows l) (by kernel_rfl) (fun hlen => ?_)
  simp only [C1.len, maxLen] at hlen
  refine awp_run_seq [0, 1] [] [] ⟨19, [(0, .one (.rs (.rows l))), (1, .one (.fn F [(.ptr 1 0 0)]))], [(1, .box 1 1 [(.rw 2 0 n)]), (2, .mat 2 L)]⟩ hT (by kernel_rfl) trivial ?_
  refine awp_seq ?_
  refine awp_run_seq [0, 1, 7, 8] [] [] ⟨19, [(0, .one (.rs (.rows l))), (1, .one (.fn F [(.ptr 1 0 0)])), (7, .one (.int .i64 ((l.length : Nat) : Int))), (8, .one (.int .i64 0))], [(1, .box 1 1 [(.rw 2 0 n)]), (2, .mat 2 L)]⟩ hT (by kernel_rfl) trivial ?_
  refine awp_block ?_
  refine awp_loop (I := fun κ σ => ∃ (i : Nat), ((i ≤ l.length) ∧ (∀ j, j < i → p (List.getD l j []) = false) ∧ l.length - i = κ) ∧ σ = ⟨19, [(0, .one (.rs (.rows l))), (1, .one (.fn F [(.ptr 1 0 0)])), (7, .one (.int .i64 ((l.length : Nat) : Int))), (8, .one (.int .i64 ((i : Nat) : Int)))], [(1, .box 1 1 [(.rw 2 0 n)]), (2, .mat 2 L)]⟩) _ ⟨0, ⟨(by omega), (by intro j hj; omega), rfl⟩, (by kernel_rfl)⟩ ?_
  rintro κ _ ⟨i, ⟨hi, hp, rfl⟩, rfl⟩
  refine awp_run_seq [0, 1, 7, 8, 9] [] [] ⟨19, [(0, .one (.rs (.rows l))), (1, .one (.fn F [(.ptr 1 0 0)])), (7, .one (.int .i64 ((l.length : Nat) : Int))), (8, .one (.int .i64 ((i : Nat) : Int))), (9, .one (.bool (decide (((i : Nat) : Int) < ((l.length : Nat) : Int)))))], [(1, .box 1 1 [(.rw 2 0 n)]), (2, .mat 2 L)]⟩ hT (by kernel_rfl) trivial ?_
  refine awp_seq ?_
  refine awp_cond (b := (decide (((i : Nat) : Int) < ((l.length : Nat) : Int)))) (by kernel_rfl) (fun c2 => ?_) (fun c2 => ?_)
  · -- yes 2
    try simp only [bs] at c2
    refine awp_skip ?_
    refine awp_seq ?_
    refine awp_block ?_
    refine awp_run_seq [0, 1, 5, 7, 8] [] [] ⟨19, [(0, .one (.rs (.rows l))), (1, .one (.fn F [(.ptr 1 0 0)])), (5, .one (.int .i64 ((i : Nat) : Int))), (7, .one (.int .i64 ((l.length : Nat) : Int))), (8, .one (.int .i64 ((i : Nat) : Int)))], [(1, .box 1 1 [(.rw 2 0 n)]), (2, .mat 2 L)]⟩ hT (by kernel_rfl) trivial ?_
    refine awp_seq (awp_region ?_)
    refine aops_run 5 [0, 1, 5, 7, 8, 11, 15] [] [((0 : Int) ≤ ((i : Nat) : Int)), (((i : Nat) : Int) < ((l.length : Nat) : Int))] ⟨19, [(0, .one (.rs (.rows l))), (1, .one (.fn F [(.ptr 1 0 0)])), (5, .one (.int .i64 ((i : Nat) : Int))), (7, .one (.int .i64 ((l.length : Nat) : Int))), (8, .one (.int .i64 ((i : Nat) : Int))), (11, .one (.fn F [(.ptr 1 0 0)])), (15, .one (.ro (.ints .i64 (List.getD l i []))))], [(1, .box 1 1 [(.rw 2 0 n)]), (2, .mat 2 L)]⟩ hT (by kernel_rfl) (by kernel_rfl) ⟨(by first | omega | (simp only [lens]; omega) | (simp only [Bool.cond_decide]; omega) | (simp only [nadd_eq]; omega)), (by first | omega | (simp only [lens]; omega) | (simp only [Bool.cond_decide]; omega) | (simp only [nadd_eq]; omega)), trivial⟩ ?_
    refine aops_call [(1, 1), (2, 2)] [] false ⟨true, [], F, [.one (.ro (.ints .i64 (List.getD l i []))), .one (.ptr 1 0 0)], [(1, .box 1 1 [(.rw 2 0 n)]), (2, .mat 2 L)]⟩ [.one (.ro (.ints .i64 (List.getD l i []))), .one (.ptr 1 0 0)] (sm := ⟨19, [(0, .one (.rs (.rows l))), (1, .one (.fn F [(.ptr 1 0 0)])), (5, .one (.int .i64 ((i : Nat) : Int))), (7, .one (.int .i64 ((l.length : Nat) : Int))), (8, .one (.int .i64 ((i : Nat) : Int))), (11, .one (.fn F [(.ptr 1 0 0)])), (15, .one (.ro (.ints .i64 (List.getD l i [])))), (16, .whn false (.one .any))], [(1, .box 1 1 [(.rw 2 0 n)]), (2, .mat 2 L)]⟩) (by kernel_rfl) (by kernel_rfl) (by decide) (fun _ => trivial) rfl (fun _ => hF _ (getD_mem (by omega))) (fun _ v Hr hv => ?_) (fun h => by cases h)
    obtain ⟨rfl, rfl⟩ := hv
    refine ⟨⟨19, [(0, .one (.rs (.rows l))), (1, .one (.fn F [(.ptr 1 0 0)])), (5, .one (.int .i64 ((i : Nat) : Int))), (7, .one (.int .i64 ((l.length : Nat) : Int))), (8, .one (.int .i64 ((i : Nat) : Int))), (11, .one (.fn F [(.ptr 1 0 0)])), (15, .one (.ro (.ints .i64 (List.getD l i [])))), (16, .one (.bool (p (List.getD l i []))))], [(1, .box 1 1 [(.rw 2 0 n)]), (2, .mat 2 L)]⟩, by kernel_rfl, ?_⟩
    refine aops_cut [0, 1, 5, 7, 8, 16] [] ⟨19, [(0, .one (.rs (.rows l))), (1, .one (.fn F [(.ptr 1 0 0)])), (5, .one (.int .i64 ((i : Nat) : Int))), (7, .one (.int .i64 ((l.length : Nat) : Int))), (8, .one (.int .i64 ((i : Nat) : Int))), (16, .one (.bool (p (List.getD l i []))))], [(1, .box 1 1 [(.rw 2 0 n)]), (2, .mat 2 L)]⟩ (by kernel_rfl) ?_
    refine aops_end_seq (by kernel_rfl) ?_
    refine awp_cond (b := (p (List.getD l i []))) (by kernel_rfl) (fun c4 => ?_) (fun c4 => ?_)
    · -- yes 4
      try simp only [bs] at c4
      refine awp_run_seq [4] [] [] ⟨19, [(4, .one (.int .i64 ((i : Nat) : Int)))], [(1, .box 1 1 [(.rw 2 0 n)]), (2, .mat 2 L)]⟩ hT (by kernel_rfl) trivial ?_
      refine awp_ret ?_
      refine kRet.ret _ [] [] (.one (.int .i64 ((i : Nat) : Int))) [(1, .box 1 1 [(.rw 2 0 n)]), (2, .mat 2 L)] (by kernel_rfl) trivial ?_
      exact ⟨(by rw [idxOf_at hp (by omega) c4]), (by kernel_rfl)⟩
    · -- no 4
      try simp only [bs] at c4
      refine awp_skip ?_
      refine awp_run [0, 1, 7, 8] [] [(-9223372036854775808 ≤ (((i + 1) : Nat) : Int) ∧ (((i + 1) : Nat) : Int) ≤ 9223372036854775807)] ⟨19, [(0, .one (.rs (.rows l))), (1, .one (.fn F [(.ptr 1 0 0)])), (7, .one (.int .i64 ((l.length : Nat) : Int))), (8, .one (.int .i64 (((i + 1) : Nat) : Int)))], [(1, .box 1 1 [(.rw 2 0 n)]), (2, .mat 2 L)]⟩ hT (by kernel_rfl) ⟨(by first | omega | (simp only [lens]; omega) | (simp only [Bool.cond_decide]; omega) | (simp only [nadd_eq]; omega)), trivial⟩ ?_
      refine loop_end _ ?_ ⟨(i + 1), ⟨(by omega), (by intro j hj; rcases Nat.lt_succ_iff_lt_or_eq.1 hj with h | h; exact hp j h; subst h; exact c4), rfl⟩, (by kernel_rfl)⟩
      omega
  · -- no 2
    try simp only [bs] at c2
    refine awp_exit ?_
    refine awp_run_seq [4] [] [] ⟨19, [(4, .one (.int .i64 (-1)))], [(1, .box 1 1 [(.rw 2 0 n)]), (2, .mat 2 L)]⟩ hT (by kernel_rfl) trivial ?_
    refine awp_ret ?_
    refine kRet.ret _ [] [] (.one (.int .i64 (-1))) [(1, .box 1 1 [(.rw 2 0 n)]), (2, .mat 2 L)] (by kernel_rfl) trivial ?_
    exact ⟨(by rw [idxOf_none (d := []) fun j hj => hp j (by omega)]), (by kernel_rfl)⟩

theorem ref_pieces (t : List (List Int)) (hS : sumE t = 0) : ACall Try.prog 18 [.one (.rs (.rows t))] [] (fun ov oh => ov = .one (.rs (.pieces (pcsOf t.length (Int.toNat (sumV t)) t (sumV t)))) ∧ oh = []) := by
  refine acall_intro hT Try.func18 rfl (by kernel_rfl) rfl (by kernel_rfl) ?_
  have hT0 := tab0_of (show tabErr t 0 = 0 by unfold sumE at hS; split at hS; exact absurd hS (by assumption); omega)
  have hev : evenB t = true := by unfold sumE at hS; split at hS; omega; split at hS; assumption; omega
  have hSVv : sumV t = rowS t t.length 0 := by rw [sumV, if_pos hS]
  have hDS0 : DS t.length t (sumV t) := by rw [hSVv]; exact even_ds hT0 hev
  have h6 := hT0.n6
  have hsb : 0 ≤ sumV t ∧ sumV t ≤ 6000 := by
    rcases Nat.eq_zero_or_pos t.length with z | z
    · rw [hSVv]; unfold rowS; rw [z]; exact ⟨Int.le_refl _, by show (0 : Int) ≤ 6000; decide⟩
    · rw [hSVv]; exact hT0.rowb z (Nat.le_refl _)
  refine awp_run_seq [0] [] [] ⟨88, [(0, .one (.rs (.rows t)))], []⟩ hT (by kernel_rfl) trivial ?_
  refine awp_run_seq [0, 3] [103] [] ⟨88, [(0, .one (.rs (.rows t))), (3, .one (.ptr 103 0 0))], [(103, .box 1 1 [.nils])]⟩ hT (by kernel_rfl) trivial ?_
  refine awp_seq ?_
  refine awp_run_seq [0, 3, 14, 15, 16] [103] [] ⟨88, [(0, .one (.rs (.rows t))), (3, .one (.ptr 103 0 0)), (14, .one (.rs (.rows t))), (15, .one (.int .i64 ((t.length : Nat) : Int))), (16, .one (.int .i64 0))], [(103, .box 1 1 [.nils])]⟩ hT (by kernel_rfl) trivial ?_
  refine awp_block ?_
  refine awp_weak (awk_empty 7777 (.recs (.rows [])) rfl (by decide) _) ?_
  refine awp_weak (awk_boxcell 103 0 1 1 [.nils] .nils (.rw 7777 0 0) _ (by kernel_rfl) rfl (wkv_nils (o := .recs (.rows [])) (by kernel_rfl))) ?_
  refine awp_weak (awk_mat 7777 [] _ (by kernel_rfl) (fun _ => by first | exact rows_nil _ _ | (simp; done))) ?_
  refine awp_loop (I := fun κ σ => ∃ (i : Nat) (Atab : List (List Int)), ((i ≤ t.length) ∧ (Atab = t.take i) ∧ (Atab.length = i) ∧ t.length - i = κ) ∧ σ = ⟨88, [(0, .one (.rs (.rows t))), (3, .one (.ptr 103 0 0)), (14, .one (.rs (.rows t))), (15, .one (.int .i64 ((t.length : Nat) : Int))), (16, .one (.int .i64 ((i : Nat) : Int)))], [(103, .box 1 1 [(.rw 7777 0 Atab.length)]), (7777, .mat 7777 Atab)]⟩) _ ⟨0, [], ⟨(by omega), (by rfl), (by rfl), rfl⟩, (by kernel_rfl)⟩ ?_
  rintro κ _ ⟨i, Atab, ⟨hi, hAd, hAl, rfl⟩, rfl⟩
  refine awp_run_seq [0, 3, 14, 15, 16, 17] [103, 7777] [] ⟨88, [(0, .one (.rs (.rows t))), (3, .one (.ptr 103 0 0)), (14, .one (.rs (.rows t))), (15, .one (.int .i64 ((t.length : Nat) : Int))), (16, .one (.int .i64 ((i : Nat) : Int))), (17, .one (.bool (decide (((i : Nat) : Int) < ((t.length : Nat) : Int)))))], [(103, .box 1 1 [(.rw 7777 0 Atab.length)]), (7777, .mat 7777 Atab)]⟩ hT (by kernel_rfl) trivial ?_
  refine awp_seq ?_
  refine awp_cond (b := (decide (((i : Nat) : Int) < ((t.length : Nat) : Int)))) (by kernel_rfl) (fun c3 => ?_) (fun c3 => ?_)
  · -- yes 3
    try simp only [bs] at c3
    have hil : i < t.length := by omega
    have hri := hT0.sq.row i hil
    have hAn := take_getD t [] i hil
    refine awp_skip ?_
    refine awp_seq ?_
    refine awp_block ?_
    refine awp_run_seq [0, 3, 5, 14, 15, 16] [103, 7777] [((0 : Int) ≤ ((i : Nat) : Int)), (((i : Nat) : Int) < ((t.length : Nat) : Int))] ⟨88, [(0, .one (.rs (.rows t))), (3, .one (.ptr 103 0 0)), (5, .one (.ro (.ints .i64 (List.getD t i [])))), (14, .one (.rs (.rows t))), (15, .one (.int .i64 ((t.length : Nat) : Int))), (16, .one (.int .i64 ((i : Nat) : Int)))], [(103, .box 1 1 [(.rw 7777 0 Atab.length)]), (7777, .mat 7777 Atab)]⟩ hT (by kernel_rfl) ⟨(by first | omega | (simp only [lens]; omega) | (simp only [Bool.cond_decide]; omega) | (simp only [nadd_eq]; omega)), (by first | omega | (simp only [lens]; omega) | (simp only [Bool.cond_decide]; omega) | (simp only [nadd_eq]; omega)), trivial⟩ ?_
    -- 4 of 6 operations in any order
    refine awp_calm3 [(2, ⟨[.one (.ro (.ints .i64 (List.getD t i [])))], .one (.rw 9001 0 (List.length (List.getD t i []))), [(9001, .flat (.ints .i64 (List.getD t i [])))], [(9001, 122)]⟩)] false [[], [], [1], [1, 2], [0, 1, 2, 3], [0, 1, 2, 3, 4]] 4 2 #[true, true, true, true, false, false] [0, 3, 14, 15, 16, 20, 23] [103, 122, 123, 7777] [(0, [(0 < 1)]), (1, []), (2, [(AllP [] ∧ [.one (.ro (.ints .i64 (List.getD t i [])))] = ([.one (.ro (.ints .i64 (List.getD t i [])))] : List AV) ∧ ACall Try.prog 64 [.one (.ro (.ints .i64 (List.getD t i [])))] [] (fun ov oh => ov = .one (.rw 9001 0 (List.length (List.getD t i []))) ∧ oh = [(9001, .flat (.ints .i64 (List.getD t i [])))]))]), (3, [])] ⟨88, [(0, .one (.rs (.rows t))), (3, .one (.ptr 103 0 0)), (14, .one (.rs (.rows t))), (15, .one (.int .i64 ((t.length : Nat) : Int))), (16, .one (.int .i64 ((i : Nat) : Int))), (20, .one (.rw 7777 0 Atab.length)), (23, .one (.rw 123 0 1))], [(103, .box 1 1 [(.rw 7777 0 Atab.length)]), (122, .flat (.ints .i64 (List.getD t i []))), (123, .box 1 1 [(.rw 122 0 (List.length (List.getD t i [])))]), (7777, .mat 7777 Atab)]⟩ (by kernel_rfl) hT (by kernel_rfl) (by kernel_rfl) (by kernel_rfl) (by kernel_rfl) ⟨⟨(by decide), trivial⟩, trivial, ⟨⟨trivial, rfl, clone_ints (List.getD t i []) (by first | omega | (simp; omega))⟩, trivial⟩, trivial, trivial⟩ ?_
    refine aany_rowapp (m := 1) (k := 4) (L := #[true, true, true, true, true, false]) (A := 7777) (B := 123) (R := 122) (n := (List.length (List.getD t i []))) (xss := Atab) (ys := (List.getD t i [])) hT (by kernel_rfl) (by kernel_rfl) rfl rfl rfl rfl (by kernel_rfl) (show T 32 = some _ from rfl) rfl (show T 25 = some _ from rfl) rfl (by kernel_rfl) (by kernel_rfl) rfl rfl rfl rfl rfl (by first | (simp; done) | first | omega | (simp only [lens]; omega) | (simp only [Bool.cond_decide]; omega) | (simp only [nadd_eq]; omega)) (by first | omega | (simp only [lens]; omega) | (simp only [Bool.cond_decide]; omega) | (simp only [nadd_eq]; omega)) (by first | omega | (simp only [lens]; omega) | (simp only [Bool.cond_decide]; omega) | (simp only [nadd_eq]; omega)) ?_
    refine aany_weak (awk_cut [0, 3, 14, 15, 16, 24] [103, 7777] _) ?_
    show AAny Try.prog _ _ _ _ ⟨88, [(0, .one (.rs (.rows t))), (3, .one (.ptr 103 0 0)), (14, .one (.rs (.rows t))), (15, .one (.int .i64 ((t.length : Nat) : Int))), (16, .one (.int .i64 ((i : Nat) : Int))), (24, .one (.rw 7777 0 (Atab.length + 1)))], [(103, .box 1 1 [.any]), (7777, .mat 7777 (Atab ++ [(List.getD t i [])]))]⟩
    refine aany_end [] false [0, 3, 14, 15, 16] [103, 7777] 1 [(5, [(0 < 1)])] ⟨88, [(0, .one (.rs (.rows t))), (3, .one (.ptr 103 0 0)), (14, .one (.rs (.rows t))), (15, .one (.int .i64 ((t.length : Nat) : Int))), (16, .one (.int .i64 ((i : Nat) : Int)))], [(103, .box 1 1 [(.rw 7777 0 (Atab.length + 1))]), (7777, .mat 7777 (Atab ++ [(List.getD t i [])]))]⟩ (by kernel_rfl) hT (by kernel_rfl) ⟨⟨(by decide), trivial⟩, trivial⟩ ?_
    refine awp_run [0, 3, 14, 15, 16] [103, 7777] [(-9223372036854775808 ≤ (((i + 1) : Nat) : Int) ∧ (((i + 1) : Nat) : Int) ≤ 9223372036854775807)] ⟨88, [(0, .one (.rs (.rows t))), (3, .one (.ptr 103 0 0)), (14, .one (.rs (.rows t))), (15, .one (.int .i64 ((t.length : Nat) : Int))), (16, .one (.int .i64 (((i + 1) : Nat) : Int)))], [(103, .box 1 1 [(.rw 7777 0 (Atab.length + 1))]), (7777, .mat 7777 (Atab ++ [(List.getD t i [])]))]⟩ hT (by kernel_rfl) ⟨(by first | omega | (simp only [lens]; omega) | (simp only [Bool.cond_decide]; omega) | (simp only [nadd_eq]; omega)), trivial⟩ ?_
    refine loop_end _ ?_ ⟨(i + 1), (Atab ++ [(List.getD t i [])]), ⟨(by omega), (by rw [hAn, hAd]), (by simp only [lens]; omega), rfl⟩, (by first | (simp only [lens]; done) | (simp only [Nat.zero_add]; done) | simp only [lens, Nat.zero_add])⟩
    omega
  · -- no 3
    try simp only [bs] at c3
    have hAt : Atab = t := by rw [hAd, List.take_of_length_le (by omega)]
    have hOl : (ordersOf t.length).length ≤ 6 ^ t.length := ordIter_len h6 t.length
    have hpw : 6 ^ t.length ≤ 6 ^ 6 := Nat.pow_le_pow_right (by omega) (by omega)
    refine awp_exit ?_
    rw [show Atab = t from hAt]
    refine awp_seq (awp_region ?_)
    refine aops_run 2 [0, 3, 27] [103, 7777] [] ⟨88, [(0, .one (.rs (.rows t))), (3, .one (.ptr 103 0 0)), (27, .one (.int .i64 ((t.length : Nat) : Int)))], [(103, .box 1 1 [(.rw 7777 0 t.length)]), (7777, .mat 7777 t)]⟩ hT (by kernel_rfl) (by kernel_rfl) trivial ?_
    refine aops_pure false ⟨true, [], 68, [.one (.int .i64 ((t.length : Nat) : Int))], []⟩ [.one (.int .i64 ((t.length : Nat) : Int))] (.one (.rs (.rows (ordersOf t.length)))) ⟨88, [(0, .one (.rs (.rows t))), (3, .one (.ptr 103 0 0)), (27, .one (.int .i64 ((t.length : Nat) : Int))), (28, .one (.rs (.rows (ordersOf t.length))))], [(103, .box 1 1 [(.rw 7777 0 t.length)]), (7777, .mat 7777 t)]⟩ (by kernel_rfl) (by kernel_rfl) (fun _ => trivial) rfl (fun _ => ref_orders t.length (by omega)) ?_
    refine aops_run 1 [0, 3, 6] [103, 7777] [] ⟨88, [(0, .one (.rs (.rows t))), (3, .one (.ptr 103 0 0)), (6, .one (.rs (.rows (ordersOf t.length))))], [(103, .box 1 1 [(.rw 7777 0 t.length)]), (7777, .mat 7777 t)]⟩ hT (by kernel_rfl) (by kernel_rfl) trivial ?_
    refine aops_end_seq (by kernel_rfl) ?_
    refine awp_run_seq [0, 3, 6, 7] [103, 7777] [] ⟨88, [(0, .one (.rs (.rows t))), (3, .one (.ptr 103 0 0)), (6, .one (.rs (.rows (ordersOf t.length)))), (7, .one .nils)], [(103, .box 1 1 [(.rw 7777 0 t.length)]), (7777, .mat 7777 t)]⟩ hT (by kernel_rfl) trivial ?_
    refine awp_join (fun σ => ∃ (ps : List (Int × List Int)), (ps = (pcsOf t.length (Int.toNat (sumV t)) t (sumV t))) ∧ σ = ⟨88, [(7, .one (.rw 5007 0 ps.length))], [(5007, .recs (.pieces ps))]⟩) ?_ ?_
    ·
      refine awp_block ?_
      refine awp_weak (awk_empty 5007 (.recs (.pieces [])) rfl (by decide) _) ?_
      refine awp_weak (awk_slot 7 (.one .nils) (.one (.rw 5007 0 0)) _ (by kernel_rfl) (.one (wkv_nils (o := .recs (.pieces [])) (by kernel_rfl)))) ?_
      refine awp_loop (I := fun κ σ => ∃ (L : List (List Int)) (s : Int) (ps : List (Int × List Int)), ((DS t.length L s) ∧ (0 ≤ s) ∧ (t.length = 0 → s ≤ 0) ∧ ((ps.length : Int) + s ≤ 6000) ∧ (ps ++ pcsOf t.length s.toNat L s = (pcsOf t.length (Int.toNat (sumV t)) t (sumV t))) ∧ s.toNat = κ) ∧ σ = ⟨88, [(0, .one (.rs (.rows t))), (3, .one (.ptr 103 0 0)), (6, .one (.rs (.rows (ordersOf t.length)))), (7, .one (.rw 5007 0 ps.length))], [(103, .box 1 1 [(.rw 7777 0 t.length)]), (5007, .recs (.pieces ps)), (7777, .mat 7777 L)]⟩) _ ⟨t, (sumV t), [], ⟨(by exact hDS0), (by omega), (by intro z; rw [hSVv]; unfold rowS; rw [z]; exact Int.le_refl _), (by simp; omega), (by rfl), rfl⟩, (by kernel_rfl)⟩ ?_
      rintro κ _ ⟨L, s, ps, ⟨hDS, hs0, hz0, hpl, hps, rfl⟩, rfl⟩
      have hLl := hDS.sq.len
      obtain ⟨hix1, hix2⟩ := hDS.idx
      refine awp_seq ?_
      refine awp_run_seq [0, 3, 6, 7, 31] [103, 5007, 7777] [] ⟨88, [(0, .one (.rs (.rows t))), (3, .one (.ptr 103 0 0)), (6, .one (.rs (.rows (ordersOf t.length)))), (7, .one (.rw 5007 0 ps.length)), (31, .one (.bool (decide ((0 : Int) < ((t.length : Nat) : Int)))))], [(103, .box 1 1 [(.rw 7777 0 t.length)]), (5007, .recs (.pieces ps)), (7777, .mat 7777 L)]⟩ hT (by kernel_rfl) trivial ?_
      refine awp_cond (b := (decide ((0 : Int) < ((t.length : Nat) : Int)))) (by kernel_rfl) (fun c9 => ?_) (fun c9 => ?_)
      · -- yes 9
        try simp only [bs] at c9
        refine awp_skip ?_
        refine awp_block ?_
        refine awp_seq (awp_region ?_)
        refine aops_run 2 [0, 3, 6, 7, 32, 33] [103, 5007, 7777] [] ⟨88, [(0, .one (.rs (.rows t))), (3, .one (.ptr 103 0 0)), (6, .one (.rs (.rows (ordersOf t.length)))), (7, .one (.rw 5007 0 ps.length)), (32, .one (.rs (.rows (ordersOf t.length)))), (33, .one (.fn 70 [(.ptr 103 0 0)]))], [(103, .box 1 1 [(.rw 7777 0 t.length)]), (5007, .recs (.pieces ps)), (7777, .mat 7777 L)]⟩ hT (by kernel_rfl) (by kernel_rfl) trivial ?_
        refine aops_call [(1, 103), (2, 7777)] [] false ⟨true, [], 69, [.one (.rs (.rows (ordersOf t.length))), .one (.fn 70 [(.ptr 1 0 0)])], [(1, .box 1 1 [(.rw 2 0 t.length)]), (2, .mat 2 L)]⟩ [.one (.rs (.rows (ordersOf t.length))), .one (.fn 70 [(.ptr 1 0 0)])] (sm := ⟨88, [(0, .one (.rs (.rows t))), (3, .one (.ptr 103 0 0)), (6, .one (.rs (.rows (ordersOf t.length)))), (7, .one (.rw 5007 0 ps.length)), (32, .one (.rs (.rows (ordersOf t.length)))), (33, .one (.fn 70 [(.ptr 103 0 0)])), (34, .whn false (.one .any))], [(103, .box 1 1 [(.rw 7777 0 t.length)]), (5007, .recs (.pieces ps)), (7777, .mat 7777 L)]⟩) (by kernel_rfl) (by kernel_rfl) (by decide) (fun _ => trivial) rfl (fun _ => idxf_rm 70 (okNe L) (ordersOf t.length) t.length L (fun x hx => pieces1 L t.length x (orders_mem.1 hx) hDS.sq h6)) (fun _ v Hr hv => ?_) (fun h => by cases h)
        obtain ⟨rfl, rfl⟩ := hv
        refine ⟨⟨88, [(0, .one (.rs (.rows t))), (3, .one (.ptr 103 0 0)), (6, .one (.rs (.rows (ordersOf t.length)))), (7, .one (.rw 5007 0 ps.length)), (32, .one (.rs (.rows (ordersOf t.length)))), (33, .one (.fn 70 [(.ptr 103 0 0)])), (34, .one (.int .i64 (idxOf (okNe L) (ordersOf t.length))))], [(103, .box 1 1 [(.rw 7777 0 t.length)]), (5007, .recs (.pieces ps)), (7777, .mat 7777 L)]⟩, by kernel_rfl, ?_⟩
        refine aops_run 1 [0, 3, 6, 7, 8] [103, 5007, 7777] [] ⟨88, [(0, .one (.rs (.rows t))), (3, .one (.ptr 103 0 0)), (6, .one (.rs (.rows (ordersOf t.length)))), (7, .one (.rw 5007 0 ps.length)), (8, .one (.int .i64 (idxOf (okNe L) (ordersOf t.length))))], [(103, .box 1 1 [(.rw 7777 0 t.length)]), (5007, .recs (.pieces ps)), (7777, .mat 7777 L)]⟩ hT (by kernel_rfl) (by kernel_rfl) trivial ?_
        refine aops_end_seq (by kernel_rfl) ?_
        refine awp_seq ?_
        refine awp_run_seq [0, 3, 6, 7, 8, 36] [103, 5007, 7777] [] ⟨88, [(0, .one (.rs (.rows t))), (3, .one (.ptr 103 0 0)), (6, .one (.rs (.rows (ordersOf t.length)))), (7, .one (.rw 5007 0 ps.length)), (8, .one (.int .i64 (idxOf (okNe L) (ordersOf t.length)))), (36, .one (.bool (decide ((idxOf (okNe L) (ordersOf t.length)) < 0))))], [(103, .box 1 1 [(.rw 7777 0 t.length)]), (5007, .recs (.pieces ps)), (7777, .mat 7777 L)]⟩ hT (by kernel_rfl) trivial ?_
        refine awp_cond (b := (decide ((idxOf (okNe L) (ordersOf t.length)) < 0))) (by kernel_rfl) (fun c11 => ?_) (fun c11 => ?_)
        · -- yes 11
          try simp only [bs] at c11
          have hfin : ps = (pcsOf t.length (Int.toNat (sumV t)) t (sumV t)) := by
            have hs9 : s ≤ 0 := by
              rcases Int.lt_or_le 0 s with q | q
              · obtain ⟨q2, hq2, _⟩ := hDS.some q
                rw [hix1 (by omega)] at hq2; cases hq2
              · exact q
            rw [pcs_stop hs9, List.append_nil] at hps; exact hps
          refine awp_cut [7] [5007] ⟨88, [(7, .one (.rw 5007 0 ps.length))], [(5007, .recs (.pieces ps))]⟩ (by kernel_rfl) ?_
          refine awp_exit ?_
          exact jend ⟨ps, (by exact hfin), (by kernel_rfl)⟩
        · -- no 11
          try simp only [bs] at c11
          obtain ⟨hix3, hix4⟩ := hix2 (by omega)
          obtain ⟨q, hqo⟩ : ∃ q, (List.getD (ordersOf t.length) (Int.toNat (idxOf (okNe L) (ordersOf t.length))) []) = q := ⟨_, rfl⟩
          rw [hqo] at hix4
          obtain ⟨hfull, hok⟩ := frst_full hix4
          have hokI := okAll_iff.1 hok
          have hql := hfull.1
          rw [hql] at hokI
          have hs9 : 0 < s := by
            have hq0 := hfull.at_ (i := 0) (by omega)
            have g1 := hokI 0 (by omega)
            have g2 := hDS.le (i := 0) (j := (q.getD 0 0).toNat) (by omega) (by omega)
            omega
          have hq0 := hfull.at_ (i := 0) (by omega)
          have hle0 := hDS.le (i := 0) (j := (q.getD 0 0).toNat) (by omega) (by omega)
          have ham := amt_any (L := L) (q := q) (b := 1073741824) (c := s) (m := t.length) (by omega) (by omega) hle0
          obtain ⟨aA, haA⟩ : ∃ a, amtTo L q 1073741824 t.length = a := ⟨_, rfl⟩
          have haS : amtTo L q s t.length = aA := by rw [← ham]; exact haA
          have hap := amt_pos (L := L) (q := q) (b := s) hs9 hokI
          have hat := amt_top (L := L) (q := q) (b := s) (m := t.length)
          rw [haS] at hap hat
          have hsub := hDS.sub (a := aA) hfull (fun i hi => by rw [← haS]; exact amt_le hi)
          obtain ⟨f, hf⟩ : ∃ f, s.toNat = f + 1 := ⟨s.toNat - 1, by omega⟩
          have hgo := pcs_go (n := t.length) (f := f) hs9 hix4
          rw [haS] at hgo
          have hfu := pcs_fuel (f := f) (g := (s - aA).toNat) hsub (by omega) (by omega)
          rw [hf, hgo, hfu] at hps
          have hqlO : (List.getD (ordersOf t.length) (Int.toNat (idxOf (okNe L) (ordersOf t.length))) []).length = t.length := by rw [hqo]; exact hql
          refine awp_skip ?_
          refine awp_seq (awp_region ?_)
          refine aops_run 4 [0, 3, 6, 7, 40] [103, 5007, 7777] [((0 : Int) ≤ (idxOf (okNe L) (ordersOf t.length))), ((idxOf (okNe L) (ordersOf t.length)) < (((List.length (ordersOf t.length)) : Nat) : Int))] ⟨88, [(0, .one (.rs (.rows t))), (3, .one (.ptr 103 0 0)), (6, .one (.rs (.rows (ordersOf t.length)))), (7, .one (.rw 5007 0 ps.length)), (40, .one (.ro (.ints .i64 (List.getD (ordersOf t.length) (Int.toNat (idxOf (okNe L) (ordersOf t.length))) []))))], [(103, .box 1 1 [(.rw 7777 0 t.length)]), (5007, .recs (.pieces ps)), (7777, .mat 7777 L)]⟩ hT (by kernel_rfl) (by kernel_rfl) ⟨(by first | omega | (simp only [lens]; omega) | (simp only [Bool.cond_decide]; omega) | (simp only [nadd_eq]; omega)), (by first | omega | (simp only [lens]; omega) | (simp only [Bool.cond_decide]; omega) | (simp only [nadd_eq]; omega)), trivial⟩ ?_
          refine aops_call [] [(9001, 141)] false ⟨true, [], 64, [.one (.ro (.ints .i64 (List.getD (ordersOf t.length) (Int.toNat (idxOf (okNe L) (ordersOf t.length))) [])))], []⟩ [.one (.ro (.ints .i64 (List.getD (ordersOf t.length) (Int.toNat (idxOf (okNe L) (ordersOf t.length))) [])))] (sm := ⟨88, [(0, .one (.rs (.rows t))), (3, .one (.ptr 103 0 0)), (6, .one (.rs (.rows (ordersOf t.length)))), (7, .one (.rw 5007 0 ps.length)), (40, .one (.ro (.ints .i64 (List.getD (ordersOf t.length) (Int.toNat (idxOf (okNe L) (ordersOf t.length))) [])))), (41, .whn false (.one .any))], [(103, .box 1 1 [(.rw 7777 0 t.length)]), (5007, .recs (.pieces ps)), (7777, .mat 7777 L)]⟩) (by kernel_rfl) (by kernel_rfl) (by decide) (fun _ => trivial) rfl (fun _ => clone_ints (List.getD (ordersOf t.length) (Int.toNat (idxOf (okNe L) (ordersOf t.length))) []) (by first | omega | (simp; omega))) (fun _ v Hr hv => ?_) (fun h => by cases h)
          obtain ⟨rfl, rfl⟩ := hv
          refine ⟨⟨88, [(0, .one (.rs (.rows t))), (3, .one (.ptr 103 0 0)), (6, .one (.rs (.rows (ordersOf t.length)))), (7, .one (.rw 5007 0 ps.length)), (40, .one (.ro (.ints .i64 (List.getD (ordersOf t.length) (Int.toNat (idxOf (okNe L) (ordersOf t.length))) [])))), (41, .one (.rw 141 0 (List.length (List.getD (ordersOf t.length) (Int.toNat (idxOf (okNe L) (ordersOf t.length))) []))))], [(103, .box 1 1 [(.rw 7777 0 t.length)]), (141, .flat (.ints .i64 (List.getD (ordersOf t.length) (Int.toNat (idxOf (okNe L) (ordersOf t.length))) []))), (5007, .recs (.pieces ps)), (7777, .mat 7777 L)]⟩, by kernel_rfl, ?_⟩
          refine aops_run 3 [0, 3, 6, 7, 9] [103, 109, 141, 5007, 7777] [(0 < 1)] ⟨88, [(0, .one (.rs (.rows t))), (3, .one (.ptr 103 0 0)), (6, .one (.rs (.rows (ordersOf t.length)))), (7, .one (.rw 5007 0 ps.length)), (9, .one (.ptr 109 0 0))], [(103, .box 1 1 [(.rw 7777 0 t.length)]), (109, .box 1 2 [(.int .i64 1073741824), (.rw 141 0 (List.length (List.getD (ordersOf t.length) (Int.toNat (idxOf (okNe L) (ordersOf t.length))) [])))]), (141, .flat (.ints .i64 (List.getD (ordersOf t.length) (Int.toNat (idxOf (okNe L) (ordersOf t.length))) []))), (5007, .recs (.pieces ps)), (7777, .mat 7777 L)]⟩ hT (by kernel_rfl) (by kernel_rfl) ⟨(by decide), trivial⟩ ?_
          refine aops_end_seq (by kernel_rfl) ?_
          refine awp_seq ?_
          refine awp_weak (awk_seal 141 (s' := ⟨88, [(0, .one (.rs (.rows t))), (3, .one (.ptr 103 0 0)), (6, .one (.rs (.rows (ordersOf t.length)))), (7, .one (.rw 5007 0 ps.length)), (9, .one (.ptr 109 0 0))], [(103, .box 1 1 [(.rw 7777 0 t.length)]), (109, .box 1 2 [(.int .i64 1073741824), (.ro (.ints .i64 (List.take (List.length (List.getD (ordersOf t.length) (Int.toNat (idxOf (okNe L) (ordersOf t.length))) [])) (List.getD (ordersOf t.length) (Int.toNat (idxOf (okNe L) (ordersOf t.length))) []))))]), (5007, .recs (.pieces ps)), (7777, .mat 7777 L)]⟩) (by kernel_rfl)) ?_
          rw [show (List.take (List.length (List.getD (ordersOf t.length) (Int.toNat (idxOf (okNe L) (ordersOf t.length))) [])) (List.getD (ordersOf t.length) (Int.toNat (idxOf (okNe L) (ordersOf t.length))) [])) = (List.getD (ordersOf t.length) (Int.toNat (idxOf (okNe L) (ordersOf t.length))) []) from List.take_of_length_le (by first | omega | simp)]
          rw [show (List.getD (ordersOf t.length) (Int.toNat (idxOf (okNe L) (ordersOf t.length))) []) = q from hqo]
          refine awp_run_seq [0, 3, 6, 7, 9, 44, 45, 46] [103, 109, 5007, 7777] [(0 < 1)] ⟨88, [(0, .one (.rs (.rows t))), (3, .one (.ptr 103 0 0)), (6, .one (.rs (.rows (ordersOf t.length)))), (7, .one (.rw 5007 0 ps.length)), (9, .one (.ptr 109 0 0)), (44, .one (.ro (.ints .i64 q))), (45, .one (.int .i64 ((q.length : Nat) : Int))), (46, .one (.int .i64 0))], [(103, .box 1 1 [(.rw 7777 0 t.length)]), (109, .box 1 2 [(.int .i64 1073741824), (.ro (.ints .i64 q))]), (5007, .recs (.pieces ps)), (7777, .mat 7777 L)]⟩ hT (by kernel_rfl) ⟨(by decide), trivial⟩ ?_
          refine awp_block ?_
          refine awp_loop (I := fun κ σ => ∃ (i : Nat), ((i ≤ q.length) ∧ q.length - i = κ) ∧ σ = ⟨88, [(0, .one (.rs (.rows t))), (3, .one (.ptr 103 0 0)), (6, .one (.rs (.rows (ordersOf t.length)))), (7, .one (.rw 5007 0 ps.length)), (9, .one (.ptr 109 0 0)), (44, .one (.ro (.ints .i64 q))), (45, .one (.int .i64 ((q.length : Nat) : Int))), (46, .one (.int .i64 ((i : Nat) : Int)))], [(103, .box 1 1 [(.rw 7777 0 t.length)]), (109, .box 1 2 [(.int .i64 (amtTo L q 1073741824 i)), (.ro (.ints .i64 q))]), (5007, .recs (.pieces ps)), (7777, .mat 7777 L)]⟩) _ ⟨0, ⟨(by omega), rfl⟩, (by kernel_rfl)⟩ ?_
          rintro κ _ ⟨i, ⟨hi, rfl⟩, rfl⟩
          refine awp_run_seq [0, 3, 6, 7, 9, 44, 45, 46, 47] [103, 109, 5007, 7777] [] ⟨88, [(0, .one (.rs (.rows t))), (3, .one (.ptr 103 0 0)), (6, .one (.rs (.rows (ordersOf t.length)))), (7, .one (.rw 5007 0 ps.length)), (9, .one (.ptr 109 0 0)), (44, .one (.ro (.ints .i64 q))), (45, .one (.int .i64 ((q.length : Nat) : Int))), (46, .one (.int .i64 ((i : Nat) : Int))), (47, .one (.bool (decide (((i : Nat) : Int) < ((q.length : Nat) : Int)))))], [(103, .box 1 1 [(.rw 7777 0 t.length)]), (109, .box 1 2 [(.int .i64 (amtTo L q 1073741824 i)), (.ro (.ints .i64 q))]), (5007, .recs (.pieces ps)), (7777, .mat 7777 L)]⟩ hT (by kernel_rfl) trivial ?_
          refine awp_seq ?_
          refine awp_cond (b := (decide (((i : Nat) : Int) < ((q.length : Nat) : Int)))) (by kernel_rfl) (fun c14 => ?_) (fun c14 => ?_)
          · -- yes 14
            try simp only [bs] at c14
            have hin : i < t.length := by omega
            have hqi := hfull.at_ hin
            have hrow := hDS.sq.row i hin
            refine awp_skip ?_
            refine awp_seq ?_
            refine awp_block ?_
            refine awp_run_seq [0, 3, 6, 7, 9, 10, 11, 44, 45, 46] [103, 109, 5007, 7777] [((0 : Int) ≤ ((i : Nat) : Int)), (((i : Nat) : Int) < ((q.length : Nat) : Int))] ⟨88, [(0, .one (.rs (.rows t))), (3, .one (.ptr 103 0 0)), (6, .one (.rs (.rows (ordersOf t.length)))), (7, .one (.rw 5007 0 ps.length)), (9, .one (.ptr 109 0 0)), (10, .one (.int .i64 ((i : Nat) : Int))), (11, .one (.int .i64 (List.getD q i 0))), (44, .one (.ro (.ints .i64 q))), (45, .one (.int .i64 ((q.length : Nat) : Int))), (46, .one (.int .i64 ((i : Nat) : Int)))], [(103, .box 1 1 [(.rw 7777 0 t.length)]), (109, .box 1 2 [(.int .i64 (amtTo L q 1073741824 i)), (.ro (.ints .i64 q))]), (5007, .recs (.pieces ps)), (7777, .mat 7777 L)]⟩ hT (by kernel_rfl) ⟨(by first | omega | (simp only [lens]; omega) | (simp only [Bool.cond_decide]; omega) | (simp only [nadd_eq]; omega)), (by first | omega | (simp only [lens]; omega) | (simp only [Bool.cond_decide]; omega) | (simp only [nadd_eq]; omega)), trivial⟩ ?_
            refine awp_tail 11 [0, 3, 6, 7, 9, 44, 45, 46, 60, 61] [103, 109, 5007, 7777] [(0 < 1), (0 < 1), ((0 : Int) ≤ ((i : Nat) : Int)), (((i : Nat) : Int) < ((t.length : Nat) : Int)), (i < L.length), ((0 : Int) ≤ (List.getD q i 0)), ((List.getD q i 0) < (((List.length (List.getD L i [])) : Nat) : Int)), ((Int.toNat (List.getD q i 0)) < (List.length (List.getD L i [])))] ⟨88, [(0, .one (.rs (.rows t))), (3, .one (.ptr 103 0 0)), (6, .one (.rs (.rows (ordersOf t.length)))), (7, .one (.rw 5007 0 ps.length)), (9, .one (.ptr 109 0 0)), (44, .one (.ro (.ints .i64 q))), (45, .one (.int .i64 ((q.length : Nat) : Int))), (46, .one (.int .i64 ((i : Nat) : Int))), (60, .one (.int .i64 (min (amtTo L q 1073741824 i) (List.getD (List.getD L i []) (Int.toNat (List.getD q i 0)) 0)))), (61, .one (.ptr 109 0 0))], [(103, .box 1 1 [(.rw 7777 0 t.length)]), (109, .box 1 2 [(.int .i64 (amtTo L q 1073741824 i)), (.ro (.ints .i64 q))]), (5007, .recs (.pieces ps)), (7777, .mat 7777 L)]⟩ (by kernel_rfl) (by kernel_rfl) hT (by kernel_rfl) ⟨(by decide), (by decide), (by first | omega | (simp only [lens]; omega) | (simp only [Bool.cond_decide]; omega) | (simp only [nadd_eq]; omega)), (by first | omega | (simp only [lens]; omega) | (simp only [Bool.cond_decide]; omega) | (simp only [nadd_eq]; omega)), (by first | omega | (simp only [lens]; omega) | (simp only [Bool.cond_decide]; omega) | (simp only [nadd_eq]; omega)), (by first | omega | (simp only [lens]; omega) | (simp only [Bool.cond_decide]; omega) | (simp only [nadd_eq]; omega)), (by first | omega | (simp only [lens]; omega) | (simp only [Bool.cond_decide]; omega) | (simp only [nadd_eq]; omega)), (by first | omega | (simp only [lens]; omega) | (simp only [Bool.cond_decide]; omega) | (simp only [nadd_eq]; omega)), trivial⟩ ?_
            refine aops_run 1 [0, 3, 6, 7, 9, 44, 45, 46] [103, 109, 5007, 7777] [(0 < 1)] ⟨88, [(0, .one (.rs (.rows t))), (3, .one (.ptr 103 0 0)), (6, .one (.rs (.rows (ordersOf t.length)))), (7, .one (.rw 5007 0 ps.length)), (9, .one (.ptr 109 0 0)), (44, .one (.ro (.ints .i64 q))), (45, .one (.int .i64 ((q.length : Nat) : Int))), (46, .one (.int .i64 ((i : Nat) : Int)))], [(103, .box 1 1 [(.rw 7777 0 t.length)]), (109, .box 1 2 [(.int .i64 (min (amtTo L q 1073741824 i) (List.getD (List.getD L i []) (Int.toNat (List.getD q i 0)) 0))), (.ro (.ints .i64 q))]), (5007, .recs (.pieces ps)), (7777, .mat 7777 L)]⟩ hT (by kernel_rfl) (by kernel_rfl) ⟨(by decide), trivial⟩ ?_
            refine aops_end (by kernel_rfl) ?_
            refine awp_run [0, 3, 6, 7, 9, 44, 45, 46] [103, 109, 5007, 7777] [(-9223372036854775808 ≤ (((i + 1) : Nat) : Int) ∧ (((i + 1) : Nat) : Int) ≤ 9223372036854775807)] ⟨88, [(0, .one (.rs (.rows t))), (3, .one (.ptr 103 0 0)), (6, .one (.rs (.rows (ordersOf t.length)))), (7, .one (.rw 5007 0 ps.length)), (9, .one (.ptr 109 0 0)), (44, .one (.ro (.ints .i64 q))), (45, .one (.int .i64 ((q.length : Nat) : Int))), (46, .one (.int .i64 (((i + 1) : Nat) : Int)))], [(103, .box 1 1 [(.rw 7777 0 t.length)]), (109, .box 1 2 [(.int .i64 (min (amtTo L q 1073741824 i) (List.getD (List.getD L i []) (Int.toNat (List.getD q i 0)) 0))), (.ro (.ints .i64 q))]), (5007, .recs (.pieces ps)), (7777, .mat 7777 L)]⟩ hT (by kernel_rfl) ⟨(by first | omega | (simp only [lens]; omega) | (simp only [Bool.cond_decide]; omega) | (simp only [nadd_eq]; omega)), trivial⟩ ?_
            refine loop_end _ ?_ ⟨(i + 1), ⟨(by omega), rfl⟩, (by kernel_rfl)⟩
            omega
          · -- no 14
            try simp only [bs] at c14
            refine awp_exit ?_
            refine awp_seq ?_
            rw [show (amtTo L q 1073741824 i) = aA from (by rw [show i = t.length by omega]; exact haA)]
            refine awp_run_seq [0, 3, 6, 7, 9, 64, 65, 66] [103, 109, 5007, 7777] [(0 < 1)] ⟨88, [(0, .one (.rs (.rows t))), (3, .one (.ptr 103 0 0)), (6, .one (.rs (.rows (ordersOf t.length)))), (7, .one (.rw 5007 0 ps.length)), (9, .one (.ptr 109 0 0)), (64, .one (.ro (.ints .i64 q))), (65, .one (.int .i64 ((q.length : Nat) : Int))), (66, .one (.int .i64 0))], [(103, .box 1 1 [(.rw 7777 0 t.length)]), (109, .box 1 2 [(.int .i64 aA), (.ro (.ints .i64 q))]), (5007, .recs (.pieces ps)), (7777, .mat 7777 L)]⟩ hT (by kernel_rfl) ⟨(by decide), trivial⟩ ?_
            refine awp_block ?_
            refine awp_loop (I := fun κ σ => ∃ (i : Nat), ((i ≤ q.length) ∧ q.length - i = κ) ∧ σ = ⟨88, [(0, .one (.rs (.rows t))), (3, .one (.ptr 103 0 0)), (6, .one (.rs (.rows (ordersOf t.length)))), (7, .one (.rw 5007 0 ps.length)), (9, .one (.ptr 109 0 0)), (64, .one (.ro (.ints .i64 q))), (65, .one (.int .i64 ((q.length : Nat) : Int))), (66, .one (.int .i64 ((i : Nat) : Int)))], [(103, .box 1 1 [(.rw 7777 0 t.length)]), (109, .box 1 2 [(.int .i64 aA), (.ro (.ints .i64 q))]), (5007, .recs (.pieces ps)), (7777, .mat 7777 (subTo L q aA i))]⟩) _ ⟨0, ⟨(by omega), rfl⟩, (by kernel_rfl)⟩ ?_
            rintro κ _ ⟨i, ⟨hi, rfl⟩, rfl⟩
            refine awp_run_seq [0, 3, 6, 7, 9, 64, 65, 66, 67] [103, 109, 5007, 7777] [] ⟨88, [(0, .one (.rs (.rows t))), (3, .one (.ptr 103 0 0)), (6, .one (.rs (.rows (ordersOf t.length)))), (7, .one (.rw 5007 0 ps.length)), (9, .one (.ptr 109 0 0)), (64, .one (.ro (.ints .i64 q))), (65, .one (.int .i64 ((q.length : Nat) : Int))), (66, .one (.int .i64 ((i : Nat) : Int))), (67, .one (.bool (decide (((i : Nat) : Int) < ((q.length : Nat) : Int)))))], [(103, .box 1 1 [(.rw 7777 0 t.length)]), (109, .box 1 2 [(.int .i64 aA), (.ro (.ints .i64 q))]), (5007, .recs (.pieces ps)), (7777, .mat 7777 (subTo L q aA i))]⟩ hT (by kernel_rfl) trivial ?_
            refine awp_seq ?_
            refine awp_cond (b := (decide (((i : Nat) : Int) < ((q.length : Nat) : Int)))) (by kernel_rfl) (fun c19 => ?_) (fun c19 => ?_)
            · -- yes 19
              try simp only [bs] at c19
              have hin : i < t.length := by omega
              have hqi := hfull.at_ hin
              have hs4 := sub_sq hDS.sq q aA i
              have hrow := hs4.row i hin
              have hl4 := hs4.len
              have hv4 := sub_at hDS.sq hfull aA (i := i) (by omega) i (List.getD q i 0).toNat
              rw [if_neg (by omega)] at hv4
              have hv5 := hDS.le hin (j := (List.getD q i 0).toNat) (by omega)
              have hv6 := hDS.nn i (List.getD q i 0).toNat hin (by omega)
              unfold at2 at hv4 hv5 hv6
              refine awp_skip ?_
              refine awp_seq ?_
              refine awp_block ?_
              refine awp_run_seq [0, 3, 6, 7, 9, 12, 13, 64, 65, 66] [103, 109, 5007, 7777] [((0 : Int) ≤ ((i : Nat) : Int)), (((i : Nat) : Int) < ((q.length : Nat) : Int))] ⟨88, [(0, .one (.rs (.rows t))), (3, .one (.ptr 103 0 0)), (6, .one (.rs (.rows (ordersOf t.length)))), (7, .one (.rw 5007 0 ps.length)), (9, .one (.ptr 109 0 0)), (12, .one (.int .i64 ((i : Nat) : Int))), (13, .one (.int .i64 (List.getD q i 0))), (64, .one (.ro (.ints .i64 q))), (65, .one (.int .i64 ((q.length : Nat) : Int))), (66, .one (.int .i64 ((i : Nat) : Int)))], [(103, .box 1 1 [(.rw 7777 0 t.length)]), (109, .box 1 2 [(.int .i64 aA), (.ro (.ints .i64 q))]), (5007, .recs (.pieces ps)), (7777, .mat 7777 (subTo L q aA i))]⟩ hT (by kernel_rfl) ⟨(by first | omega | (simp only [lens]; omega) | (simp only [Bool.cond_decide]; omega) | (simp only [nadd_eq]; omega)), (by first | omega | (simp only [lens]; omega) | (simp only [Bool.cond_decide]; omega) | (simp only [nadd_eq]; omega)), trivial⟩ ?_
              refine awp_tail 11 [0, 3, 6, 7, 9, 64, 65, 66, 80, 81] [103, 109, 5007, 7777] [(0 < 1), ((0 : Int) ≤ ((i : Nat) : Int)), (((i : Nat) : Int) < ((t.length : Nat) : Int)), (i < (List.length (subTo L q aA i))), ((0 : Int) ≤ (List.getD q i 0)), ((List.getD q i 0) < (((List.length (List.getD (subTo L q aA i) i [])) : Nat) : Int)), ((Int.toNat (List.getD q i 0)) < (List.length (List.getD (subTo L q aA i) i []))), (0 < 1), (-9223372036854775808 ≤ ((List.getD (List.getD (subTo L q aA i) i []) (Int.toNat (List.getD q i 0)) 0) - aA) ∧ ((List.getD (List.getD (subTo L q aA i) i []) (Int.toNat (List.getD q i 0)) 0) - aA) ≤ 9223372036854775807), ((0 : Int) ≤ (List.getD q i 0)), ((List.getD q i 0) < (((List.length (List.getD (subTo L q aA i) i [])) : Nat) : Int))] ⟨88, [(0, .one (.rs (.rows t))), (3, .one (.ptr 103 0 0)), (6, .one (.rs (.rows (ordersOf t.length)))), (7, .one (.rw 5007 0 ps.length)), (9, .one (.ptr 109 0 0)), (64, .one (.ro (.ints .i64 q))), (65, .one (.int .i64 ((q.length : Nat) : Int))), (66, .one (.int .i64 ((i : Nat) : Int))), (80, .one (.int .i64 ((List.getD (List.getD (subTo L q aA i) i []) (Int.toNat (List.getD q i 0)) 0) - aA))), (81, .one (.mptr 7777 i (Int.toNat (List.getD q i 0))))], [(103, .box 1 1 [(.rw 7777 0 t.length)]), (109, .box 1 2 [(.int .i64 aA), (.ro (.ints .i64 q))]), (5007, .recs (.pieces ps)), (7777, .mat 7777 (subTo L q aA i))]⟩ (by kernel_rfl) (by kernel_rfl) hT (by kernel_rfl) ⟨(by decide), (by first | omega | (simp only [lens]; omega) | (simp only [Bool.cond_decide]; omega) | (simp only [nadd_eq]; omega)), (by first | omega | (simp only [lens]; omega) | (simp only [Bool.cond_decide]; omega) | (simp only [nadd_eq]; omega)), (by first | omega | (simp only [lens]; omega) | (simp only [Bool.cond_decide]; omega) | (simp only [nadd_eq]; omega)), (by first | omega | (simp only [lens]; omega) | (simp only [Bool.cond_decide]; omega) | (simp only [nadd_eq]; omega)), (by first | omega | (simp only [lens]; omega) | (simp only [Bool.cond_decide]; omega) | (simp only [nadd_eq]; omega)), (by first | omega | (simp only [lens]; omega) | (simp only [Bool.cond_decide]; omega) | (simp only [nadd_eq]; omega)), (by decide), (by first | omega | (simp only [lens]; omega) | (simp only [Bool.cond_decide]; omega) | (simp only [nadd_eq]; omega)), (by first | omega | (simp only [lens]; omega) | (simp only [Bool.cond_decide]; omega) | (simp only [nadd_eq]; omega)), (by first | omega | (simp only [lens]; omega) | (simp only [Bool.cond_decide]; omega) | (simp only [nadd_eq]; omega)), trivial⟩ ?_
              refine aops_run 1 [0, 3, 6, 7, 9, 64, 65, 66] [103, 109, 5007, 7777] [((Int.toNat (List.getD q i 0)) < (List.length (List.getD (subTo L q aA i) i [])))] ⟨88, [(0, .one (.rs (.rows t))), (3, .one (.ptr 103 0 0)), (6, .one (.rs (.rows (ordersOf t.length)))), (7, .one (.rw 5007 0 ps.length)), (9, .one (.ptr 109 0 0)), (64, .one (.ro (.ints .i64 q))), (65, .one (.int .i64 ((q.length : Nat) : Int))), (66, .one (.int .i64 ((i : Nat) : Int)))], [(103, .box 1 1 [(.rw 7777 0 t.length)]), (109, .box 1 2 [(.int .i64 aA), (.ro (.ints .i64 q))]), (5007, .recs (.pieces ps)), (7777, .mat 7777 (List.set (subTo L q aA i) i (List.set (List.getD (subTo L q aA i) i []) (Int.toNat (List.getD q i 0)) ((List.getD (List.getD (subTo L q aA i) i []) (Int.toNat (List.getD q i 0)) 0) - aA))))]⟩ hT (by kernel_rfl) (by kernel_rfl) ⟨(by first | omega | (simp only [lens]; omega) | (simp only [Bool.cond_decide]; omega) | (simp only [nadd_eq]; omega)), trivial⟩ ?_
              refine aops_end (by kernel_rfl) ?_
              refine awp_run [0, 3, 6, 7, 9, 64, 65, 66] [103, 109, 5007, 7777] [(-9223372036854775808 ≤ (((i + 1) : Nat) : Int) ∧ (((i + 1) : Nat) : Int) ≤ 9223372036854775807)] ⟨88, [(0, .one (.rs (.rows t))), (3, .one (.ptr 103 0 0)), (6, .one (.rs (.rows (ordersOf t.length)))), (7, .one (.rw 5007 0 ps.length)), (9, .one (.ptr 109 0 0)), (64, .one (.ro (.ints .i64 q))), (65, .one (.int .i64 ((q.length : Nat) : Int))), (66, .one (.int .i64 (((i + 1) : Nat) : Int)))], [(103, .box 1 1 [(.rw 7777 0 t.length)]), (109, .box 1 2 [(.int .i64 aA), (.ro (.ints .i64 q))]), (5007, .recs (.pieces ps)), (7777, .mat 7777 (List.set (subTo L q aA i) i (List.set (List.getD (subTo L q aA i) i []) (Int.toNat (List.getD q i 0)) ((List.getD (List.getD (subTo L q aA i) i []) (Int.toNat (List.getD q i 0)) 0) - aA))))]⟩ hT (by kernel_rfl) ⟨(by first | omega | (simp only [lens]; omega) | (simp only [Bool.cond_decide]; omega) | (simp only [nadd_eq]; omega)), trivial⟩ ?_
              refine loop_end _ ?_ ⟨(i + 1), ⟨(by omega), rfl⟩, (by kernel_rfl)⟩
              omega
            · -- no 19
              try simp only [bs] at c19
              refine awp_exit ?_
              rw [show (subTo L q aA i) = (subTo L q aA t.length) from (by rw [show i = t.length by omega])]
              refine awp_run [0, 3, 6, 7] [103, 5007, 7777] [(0 < 1), (ps.length = ps.length), ((ps.length + 1) * 32 ≤ 140737488355328), ((ps.length + 1) ≤ 9223372036854775807)] ⟨88, [(0, .one (.rs (.rows t))), (3, .one (.ptr 103 0 0)), (6, .one (.rs (.rows (ordersOf t.length)))), (7, .one (.rw 5007 0 (ps.length + 1)))], [(103, .box 1 1 [(.rw 7777 0 t.length)]), (5007, .recs (.pieces (ps ++ [(aA, q)]))), (7777, .mat 7777 (subTo L q aA t.length))]⟩ hT (by kernel_rfl) ⟨(by decide), (by first | omega | (simp only [lens]; omega) | (simp only [Bool.cond_decide]; omega) | (simp only [nadd_eq]; omega)), (by first | omega | (simp only [lens]; omega) | (simp only [Bool.cond_decide]; omega) | (simp only [nadd_eq]; omega)), (by first | omega | (simp only [lens]; omega) | (simp only [Bool.cond_decide]; omega) | (simp only [nadd_eq]; omega)), trivial⟩ ?_
              refine loop_end _ ?_ ⟨(subTo L q aA t.length), (s - aA), (ps ++ [(aA, q)]), ⟨(by exact hsub), (by omega), (by intro z; omega), (by simp only [lens]; omega), (by rw [List.append_assoc]; exact hps), rfl⟩, (by first | (simp only [lens]; done) | (simp only [Nat.zero_add]; done) | simp only [lens, Nat.zero_add])⟩
              omega
      · -- no 9
        try simp only [bs] at c9
        have hfin : ps = (pcsOf t.length (Int.toNat (sumV t)) t (sumV t)) := by rw [pcs_stop (hz0 (by omega)), List.append_nil] at hps; exact hps
        refine awp_cut [7] [5007] ⟨88, [(7, .one (.rw 5007 0 ps.length))], [(5007, .recs (.pieces ps))]⟩ (by kernel_rfl) ?_
        refine awp_exit ?_
        exact jend ⟨ps, (by exact hfin), (by kernel_rfl)⟩
    rintro _ ⟨ps, hfinJ, rfl⟩
    refine awp_weak (awk_seal 5007 (s' := ⟨88, [(7, .one (.rs (.pieces (List.take ps.length ps))))], []⟩) (by kernel_rfl)) ?_
    rw [show (List.take ps.length ps) = ps from List.take_of_length_le (by first | omega | simp)]
    refine awp_run_seq [2] [] [] ⟨88, [(2, .one (.rs (.pieces ps)))], []⟩ hT (by kernel_rfl) trivial ?_
    refine awp_ret ?_
    refine kRet.ret _ [] [] (.one (.rs (.pieces ps))) [] (by kernel_rfl) trivial ?_
    exact ⟨congrArg (fun x1 => (.one (.rs (.pieces x1)) : AV)) (show ps = (pcsOf t.length (Int.toNat (sumV t)) t (sumV t)) from by exact hfinJ), rfl⟩

end Go.Ab
