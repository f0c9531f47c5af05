/- Of a determinant without a fraction on the way. -/
import Derived.Test.YtakfbagokponeaaTab
import Derived.Test.YtakfbagokponeaaPlDet3
set_option maxRecDepth 100000
namespace Go.Ab
open Go Go.Proofs
theorem tree_det (n : Nat) (L0 : List (List Int)) (hq : Sq n L0) (hb : ∀ i j, i < n → j < n → -9223372036854775807 ≤ at2 L0 i j ∧ at2 L0 i j ≤ 9223372036854775807) (hs : Small n (at2 L0)) (hn : n ≤ 12) : ACall Try.prog 75 [.one (.rw 99001 0 n)] [(99001, .mat 99001 L0)] (fun ov oh => ∃ (L : List (List Int)), ov = .one (.int .i64 (det n (at2 L0))) ∧ oh = [(99001, .mat 99001 L)]) := by
  refine acall_intro hT Try.func75 rfl (by kernel_rfl) rfl (by kernel_rfl) ?_
  refine awp_run_seq [0] [99001] [] ⟨118, [(0, .one (.rw 99001 0 n))], [(99001, .mat 99001 L0)]⟩ hT (by kernel_rfl) trivial ?_
  refine awp_run_seq [0, 3, 4, 5] [99001] [] ⟨118, [(0, .one (.rw 99001 0 n)), (3, .one (.int .i64 (n : Int))), (4, .one (.int .i64 1)), (5, .one (.int .i64 1))], [(99001, .mat 99001 L0)]⟩ hT (by kernel_rfl) trivial ?_
  refine awp_seq ?_
  refine awp_run_seq [0, 3, 4, 5, 12, 13] [99001] [] ⟨118, [(0, .one (.rw 99001 0 n)), (3, .one (.int .i64 (n : Int))), (4, .one (.int .i64 1)), (5, .one (.int .i64 1)), (12, .one (.int .i64 (n : Int))), (13, .one (.int .i64 0))], [(99001, .mat 99001 L0)]⟩ hT (by kernel_rfl) trivial ?_
  refine awp_block ?_
  refine awp_loop (I := fun κ σ => ∃ (k : Nat) (L : List (List Int)) (sign last : Int) (π : Nat → Nat), ((k ≤ n) ∧ (Bar n (at2 L0) L k sign last π) ∧ n - k = κ) ∧ σ = ⟨118, [(0, .one (.rw 99001 0 n)), (3, .one (.int .i64 (n : Int))), (4, .one (.int .i64 sign)), (5, .one (.int .i64 last)), (12, .one (.int .i64 (n : Int))), (13, .one (.int .i64 (k : Int)))], [(99001, .mat 99001 L)]⟩) _ ⟨0, L0, 1, 1, (fun i => i), ⟨(by omega), (by exact Bar.start hq hb), rfl⟩, (by kernel_rfl)⟩ ?_
  rintro κ _ ⟨k, L, sign, last, π, ⟨hk, hB, rfl⟩, rfl⟩
  have hs1 := hB.s1
  have hlb := hB.lb
  have hBl := hB.sq.len
  refine awp_run_seq [0, 3, 4, 5, 12, 13, 14] [99001] [] ⟨118, [(0, .one (.rw 99001 0 n)), (3, .one (.int .i64 (n : Int))), (4, .one (.int .i64 sign)), (5, .one (.int .i64 last)), (12, .one (.int .i64 (n : Int))), (13, .one (.int .i64 (k : Int))), (14, .one (.bool (decide ((k : Int) < (n : Int)))))], [(99001, .mat 99001 L)]⟩ hT (by kernel_rfl) trivial ?_
  refine awp_seq ?_
  refine awp_cond (b := (decide ((k : Int) < (n : Int)))) (by kernel_rfl) (fun c3 => ?_) (fun c3 => ?_)
  ·
    try simp only [bs] at c3
    have hkn : k < n := by omega
    have hrk := hB.sq.row k hkn
    refine awp_skip ?_
    refine awp_seq ?_
    refine awp_block ?_
    refine awp_run_seq [0, 3, 4, 5, 6, 12, 13] [99001] [] ⟨118, [(0, .one (.rw 99001 0 n)), (3, .one (.int .i64 (n : Int))), (4, .one (.int .i64 sign)), (5, .one (.int .i64 last)), (6, .one (.int .i64 (k : Int))), (12, .one (.int .i64 (n : Int))), (13, .one (.int .i64 (k : Int)))], [(99001, .mat 99001 L)]⟩ hT (by kernel_rfl) trivial ?_
    refine awp_run_seq [0, 3, 4, 5, 6, 7, 12, 13] [99001] [] ⟨118, [(0, .one (.rw 99001 0 n)), (3, .one (.int .i64 (n : Int))), (4, .one (.int .i64 sign)), (5, .one (.int .i64 last)), (6, .one (.int .i64 (k : Int))), (7, .one (.int .i64 (k : Int))), (12, .one (.int .i64 (n : Int))), (13, .one (.int .i64 (k : Int)))], [(99001, .mat 99001 L)]⟩ hT (by kernel_rfl) trivial ?_
    refine awp_seq ?_
    refine awp_block ?_
    refine awp_loop (I := fun κ σ => ∃ (p : Nat), ((k ≤ p ∧ p ≤ n) ∧ (∀ i, k ≤ i → i < p → at2 L i k = 0) ∧ n - p = κ) ∧ σ = ⟨118, [(0, .one (.rw 99001 0 n)), (3, .one (.int .i64 (n : Int))), (4, .one (.int .i64 sign)), (5, .one (.int .i64 last)), (6, .one (.int .i64 (k : Int))), (7, .one (.int .i64 (p : Int))), (12, .one (.int .i64 (n : Int))), (13, .one (.int .i64 (k : Int)))], [(99001, .mat 99001 L)]⟩) _ ⟨k, ⟨(by omega), (by intro i h1 h2; omega), rfl⟩, (by kernel_rfl)⟩ ?_
    rintro κ _ ⟨p, ⟨hp, hz, rfl⟩, rfl⟩
    have hrp := hB.sq.row p
    refine awp_seq ?_
    refine awp_run_seq [0, 3, 4, 5, 6, 7, 12, 13, 29] [99001] [((decide ((p : Int) < (n : Int))) = true → ((decide ((p : Int) < (n : Int))) = true → (decide ((p : Int) < (n : Int))) = true)), ((decide ((p : Int) < (n : Int))) = true → ((decide ((p : Int) < (n : Int))) = true → (decide ((p : Int) < (n : Int))) = true)), ((decide ((p : Int) < (n : Int))) = true → ((0 : Int) ≤ (p : Int))), ((decide ((p : Int) < (n : Int))) = true → ((p : Int) < (n : Int))), ((decide ((p : Int) < (n : Int))) = true → ((decide ((p : Int) < (n : Int))) = true → (decide ((p : Int) < (n : Int))) = true)), ((decide ((p : Int) < (n : Int))) = true → (p < L.length)), ((decide ((p : Int) < (n : Int))) = true → ((decide ((p : Int) < (n : Int))) = true → (decide ((p : Int) < (n : Int))) = true)), ((decide ((p : Int) < (n : Int))) = true → ((decide ((p : Int) < (n : Int))) = true → (decide ((p : Int) < (n : Int))) = true)), ((decide ((p : Int) < (n : Int))) = true → ((0 : Int) ≤ (k : Int))), ((decide ((p : Int) < (n : Int))) = true → ((k : Int) < (((List.length (List.getD L p [])) : Nat) : Int))), ((decide ((p : Int) < (n : Int))) = true → ((decide ((p : Int) < (n : Int))) = true → (decide ((p : Int) < (n : Int))) = true)), ((decide ((p : Int) < (n : Int))) = true → (k < (List.length (List.getD L p [])))), ((decide ((p : Int) < (n : Int))) = true → ((decide ((p : Int) < (n : Int))) = true → (decide ((p : Int) < (n : Int))) = true)), ((decide ((p : Int) < (n : Int))) = true → (decide ((p : Int) < (n : Int))) = true)] ⟨118, [(0, .one (.rw 99001 0 n)), (3, .one (.int .i64 (n : Int))), (4, .one (.int .i64 sign)), (5, .one (.int .i64 last)), (6, .one (.int .i64 (k : Int))), (7, .one (.int .i64 (p : Int))), (12, .one (.int .i64 (n : Int))), (13, .one (.int .i64 (k : Int))), (29, .one (.bool ((decide ((p : Int) < (n : Int))) && (decide ((List.getD (List.getD L p []) k 0) = 0)))))], [(99001, .mat 99001 L)]⟩ hT (by kernel_rfl) ⟨(by intro hg; first | exact hg | skip; (try simp only [bs] at hg ⊢); first | exact hg | first | omega | (simp only [lens]; omega) | (simp only [Bool.cond_decide]; omega) | (simp only [nadd_eq]; omega) | grind), (by intro hg; first | exact hg | skip; (try simp only [bs] at hg ⊢); first | exact hg | first | omega | (simp only [lens]; omega) | (simp only [Bool.cond_decide]; omega) | (simp only [nadd_eq]; omega) | grind), (by intro hg; first | exact hg | skip; (try simp only [bs] at hg); first | exact hg | first | omega | (simp only [lens]; omega) | (simp only [Bool.cond_decide]; omega) | (simp only [nadd_eq]; omega) | grind), (by intro hg; first | exact hg | skip; (try simp only [bs] at hg); first | exact hg | first | omega | (simp only [lens]; omega) | (simp only [Bool.cond_decide]; omega) | (simp only [nadd_eq]; omega) | grind), (by intro hg; first | exact hg | skip; (try simp only [bs] at hg ⊢); first | exact hg | first | omega | (simp only [lens]; omega) | (simp only [Bool.cond_decide]; omega) | (simp only [nadd_eq]; omega) | grind), (by intro hg; first | exact hg | skip; (try simp only [bs] at hg); first | exact hg | first | omega | (simp only [lens]; omega) | (simp only [Bool.cond_decide]; omega) | (simp only [nadd_eq]; omega) | grind), (by intro hg; first | exact hg | skip; (try simp only [bs] at hg ⊢); first | exact hg | first | omega | (simp only [lens]; omega) | (simp only [Bool.cond_decide]; omega) | (simp only [nadd_eq]; omega) | grind), (by intro hg; first | exact hg | skip; (try simp only [bs] at hg ⊢); first | exact hg | first | omega | (simp only [lens]; omega) | (simp only [Bool.cond_decide]; omega) | (simp only [nadd_eq]; omega) | grind), (by intro hg; first | exact hg | skip; (try simp only [bs] at hg); first | exact hg | first | omega | (simp only [lens]; omega) | (simp only [Bool.cond_decide]; omega) | (simp only [nadd_eq]; omega) | grind), (by intro hg; first | exact hg | skip; (try simp only [bs] at hg); first | exact hg | first | omega | (simp only [lens]; omega) | (simp only [Bool.cond_decide]; omega) | (simp only [nadd_eq]; omega) | grind), (by intro hg; first | exact hg | skip; (try simp only [bs] at hg ⊢); first | exact hg | first | omega | (simp only [lens]; omega) | (simp only [Bool.cond_decide]; omega) | (simp only [nadd_eq]; omega) | grind), (by intro hg; first | exact hg | skip; (try simp only [bs] at hg); first | exact hg | first | omega | (simp only [lens]; omega) | (simp only [Bool.cond_decide]; omega) | (simp only [nadd_eq]; omega) | grind), (by intro hg; first | exact hg | skip; (try simp only [bs] at hg ⊢); first | exact hg | first | omega | (simp only [lens]; omega) | (simp only [Bool.cond_decide]; omega) | (simp only [nadd_eq]; omega) | grind), (fun h => h), trivial⟩ ?_
    refine awp_cond (b := ((decide ((p : Int) < (n : Int))) && (decide ((List.getD (List.getD L p []) k 0) = 0)))) (by kernel_rfl) (fun c6 => ?_) (fun c6 => ?_)
    ·
      try simp only [bs] at c6
      refine awp_skip ?_
      refine awp_block ?_
      refine awp_run [0, 3, 4, 5, 6, 7, 12, 13] [99001] [(-9223372036854775808 ≤ (((p + 1) : Nat) : Int) ∧ (((p + 1) : Nat) : Int) ≤ 9223372036854775807)] ⟨118, [(0, .one (.rw 99001 0 n)), (3, .one (.int .i64 (n : Int))), (4, .one (.int .i64 sign)), (5, .one (.int .i64 last)), (6, .one (.int .i64 (k : Int))), (7, .one (.int .i64 (((p + 1) : Nat) : Int))), (12, .one (.int .i64 (n : Int))), (13, .one (.int .i64 (k : Int)))], [(99001, .mat 99001 L)]⟩ hT (by kernel_rfl) ⟨(by omega), trivial⟩ ?_
      refine loop_end _ ?_ ⟨(p + 1), ⟨(by omega), (by intro i h1 h2; rcases Nat.lt_succ_iff_lt_or_eq.1 h2 with q | q; exact hz i h1 q; subst q; unfold at2; omega), rfl⟩, (by kernel_rfl)⟩
      omega
    ·
      try simp only [bs] at c6
      have hend : p = n ∨ at2 L p k ≠ 0 := by unfold at2; omega
      refine awp_exit ?_
      refine awp_seq ?_
      refine awp_run_seq [0, 3, 4, 5, 6, 7, 12, 13, 34] [99001] [] ⟨118, [(0, .one (.rw 99001 0 n)), (3, .one (.int .i64 (n : Int))), (4, .one (.int .i64 sign)), (5, .one (.int .i64 last)), (6, .one (.int .i64 (k : Int))), (7, .one (.int .i64 (p : Int))), (12, .one (.int .i64 (n : Int))), (13, .one (.int .i64 (k : Int))), (34, .one (.bool (decide ((p : Int) = (n : Int)))))], [(99001, .mat 99001 L)]⟩ hT (by kernel_rfl) trivial ?_
      refine awp_cond (b := (decide ((p : Int) = (n : Int)))) (by kernel_rfl) (fun c8 => ?_) (fun c8 => ?_)
      ·
        try simp only [bs] at c8
        refine awp_run_seq [2] [99001] [] ⟨118, [(2, .one (.int .i64 0))], [(99001, .mat 99001 L)]⟩ hT (by kernel_rfl) trivial ?_
        refine awp_ret ?_
        refine kRet.ret _ [99001] [] (.one (.int .i64 0)) [(99001, .mat 99001 L)] (by kernel_rfl) trivial ?_
        exact ⟨L, (by rw [hB.none hkn (fun i h1 h2 => hz i h1 (by omega))]), (by kernel_rfl)⟩
      ·
        try simp only [bs] at c8
        have hpn : p < n := by omega
        have hpz : at2 L p k ≠ 0 := by omega
        refine awp_skip ?_
        refine awp_seq ?_
        refine awp_run_seq [0, 3, 4, 5, 6, 7, 12, 13, 37] [99001] [] ⟨118, [(0, .one (.rw 99001 0 n)), (3, .one (.int .i64 (n : Int))), (4, .one (.int .i64 sign)), (5, .one (.int .i64 last)), (6, .one (.int .i64 (k : Int))), (7, .one (.int .i64 (p : Int))), (12, .one (.int .i64 (n : Int))), (13, .one (.int .i64 (k : Int))), (37, .one (.bool (decide ((p : Int) ≠ (k : Int)))))], [(99001, .mat 99001 L)]⟩ hT (by kernel_rfl) trivial ?_
        refine awp_join_tail (fun σ => ∃ (L1 : List (List Int)) (sg1 : Int) (π1 : Nat → Nat), (Bar n (at2 L0) L1 k sg1 last π1) ∧ (at2 L1 k k ≠ 0) ∧ σ = ⟨118, [(0, .one (.rw 99001 0 n)), (3, .one (.int .i64 (n : Int))), (4, .one (.int .i64 sg1)), (5, .one (.int .i64 last)), (6, .one (.int .i64 (k : Int))), (12, .one (.int .i64 (n : Int))), (13, .one (.int .i64 (k : Int)))], [(99001, .mat 99001 L1)]⟩) ?_ ?_
        ·
          refine awp_cond (b := (decide ((p : Int) ≠ (k : Int)))) (by kernel_rfl) (fun c10 => ?_) (fun c10 => ?_)
          ·
            try simp only [bs] at c10
            refine awp_calm3 [] false [[], [], [], [], [], [], [4, 5], [4, 5, 6], [], [], [8, 9], [8, 9, 10], [], [12], [0, 1, 4, 5, 6, 7, 8, 9, 10, 11], [0, 1, 4, 5, 6, 7, 8, 9, 10, 11, 14], [0, 1, 2, 3, 4, 5, 6, 7, 8, 9, 10, 11, 14, 15], [0, 1, 2, 3, 4, 5, 6, 7, 8, 9, 10, 11, 14, 15, 16], [0, 1, 2, 3, 4, 5, 6, 7, 8, 9, 10, 11, 12, 13, 14, 15, 16, 17]] 0 19 #[false, false, false, false, false, false, false, false, false, false, false, false, false, false, false, false, false, false, false] [0, 3, 4, 5, 6, 7, 12, 13] [99001] [] ⟨118, [(0, .one (.rw 99001 0 n)), (3, .one (.int .i64 (n : Int))), (4, .one (.int .i64 sign)), (5, .one (.int .i64 last)), (6, .one (.int .i64 (k : Int))), (7, .one (.int .i64 (p : Int))), (12, .one (.int .i64 (n : Int))), (13, .one (.int .i64 (k : Int)))], [(99001, .mat 99001 L)]⟩ (by kernel_rfl) hT (by kernel_rfl) (by kernel_rfl) (by kernel_rfl) (by kernel_rfl) trivial ?_
            refine aany_part (n := 4) (L := #[true, true, true, true, true, true, true, true, true, true, true, true, true, true, true, false, false, false, false]) [] false 15 [0, 3, 4, 5, 6, 12, 13, 40, 41, 45, 49, 51, 52] [99001] 2 [(0, []), (1, []), (2, []), (3, []), (4, []), (5, []), (6, [((0 : Int) ≤ (k : Int)), ((k : Int) < (n : Int))]), (7, [(k < L.length)]), (8, []), (9, []), (10, [((0 : Int) ≤ (p : Int)), ((p : Int) < (n : Int))]), (11, [(p < L.length)]), (12, []), (13, [(-9223372036854775808 ≤ (-sign) ∧ (-sign) ≤ 9223372036854775807)]), (14, [((0 : Int) ≤ (p : Int)), ((p : Int) < (n : Int))])] ⟨118, [(0, .one (.rw 99001 0 n)), (3, .one (.int .i64 (n : Int))), (4, .one (.int .i64 sign)), (5, .one (.int .i64 last)), (6, .one (.int .i64 (k : Int))), (12, .one (.int .i64 (n : Int))), (13, .one (.int .i64 (k : Int))), (40, .one (.rw 99001 0 n)), (41, .one (.int .i64 (k : Int))), (45, .one (.mrow 99001 k (List.length (List.getD L k [])))), (49, .one (.mrow 99001 p (List.length (List.getD L p [])))), (51, .one (.int .i64 (-sign))), (52, .one (.ptr 99001 p 0))], [(99001, .mat 99001 L)]⟩ (by kernel_rfl) hT (by kernel_rfl) ⟨trivial, trivial, trivial, trivial, trivial, trivial, ⟨(by omega), (by omega), trivial⟩, ⟨(by omega), trivial⟩, trivial, trivial, ⟨(by omega), (by omega), trivial⟩, ⟨(by omega), trivial⟩, trivial, ⟨(by omega), trivial⟩, ⟨(by omega), (by omega), trivial⟩, trivial⟩ ?_
            refine aany_swap (n := 1) (k1 := 15) (k2 := 16) (k3 := 17) (L1 := #[true, true, true, true, true, true, true, true, true, true, true, true, true, true, true, true, false, false, false]) (L2 := #[true, true, true, true, true, true, true, true, true, true, true, true, true, true, true, true, true, false, false]) (L3 := #[true, true, true, true, true, true, true, true, true, true, true, true, true, true, true, true, true, true, false]) (A := 99001) (p := p) (k := k) (xss := L) (cs := [((0 : Int) ≤ (k : Int)), ((k : Int) < (n : Int))]) hT (by kernel_rfl) (by kernel_rfl) (by kernel_rfl) (by kernel_rfl) (by kernel_rfl) (by kernel_rfl) rfl rfl rfl rfl rfl rfl rfl rfl rfl rfl rfl (show T 25 = some _ from rfl) rfl (by kernel_rfl) (by kernel_rfl) (by kernel_rfl) (by kernel_rfl) ⟨(by omega), (by omega), trivial⟩ rfl (by kernel_rfl) (by kernel_rfl) rfl rfl (by omega) (by omega) rfl rfl (by omega) ?_
            refine aany_weak (awk_cut [0, 3, 4, 5, 6, 12, 13, 51] [99001] _) ?_
            show AAny Try.prog _ _ _ _ ⟨118, [(0, .one (.rw 99001 0 n)), (3, .one (.int .i64 (n : Int))), (4, .one (.int .i64 sign)), (5, .one (.int .i64 last)), (6, .one (.int .i64 (k : Int))), (12, .one (.int .i64 (n : Int))), (13, .one (.int .i64 (k : Int))), (51, .one (.int .i64 (-sign)))], [(99001, .mat 99001 (List.set (List.set L p (List.getD L k [])) k (List.getD L p [])))]⟩
            refine aany_end [] false [0, 3, 4, 5, 6, 12, 13] [99001] 1 [(18, [])] ⟨118, [(0, .one (.rw 99001 0 n)), (3, .one (.int .i64 (n : Int))), (4, .one (.int .i64 (-sign))), (5, .one (.int .i64 last)), (6, .one (.int .i64 (k : Int))), (12, .one (.int .i64 (n : Int))), (13, .one (.int .i64 (k : Int)))], [(99001, .mat 99001 (List.set (List.set L p (List.getD L k [])) k (List.getD L p [])))]⟩ (by kernel_rfl) hT (by kernel_rfl) ⟨trivial, trivial⟩ ?_
            exact jend ⟨(List.set (List.set L p (List.getD L k [])) k (List.getD L p [])), (-sign), (fun i => π (swp p k i)), (by exact hB.swap (by omega) hpn), (by have h9 := at2_swap hB.sq hpn hkn k k; rw [show swp p k k = p from if_pos rfl] at h9; rw [h9]; exact hpz), (by kernel_rfl)⟩
          ·
            try simp only [bs] at c10
            refine awp_cut [0, 3, 4, 5, 6, 12, 13] [99001] ⟨118, [(0, .one (.rw 99001 0 n)), (3, .one (.int .i64 (n : Int))), (4, .one (.int .i64 sign)), (5, .one (.int .i64 last)), (6, .one (.int .i64 (k : Int))), (12, .one (.int .i64 (n : Int))), (13, .one (.int .i64 (k : Int)))], [(99001, .mat 99001 L)]⟩ (by kernel_rfl) ?_
            refine awp_skip ?_
            exact jend ⟨L, sign, π, (by exact hB), (by rw [show p = k by omega] at hpz; exact hpz), (by kernel_rfl)⟩
        rintro _ ⟨L1, sg1, π1, hB1, hp1, rfl⟩
        have hB1l := hB1.sq.len
        have hrk1 := hB1.sq.row k hkn
        refine awp_seq ?_
        refine awp_run_seq [0, 3, 4, 5, 6, 8, 12, 13] [99001] [(-9223372036854775808 ≤ (((k + 1) : Nat) : Int) ∧ (((k + 1) : Nat) : Int) ≤ 9223372036854775807)] ⟨118, [(0, .one (.rw 99001 0 n)), (3, .one (.int .i64 (n : Int))), (4, .one (.int .i64 sg1)), (5, .one (.int .i64 last)), (6, .one (.int .i64 (k : Int))), (8, .one (.int .i64 (((k + 1) : Nat) : Int))), (12, .one (.int .i64 (n : Int))), (13, .one (.int .i64 (k : Int)))], [(99001, .mat 99001 L1)]⟩ hT (by kernel_rfl) ⟨(by omega), trivial⟩ ?_
        refine awp_block ?_
        refine awp_loop (I := fun κ σ => ∃ (i : Nat) (L2 : List (List Int)), ((k + 1 ≤ i ∧ i ≤ n) ∧ (Rnd n (prm (at2 L0) π1) L2 k i (k + 1)) ∧ n - i = κ) ∧ σ = ⟨118, [(0, .one (.rw 99001 0 n)), (3, .one (.int .i64 (n : Int))), (4, .one (.int .i64 sg1)), (5, .one (.int .i64 last)), (6, .one (.int .i64 (k : Int))), (8, .one (.int .i64 (i : Int))), (12, .one (.int .i64 (n : Int))), (13, .one (.int .i64 (k : Int)))], [(99001, .mat 99001 L2)]⟩) _ ⟨(k + 1), L1, ⟨(by omega), (by exact hB1.round), rfl⟩, (by kernel_rfl)⟩ ?_
        rintro κ _ ⟨i, L2, ⟨hi, hR, rfl⟩, rfl⟩
        have hRl := hR.sq.len
        have hR0 := hR
        refine awp_seq ?_
        refine awp_run_seq [0, 3, 4, 5, 6, 8, 12, 13, 58] [99001] [] ⟨118, [(0, .one (.rw 99001 0 n)), (3, .one (.int .i64 (n : Int))), (4, .one (.int .i64 sg1)), (5, .one (.int .i64 last)), (6, .one (.int .i64 (k : Int))), (8, .one (.int .i64 (i : Int))), (12, .one (.int .i64 (n : Int))), (13, .one (.int .i64 (k : Int))), (58, .one (.bool (decide ((i : Int) < (n : Int)))))], [(99001, .mat 99001 L2)]⟩ hT (by kernel_rfl) trivial ?_
        refine awp_cond (b := (decide ((i : Int) < (n : Int)))) (by kernel_rfl) (fun c13 => ?_) (fun c13 => ?_)
        ·
          try simp only [bs] at c13
          have hin : i < n := by omega
          refine awp_skip ?_
          refine awp_seq ?_
          refine awp_block ?_
          refine awp_run_seq [0, 3, 4, 5, 6, 8, 9, 12, 13] [99001] [(-9223372036854775808 ≤ (((k + 1) : Nat) : Int) ∧ (((k + 1) : Nat) : Int) ≤ 9223372036854775807)] ⟨118, [(0, .one (.rw 99001 0 n)), (3, .one (.int .i64 (n : Int))), (4, .one (.int .i64 sg1)), (5, .one (.int .i64 last)), (6, .one (.int .i64 (k : Int))), (8, .one (.int .i64 (i : Int))), (9, .one (.int .i64 (((k + 1) : Nat) : Int))), (12, .one (.int .i64 (n : Int))), (13, .one (.int .i64 (k : Int)))], [(99001, .mat 99001 L2)]⟩ hT (by kernel_rfl) ⟨(by omega), trivial⟩ ?_
          refine awp_block ?_
          refine awp_loop (I := fun κ σ => ∃ (j : Nat) (L3 : List (List Int)), ((k + 1 ≤ j ∧ j ≤ n) ∧ (Rnd n (prm (at2 L0) π1) L3 k i j) ∧ n - j = κ) ∧ σ = ⟨118, [(0, .one (.rw 99001 0 n)), (3, .one (.int .i64 (n : Int))), (4, .one (.int .i64 sg1)), (5, .one (.int .i64 last)), (6, .one (.int .i64 (k : Int))), (8, .one (.int .i64 (i : Int))), (9, .one (.int .i64 (j : Int))), (12, .one (.int .i64 (n : Int))), (13, .one (.int .i64 (k : Int)))], [(99001, .mat 99001 L3)]⟩) _ ⟨(k + 1), L2, ⟨(by omega), (by exact hR), rfl⟩, (by kernel_rfl)⟩ ?_
          rintro κ _ ⟨j, L3, ⟨hj, hR3, rfl⟩, rfl⟩
          have hR3l := hR3.sq.len
          refine awp_seq ?_
          refine awp_run_seq [0, 3, 4, 5, 6, 8, 9, 12, 13, 65] [99001] [] ⟨118, [(0, .one (.rw 99001 0 n)), (3, .one (.int .i64 (n : Int))), (4, .one (.int .i64 sg1)), (5, .one (.int .i64 last)), (6, .one (.int .i64 (k : Int))), (8, .one (.int .i64 (i : Int))), (9, .one (.int .i64 (j : Int))), (12, .one (.int .i64 (n : Int))), (13, .one (.int .i64 (k : Int))), (65, .one (.bool (decide ((j : Int) < (n : Int)))))], [(99001, .mat 99001 L3)]⟩ hT (by kernel_rfl) trivial ?_
          refine awp_cond (b := (decide ((j : Int) < (n : Int)))) (by kernel_rfl) (fun c16 => ?_) (fun c16 => ?_)
          ·
            try simp only [bs] at c16
            have hjn : j < n := by omega
            have hri := hR3.sq.row i hin
            have hrk3 := hR3.sq.row k hkn
            obtain ⟨z1, z2, z3, z4⟩ := Rnd.step hB1 hR3 hs (show k < i by omega) hin (show k < j by omega) hjn
            have hne1 := hB1.ne
            unfold at2 at z1 z2 z3
            refine awp_skip ?_
            refine awp_seq ?_
            refine awp_block ?_
            refine awp_tail 39 [0, 3, 4, 5, 6, 8, 9, 12, 13, 105, 106] [99001] [((0 : Int) ≤ (i : Int)), ((i : Int) < (n : Int)), (i < L3.length), ((0 : Int) ≤ (i : Int)), ((i : Int) < (n : Int)), (i < L3.length), ((0 : Int) ≤ (j : Int)), ((j : Int) < (((List.length (List.getD L3 i [])) : Nat) : Int)), (j < (List.length (List.getD L3 i []))), ((0 : Int) ≤ (k : Int)), ((k : Int) < (n : Int)), (k < L3.length), ((0 : Int) ≤ (k : Int)), ((k : Int) < (((List.length (List.getD L3 k [])) : Nat) : Int)), (k < (List.length (List.getD L3 k []))), (-9223372036854775808 ≤ ((List.getD (List.getD L3 i []) j 0) * (List.getD (List.getD L3 k []) k 0)) ∧ ((List.getD (List.getD L3 i []) j 0) * (List.getD (List.getD L3 k []) k 0)) ≤ 9223372036854775807), ((0 : Int) ≤ (i : Int)), ((i : Int) < (n : Int)), (i < L3.length), ((0 : Int) ≤ (k : Int)), ((k : Int) < (((List.length (List.getD L3 i [])) : Nat) : Int)), (k < (List.length (List.getD L3 i []))), ((0 : Int) ≤ (k : Int)), ((k : Int) < (n : Int)), (k < L3.length), ((0 : Int) ≤ (j : Int)), ((j : Int) < (((List.length (List.getD L3 k [])) : Nat) : Int)), (j < (List.length (List.getD L3 k []))), (-9223372036854775808 ≤ ((List.getD (List.getD L3 i []) k 0) * (List.getD (List.getD L3 k []) j 0)) ∧ ((List.getD (List.getD L3 i []) k 0) * (List.getD (List.getD L3 k []) j 0)) ≤ 9223372036854775807), (-9223372036854775808 ≤ (((List.getD (List.getD L3 i []) j 0) * (List.getD (List.getD L3 k []) k 0)) - ((List.getD (List.getD L3 i []) k 0) * (List.getD (List.getD L3 k []) j 0))) ∧ (((List.getD (List.getD L3 i []) j 0) * (List.getD (List.getD L3 k []) k 0)) - ((List.getD (List.getD L3 i []) k 0) * (List.getD (List.getD L3 k []) j 0))) ≤ 9223372036854775807), (last ≠ (0 : Int)), (-9223372036854775808 ≤ (Int.tdiv (((List.getD (List.getD L3 i []) j 0) * (List.getD (List.getD L3 k []) k 0)) - ((List.getD (List.getD L3 i []) k 0) * (List.getD (List.getD L3 k []) j 0))) last) ∧ (Int.tdiv (((List.getD (List.getD L3 i []) j 0) * (List.getD (List.getD L3 k []) k 0)) - ((List.getD (List.getD L3 i []) k 0) * (List.getD (List.getD L3 k []) j 0))) last) ≤ 9223372036854775807), ((0 : Int) ≤ (j : Int)), ((j : Int) < (((List.length (List.getD L3 i [])) : Nat) : Int))] ⟨118, [(0, .one (.rw 99001 0 n)), (3, .one (.int .i64 (n : Int))), (4, .one (.int .i64 sg1)), (5, .one (.int .i64 last)), (6, .one (.int .i64 (k : Int))), (8, .one (.int .i64 (i : Int))), (9, .one (.int .i64 (j : Int))), (12, .one (.int .i64 (n : Int))), (13, .one (.int .i64 (k : Int))), (105, .one (.int .i64 (Int.tdiv (((List.getD (List.getD L3 i []) j 0) * (List.getD (List.getD L3 k []) k 0)) - ((List.getD (List.getD L3 i []) k 0) * (List.getD (List.getD L3 k []) j 0))) last))), (106, .one (.mptr 99001 i j))], [(99001, .mat 99001 L3)]⟩ (by kernel_rfl) (by kernel_rfl) hT (by kernel_rfl) ⟨(by omega), (by omega), (by omega), (by omega), (by omega), (by omega), (by omega), (by omega), (by omega), (by omega), (by omega), (by omega), (by omega), (by omega), (by omega), (by omega), (by omega), (by omega), (by omega), (by omega), (by omega), (by omega), (by omega), (by omega), (by omega), (by omega), (by omega), (by omega), (by omega), (by omega), (by omega), (by omega), (by omega), (by omega), trivial⟩ ?_
            refine aops_run 1 [0, 3, 4, 5, 6, 8, 9, 12, 13] [99001] [(j < (List.length (List.getD L3 i [])))] ⟨118, [(0, .one (.rw 99001 0 n)), (3, .one (.int .i64 (n : Int))), (4, .one (.int .i64 sg1)), (5, .one (.int .i64 last)), (6, .one (.int .i64 (k : Int))), (8, .one (.int .i64 (i : Int))), (9, .one (.int .i64 (j : Int))), (12, .one (.int .i64 (n : Int))), (13, .one (.int .i64 (k : Int)))], [(99001, .mat 99001 (List.set L3 i (List.set (List.getD L3 i []) j (Int.tdiv (((List.getD (List.getD L3 i []) j 0) * (List.getD (List.getD L3 k []) k 0)) - ((List.getD (List.getD L3 i []) k 0) * (List.getD (List.getD L3 k []) j 0))) last))))]⟩ hT (by kernel_rfl) (by kernel_rfl) ⟨(by omega), trivial⟩ ?_
            refine aops_end (by kernel_rfl) ?_
            refine awp_run [0, 3, 4, 5, 6, 8, 9, 12, 13] [99001] [(-9223372036854775808 ≤ (((j + 1) : Nat) : Int) ∧ (((j + 1) : Nat) : Int) ≤ 9223372036854775807)] ⟨118, [(0, .one (.rw 99001 0 n)), (3, .one (.int .i64 (n : Int))), (4, .one (.int .i64 sg1)), (5, .one (.int .i64 last)), (6, .one (.int .i64 (k : Int))), (8, .one (.int .i64 (i : Int))), (9, .one (.int .i64 (((j + 1) : Nat) : Int))), (12, .one (.int .i64 (n : Int))), (13, .one (.int .i64 (k : Int)))], [(99001, .mat 99001 (List.set L3 i (List.set (List.getD L3 i []) j (Int.tdiv (((List.getD (List.getD L3 i []) j 0) * (List.getD (List.getD L3 k []) k 0)) - ((List.getD (List.getD L3 i []) k 0) * (List.getD (List.getD L3 k []) j 0))) last))))]⟩ hT (by kernel_rfl) ⟨(by omega), trivial⟩ ?_
            refine loop_end _ ?_ ⟨(j + 1), (List.set L3 i (List.set (List.getD L3 i []) j (Int.tdiv (((List.getD (List.getD L3 i []) j 0) * (List.getD (List.getD L3 k []) k 0)) - ((List.getD (List.getD L3 i []) k 0) * (List.getD (List.getD L3 k []) j 0))) last))), ⟨(by omega), (by exact z4), rfl⟩, (by kernel_rfl)⟩
            omega
          ·
            try simp only [bs] at c16
            refine awp_exit ?_
            refine awp_run [0, 3, 4, 5, 6, 8, 12, 13] [99001] [(-9223372036854775808 ≤ (((i + 1) : Nat) : Int) ∧ (((i + 1) : Nat) : Int) ≤ 9223372036854775807)] ⟨118, [(0, .one (.rw 99001 0 n)), (3, .one (.int .i64 (n : Int))), (4, .one (.int .i64 sg1)), (5, .one (.int .i64 last)), (6, .one (.int .i64 (k : Int))), (8, .one (.int .i64 (((i + 1) : Nat) : Int))), (12, .one (.int .i64 (n : Int))), (13, .one (.int .i64 (k : Int)))], [(99001, .mat 99001 L3)]⟩ hT (by kernel_rfl) ⟨(by omega), trivial⟩ ?_
            refine loop_end _ ?_ ⟨(i + 1), L3, ⟨(by omega), (by exact hR3.next (by omega)), rfl⟩, (by kernel_rfl)⟩
            omega
        ·
          try simp only [bs] at c13
          have hpv := Rnd.piv hB1 hR hkn
          have hrk2 := hR.sq.row k hkn
          have hBn := hB1.next hR hkn (by omega) (by rw [hpv]; exact hp1)
          refine awp_exit ?_
          refine awp_run [0, 3, 4, 5, 12, 13] [99001] [((0 : Int) ≤ (k : Int)), ((k : Int) < (n : Int)), (k < L2.length), ((0 : Int) ≤ (k : Int)), ((k : Int) < (((List.length (List.getD L2 k [])) : Nat) : Int)), (k < (List.length (List.getD L2 k [])))] ⟨118, [(0, .one (.rw 99001 0 n)), (3, .one (.int .i64 (n : Int))), (4, .one (.int .i64 sg1)), (5, .one (.int .i64 (List.getD (List.getD L2 k []) k 0))), (12, .one (.int .i64 (n : Int))), (13, .one (.int .i64 (k : Int)))], [(99001, .mat 99001 L2)]⟩ hT (by kernel_rfl) ⟨(by omega), (by omega), (by omega), (by omega), (by omega), (by omega), trivial⟩ ?_
          refine awp_run [0, 3, 4, 5, 12, 13] [99001] [(-9223372036854775808 ≤ (((k + 1) : Nat) : Int) ∧ (((k + 1) : Nat) : Int) ≤ 9223372036854775807)] ⟨118, [(0, .one (.rw 99001 0 n)), (3, .one (.int .i64 (n : Int))), (4, .one (.int .i64 sg1)), (5, .one (.int .i64 (List.getD (List.getD L2 k []) k 0))), (12, .one (.int .i64 (n : Int))), (13, .one (.int .i64 (((k + 1) : Nat) : Int)))], [(99001, .mat 99001 L2)]⟩ hT (by kernel_rfl) ⟨(by omega), trivial⟩ ?_
          refine loop_end _ ?_ ⟨(k + 1), L2, sg1, (List.getD (List.getD L2 k []) k 0), π1, ⟨(by omega), (by exact hBn), rfl⟩, (by kernel_rfl)⟩
          omega
  ·
    try simp only [bs] at c3
    have hsl : sign * last = last ∨ sign * last = -last := by rcases hs1 with q | q <;> rw [q] <;> omega
    refine awp_exit ?_
    refine awp_run_seq [2] [99001] [(-9223372036854775808 ≤ (sign * last) ∧ (sign * last) ≤ 9223372036854775807)] ⟨118, [(2, .one (.int .i64 (sign * last)))], [(99001, .mat 99001 L)]⟩ hT (by kernel_rfl) ⟨(by omega), trivial⟩ ?_
    refine awp_ret ?_
    refine kRet.ret _ [99001] [] (.one (.int .i64 (sign * last))) [(99001, .mat 99001 L)] (by kernel_rfl) trivial ?_
    exact ⟨L, (by rw [hB.end_ (by omega)]), (by kernel_rfl)⟩
end Go.Ab
