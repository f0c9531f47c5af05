/- Of assign: Prices. -/
import Derived.Test.YtoghkabjfpolbaaTab
import Derived.Test.YtoghkabjfpolbaaAss3
set_option maxRecDepth 100000
namespace Go.Ab
open Go Go.Proofs
theorem assign_prices (t : List (List Int)) : ACall Try.prog 16 [.one (.rs (.rows t))] [] (fun ov oh => ∃ (w : List Int), (((tabErr t (-1000)) ≠ 0 ∧ w = []) ∨ ((tabErr t (-1000)) = 0 ∧ IsPrice t (bestOf t).1 w)) ∧ ov = .tup [(false, [(.ro (.ints .i64 (okL (tabErr t (-1000)) (restOf t (bestOf t).1 w))))]), (false, [(.ro (.ints .i64 w))]), (false, [(.int .i64 (tabErr t (-1000)))])] ∧ oh = []) := by
  refine acall_intro hT Try.func16 rfl (by kernel_rfl) rfl (by kernel_rfl) ?_
  refine awp_run_seq [0] [] [] ⟨105, [(0, .one (.rs (.rows t)))], []⟩ hT (by kernel_rfl) trivial ?_
  refine awp_seq (awp_region ?_)
  refine aops_run 1 [0, 16] [] [] ⟨105, [(0, .one (.rs (.rows t))), (16, .one (.rs (.rows t)))], []⟩ hT (by kernel_rfl) (by kernel_rfl) trivial ?_
  refine aops_pure false ⟨true, [], 15, [.one (.rs (.rows t))], []⟩ [.one (.rs (.rows t))] (.tup [(false, [(.ro (.ints .i64 (okL (tabErr t (-1000)) (bestOf t).1)))]), (false, [(.int .i64 (okI (tabErr t (-1000)) (bestOf t).2))]), (false, [(.int .i64 (tabErr t (-1000)))])]) ⟨105, [(0, .one (.rs (.rows t))), (16, .one (.rs (.rows t))), (17, .tup [(false, [(.ro (.ints .i64 (okL (tabErr t (-1000)) (bestOf t).1)))]), (false, [(.int .i64 (okI (tabErr t (-1000)) (bestOf t).2))]), (false, [(.int .i64 (tabErr t (-1000)))])])], []⟩ (by kernel_rfl) (by kernel_rfl) (fun _ => trivial) rfl (fun _ => assign_best t) ?_
  refine aops_run 7 [0, 5, 7] [] [] ⟨105, [(0, .one (.rs (.rows t))), (5, .one (.ro (.ints .i64 (okL (tabErr t (-1000)) (bestOf t).1)))), (7, .one (.int .i64 (tabErr t (-1000))))], []⟩ hT (by kernel_rfl) (by kernel_rfl) trivial ?_
  refine aops_end_seq (by kernel_rfl) ?_
  refine awp_seq ?_
  refine awp_run_seq [0, 5, 7, 22] [] [] ⟨105, [(0, .one (.rs (.rows t))), (5, .one (.ro (.ints .i64 (okL (tabErr t (-1000)) (bestOf t).1)))), (7, .one (.int .i64 (tabErr t (-1000)))), (22, .one (.bool (decide ((tabErr t (-1000)) ≠ 0))))], []⟩ hT (by kernel_rfl) trivial ?_
  refine awp_cond (b := (decide ((tabErr t (-1000)) ≠ 0))) (by kernel_rfl) (fun c2 => ?_) (fun c2 => ?_)
  · -- yes 2
    try simp only [bs] at c2
    refine awp_run_seq [2, 3, 4] [] [] ⟨105, [(2, .one .nils), (3, .one .nils), (4, .one (.int .i64 (tabErr t (-1000))))], []⟩ hT (by kernel_rfl) trivial ?_
    refine awp_weak (awk_slot 2 (.one .nils) (.one (.ro (.ints .i64 []))) _ (by kernel_rfl) (.one (wkv_nil0 rfl))) ?_
    refine awp_weak (awk_slot 3 (.one .nils) (.one (.ro (.ints .i64 []))) _ (by kernel_rfl) (.one (wkv_nil0 rfl))) ?_
    refine awp_ret ?_
    refine kRet.ret _ [] [] (.tup [(false, [(.ro (.ints .i64 []))]), (false, [(.ro (.ints .i64 []))]), (false, [(.int .i64 (tabErr t (-1000)))])]) [] (by kernel_rfl) trivial ?_
    exact ⟨[], (by exact .inl ⟨by omega, rfl⟩), (by rw [okL_no _ c2]), (by kernel_rfl)⟩
  · -- no 2
    try simp only [bs] at c2
    have hE : tabErr t (-1000) = 0 := by omega
    have hG := gains_of hE
    have h6 := hG.n6
    obtain ⟨hF, hSum, hBst⟩ := best_spec hG
    obtain ⟨D, hD⟩ := least_ex hG
    have hPl : (bestOf t).1.length = t.length := hF.1
    refine awp_skip ?_
    rw [show (okL (tabErr t (-1000)) (bestOf t).1) = (bestOf t).1 from okL_ok _ hE]
    refine awp_run_seq [0, 5, 8] [126] [((0 : Int) ≤ ((t.length : Nat) : Int)), (((t.length : Nat) : Int) ≤ ((t.length : Nat) : Int)), ((8 : Int) * ((t.length : Nat) : Int) ≤ 281474976710656), (((t.length : Nat) : Int) ≤ 9223372036854775807)] ⟨105, [(0, .one (.rs (.rows t))), (5, .one (.ro (.ints .i64 ((bestOf t).1)))), (8, .one (.rw 126 0 t.length))], [(126, .flat (.ints .i64 (List.replicate t.length (0 : Int))))]⟩ hT (by kernel_rfl) ⟨(by first | omega | (simp only [lens]; omega) | (simp only [Bool.cond_decide]; omega)), (by first | omega | (simp only [lens]; omega) | (simp only [Bool.cond_decide]; omega)), (by first | omega | (simp only [lens]; omega) | (simp only [Bool.cond_decide]; omega)), (by first | omega | (simp only [lens]; omega) | (simp only [Bool.cond_decide]; omega)), trivial⟩ ?_
    refine awp_seq ?_
    refine awp_run_seq [0, 5, 8, 28, 29] [126] [] ⟨105, [(0, .one (.rs (.rows t))), (5, .one (.ro (.ints .i64 ((bestOf t).1)))), (8, .one (.rw 126 0 t.length)), (28, .one (.int .i64 ((t.length : Nat) : Int))), (29, .one (.int .i64 0))], [(126, .flat (.ints .i64 (List.replicate t.length (0 : Int))))]⟩ hT (by kernel_rfl) trivial ?_
    refine awp_block ?_
    refine awp_loop (I := fun κ σ => ∃ (r : Nat) (x : List Int), ((r ≤ t.length) ∧ (Upx t (bestOf t).1 D x r) ∧ t.length - r = κ) ∧ σ = ⟨105, [(0, .one (.rs (.rows t))), (5, .one (.ro (.ints .i64 ((bestOf t).1)))), (8, .one (.rw 126 0 t.length)), (28, .one (.int .i64 ((t.length : Nat) : Int))), (29, .one (.int .i64 ((r : Nat) : Int)))], [(126, .flat (.ints .i64 x))]⟩) _ ⟨0, (List.replicate t.length 0), ⟨(by omega), (by exact Upx.start hD), rfl⟩, (by kernel_rfl)⟩ ?_
    rintro κ _ ⟨r, x, ⟨hr, hX, rfl⟩, rfl⟩
    have hxl := hX.len
    refine awp_run_seq [0, 5, 8, 28, 29, 30] [126] [] ⟨105, [(0, .one (.rs (.rows t))), (5, .one (.ro (.ints .i64 ((bestOf t).1)))), (8, .one (.rw 126 0 t.length)), (28, .one (.int .i64 ((t.length : Nat) : Int))), (29, .one (.int .i64 ((r : Nat) : Int))), (30, .one (.bool (decide (((r : Nat) : Int) < ((t.length : Nat) : Int)))))], [(126, .flat (.ints .i64 x))]⟩ hT (by kernel_rfl) trivial ?_
    refine awp_seq ?_
    refine awp_cond (b := (decide (((r : Nat) : Int) < ((t.length : Nat) : Int)))) (by kernel_rfl) (fun c6 => ?_) (fun c6 => ?_)
    · -- yes 6
      try simp only [bs] at c6
      refine awp_skip ?_
      refine awp_seq ?_
      refine awp_block ?_
      refine awp_run_seq [0, 5, 8, 28, 29, 31, 32, 33] [126] [] ⟨105, [(0, .one (.rs (.rows t))), (5, .one (.ro (.ints .i64 ((bestOf t).1)))), (8, .one (.rw 126 0 t.length)), (28, .one (.int .i64 ((t.length : Nat) : Int))), (29, .one (.int .i64 ((r : Nat) : Int))), (31, .one (.rs (.rows t))), (32, .one (.int .i64 ((t.length : Nat) : Int))), (33, .one (.int .i64 0))], [(126, .flat (.ints .i64 x))]⟩ hT (by kernel_rfl) trivial ?_
      refine awp_block ?_
      refine awp_loop (I := fun κ σ => ∃ (i : Nat) (y : List Int), ((i ≤ t.length) ∧ (RelP t (bestOf t).1 D x y i 0) ∧ t.length - i = κ) ∧ σ = ⟨105, [(0, .one (.rs (.rows t))), (5, .one (.ro (.ints .i64 ((bestOf t).1)))), (8, .one (.rw 126 0 t.length)), (28, .one (.int .i64 ((t.length : Nat) : Int))), (29, .one (.int .i64 ((r : Nat) : Int))), (31, .one (.rs (.rows t))), (32, .one (.int .i64 ((t.length : Nat) : Int))), (33, .one (.int .i64 ((i : Nat) : Int)))], [(126, .flat (.ints .i64 y))]⟩) _ ⟨0, x, ⟨(by omega), (by exact hX.rel), rfl⟩, (by kernel_rfl)⟩ ?_
      rintro κ _ ⟨i, y, ⟨hi, hR, rfl⟩, rfl⟩
      have hyl := hR.len
      refine awp_run_seq [0, 5, 8, 28, 29, 31, 32, 33, 34] [126] [] ⟨105, [(0, .one (.rs (.rows t))), (5, .one (.ro (.ints .i64 ((bestOf t).1)))), (8, .one (.rw 126 0 t.length)), (28, .one (.int .i64 ((t.length : Nat) : Int))), (29, .one (.int .i64 ((r : Nat) : Int))), (31, .one (.rs (.rows t))), (32, .one (.int .i64 ((t.length : Nat) : Int))), (33, .one (.int .i64 ((i : Nat) : Int))), (34, .one (.bool (decide (((i : Nat) : Int) < ((t.length : Nat) : Int)))))], [(126, .flat (.ints .i64 y))]⟩ hT (by kernel_rfl) trivial ?_
      refine awp_seq ?_
      refine awp_cond (b := (decide (((i : Nat) : Int) < ((t.length : Nat) : Int)))) (by kernel_rfl) (fun c8 => ?_) (fun c8 => ?_)
      · -- yes 8
        try simp only [bs] at c8
        have hil : i < t.length := by omega
        have hpi := hF.at_ hil
        have hrl := hG.row i hil
        have hgp := hG.at_ i (Int.toNat (List.getD (bestOf t).1 i 0)) hil (by omega)
        unfold gn at hgp
        refine awp_skip ?_
        refine awp_seq ?_
        refine awp_block ?_
        refine awp_run_seq [0, 5, 8, 9, 10, 28, 29, 31, 32, 33] [126] [((0 : Int) ≤ ((i : Nat) : Int)), (((i : Nat) : Int) < ((t.length : Nat) : Int))] ⟨105, [(0, .one (.rs (.rows t))), (5, .one (.ro (.ints .i64 ((bestOf t).1)))), (8, .one (.rw 126 0 t.length)), (9, .one (.int .i64 ((i : Nat) : Int))), (10, .one (.ro (.ints .i64 (List.getD t i [])))), (28, .one (.int .i64 ((t.length : Nat) : Int))), (29, .one (.int .i64 ((r : Nat) : Int))), (31, .one (.rs (.rows t))), (32, .one (.int .i64 ((t.length : Nat) : Int))), (33, .one (.int .i64 ((i : Nat) : Int)))], [(126, .flat (.ints .i64 y))]⟩ hT (by kernel_rfl) ⟨(by first | omega | (simp only [lens]; omega) | (simp only [Bool.cond_decide]; omega)), (by first | omega | (simp only [lens]; omega) | (simp only [Bool.cond_decide]; omega)), trivial⟩ ?_
        refine awp_run_seq [0, 5, 8, 9, 10, 28, 29, 31, 32, 33, 39, 40] [126] [] ⟨105, [(0, .one (.rs (.rows t))), (5, .one (.ro (.ints .i64 ((bestOf t).1)))), (8, .one (.rw 126 0 t.length)), (9, .one (.int .i64 ((i : Nat) : Int))), (10, .one (.ro (.ints .i64 (List.getD t i [])))), (28, .one (.int .i64 ((t.length : Nat) : Int))), (29, .one (.int .i64 ((r : Nat) : Int))), (31, .one (.rs (.rows t))), (32, .one (.int .i64 ((t.length : Nat) : Int))), (33, .one (.int .i64 ((i : Nat) : Int))), (39, .one (.int .i64 (((List.length (List.getD t i [])) : Nat) : Int))), (40, .one (.int .i64 0))], [(126, .flat (.ints .i64 y))]⟩ hT (by kernel_rfl) trivial ?_
        refine awp_block ?_
        refine awp_loop (I := fun κ σ => ∃ (k : Nat) (z : List Int), ((k ≤ t.length) ∧ (RelP t (bestOf t).1 D x z i k) ∧ t.length - k = κ) ∧ σ = ⟨105, [(0, .one (.rs (.rows t))), (5, .one (.ro (.ints .i64 ((bestOf t).1)))), (8, .one (.rw 126 0 t.length)), (9, .one (.int .i64 ((i : Nat) : Int))), (10, .one (.ro (.ints .i64 (List.getD t i [])))), (28, .one (.int .i64 ((t.length : Nat) : Int))), (29, .one (.int .i64 ((r : Nat) : Int))), (31, .one (.rs (.rows t))), (32, .one (.int .i64 ((t.length : Nat) : Int))), (33, .one (.int .i64 ((i : Nat) : Int))), (39, .one (.int .i64 (((List.length (List.getD t i [])) : Nat) : Int))), (40, .one (.int .i64 ((k : Nat) : Int)))], [(126, .flat (.ints .i64 z))]⟩) _ ⟨0, y, ⟨(by omega), (by exact hR), rfl⟩, (by kernel_rfl)⟩ ?_
        rintro κ _ ⟨k, z, ⟨hk, hS, rfl⟩, rfl⟩
        have hwl := hS.len
        refine awp_run_seq [0, 5, 8, 9, 10, 28, 29, 31, 32, 33, 39, 40, 41] [126] [] ⟨105, [(0, .one (.rs (.rows t))), (5, .one (.ro (.ints .i64 ((bestOf t).1)))), (8, .one (.rw 126 0 t.length)), (9, .one (.int .i64 ((i : Nat) : Int))), (10, .one (.ro (.ints .i64 (List.getD t i [])))), (28, .one (.int .i64 ((t.length : Nat) : Int))), (29, .one (.int .i64 ((r : Nat) : Int))), (31, .one (.rs (.rows t))), (32, .one (.int .i64 ((t.length : Nat) : Int))), (33, .one (.int .i64 ((i : Nat) : Int))), (39, .one (.int .i64 (((List.length (List.getD t i [])) : Nat) : Int))), (40, .one (.int .i64 ((k : Nat) : Int))), (41, .one (.bool (decide (((k : Nat) : Int) < (((List.length (List.getD t i [])) : Nat) : Int)))))], [(126, .flat (.ints .i64 z))]⟩ hT (by kernel_rfl) trivial ?_
        refine awp_seq ?_
        refine awp_cond (b := (decide (((k : Nat) : Int) < (((List.length (List.getD t i [])) : Nat) : Int)))) (by kernel_rfl) (fun c11 => ?_) (fun c11 => ?_)
        · -- yes 11
          try simp only [bs] at c11
          have hkl : k < t.length := by omega
          have hgk := hG.at_ i k hil hkl
          unfold gn at hgk
          have hb1 := hS.in_ hD (j := Int.toNat (List.getD (bestOf t).1 i 0)) (by omega)
          have hb2 := hS.in_ hD (j := k) hkl
          have hSn := hS.step hD hil hkl
          refine awp_skip ?_
          refine awp_seq ?_
          refine awp_block ?_
          refine awp_run_seq [0, 5, 8, 9, 10, 11, 28, 29, 31, 32, 33, 39, 40] [126] [] ⟨105, [(0, .one (.rs (.rows t))), (5, .one (.ro (.ints .i64 ((bestOf t).1)))), (8, .one (.rw 126 0 t.length)), (9, .one (.int .i64 ((i : Nat) : Int))), (10, .one (.ro (.ints .i64 (List.getD t i [])))), (11, .one (.int .i64 ((k : Nat) : Int))), (28, .one (.int .i64 ((t.length : Nat) : Int))), (29, .one (.int .i64 ((r : Nat) : Int))), (31, .one (.rs (.rows t))), (32, .one (.int .i64 ((t.length : Nat) : Int))), (33, .one (.int .i64 ((i : Nat) : Int))), (39, .one (.int .i64 (((List.length (List.getD t i [])) : Nat) : Int))), (40, .one (.int .i64 ((k : Nat) : Int)))], [(126, .flat (.ints .i64 z))]⟩ hT (by kernel_rfl) trivial ?_
          refine awp_tail 28 [0, 5, 8, 9, 10, 28, 29, 31, 32, 33, 39, 40, 69, 70] [126] [((0 : Int) ≤ ((k : Nat) : Int)), (((k : Nat) : Int) < ((t.length : Nat) : Int)), (k < z.length), ((0 : Int) ≤ ((i : Nat) : Int)), (((i : Nat) : Int) < (((List.length ((bestOf t).1)) : Nat) : Int)), ((0 : Int) ≤ (List.getD ((bestOf t).1) i 0)), ((List.getD ((bestOf t).1) i 0) < ((t.length : Nat) : Int)), ((Int.toNat (List.getD ((bestOf t).1) i 0)) < z.length), ((0 : Int) ≤ ((k : Nat) : Int)), (((k : Nat) : Int) < (((List.length (List.getD t i [])) : Nat) : Int)), (-9223372036854775808 ≤ ((List.getD z (Int.toNat (List.getD ((bestOf t).1) i 0)) 0) + (List.getD (List.getD t i []) k 0)) ∧ ((List.getD z (Int.toNat (List.getD ((bestOf t).1) i 0)) 0) + (List.getD (List.getD t i []) k 0)) ≤ 9223372036854775807), ((0 : Int) ≤ ((i : Nat) : Int)), (((i : Nat) : Int) < (((List.length ((bestOf t).1)) : Nat) : Int)), ((0 : Int) ≤ (List.getD ((bestOf t).1) i 0)), ((List.getD ((bestOf t).1) i 0) < (((List.length (List.getD t i [])) : Nat) : Int)), (-9223372036854775808 ≤ (((List.getD z (Int.toNat (List.getD ((bestOf t).1) i 0)) 0) + (List.getD (List.getD t i []) k 0)) - (List.getD (List.getD t i []) (Int.toNat (List.getD ((bestOf t).1) i 0)) 0)) ∧ (((List.getD z (Int.toNat (List.getD ((bestOf t).1) i 0)) 0) + (List.getD (List.getD t i []) k 0)) - (List.getD (List.getD t i []) (Int.toNat (List.getD ((bestOf t).1) i 0)) 0)) ≤ 9223372036854775807), ((0 : Int) ≤ ((k : Nat) : Int)), (((k : Nat) : Int) < ((t.length : Nat) : Int))] ⟨105, [(0, .one (.rs (.rows t))), (5, .one (.ro (.ints .i64 ((bestOf t).1)))), (8, .one (.rw 126 0 t.length)), (9, .one (.int .i64 ((i : Nat) : Int))), (10, .one (.ro (.ints .i64 (List.getD t i [])))), (28, .one (.int .i64 ((t.length : Nat) : Int))), (29, .one (.int .i64 ((r : Nat) : Int))), (31, .one (.rs (.rows t))), (32, .one (.int .i64 ((t.length : Nat) : Int))), (33, .one (.int .i64 ((i : Nat) : Int))), (39, .one (.int .i64 (((List.length (List.getD t i [])) : Nat) : Int))), (40, .one (.int .i64 ((k : Nat) : Int))), (69, .one (.int .i64 (max (List.getD z k 0) (((List.getD z (Int.toNat (List.getD ((bestOf t).1) i 0)) 0) + (List.getD (List.getD t i []) k 0)) - (List.getD (List.getD t i []) (Int.toNat (List.getD ((bestOf t).1) i 0)) 0))))), (70, .one (.ptr 126 k 0))], [(126, .flat (.ints .i64 z))]⟩ (by kernel_rfl) (by kernel_rfl) hT (by kernel_rfl) ⟨(by first | omega | (simp only [lens]; omega) | (simp only [Bool.cond_decide]; omega)), (by first | omega | (simp only [lens]; omega) | (simp only [Bool.cond_decide]; omega)), (by first | omega | (simp only [lens]; omega) | (simp only [Bool.cond_decide]; omega)), (by first | omega | (simp only [lens]; omega) | (simp only [Bool.cond_decide]; omega)), (by first | omega | (simp only [lens]; omega) | (simp only [Bool.cond_decide]; omega)), (by first | omega | (simp only [lens]; omega) | (simp only [Bool.cond_decide]; omega)), (by first | omega | (simp only [lens]; omega) | (simp only [Bool.cond_decide]; omega)), (by first | omega | (simp only [lens]; omega) | (simp only [Bool.cond_decide]; omega)), (by first | omega | (simp only [lens]; omega) | (simp only [Bool.cond_decide]; omega)), (by first | omega | (simp only [lens]; omega) | (simp only [Bool.cond_decide]; omega)), (by first | omega | (simp only [lens]; omega) | (simp only [Bool.cond_decide]; omega)), (by first | omega | (simp only [lens]; omega) | (simp only [Bool.cond_decide]; omega)), (by first | omega | (simp only [lens]; omega) | (simp only [Bool.cond_decide]; omega)), (by first | omega | (simp only [lens]; omega) | (simp only [Bool.cond_decide]; omega)), (by first | omega | (simp only [lens]; omega) | (simp only [Bool.cond_decide]; omega)), (by first | omega | (simp only [lens]; omega) | (simp only [Bool.cond_decide]; omega)), (by first | omega | (simp only [lens]; omega) | (simp only [Bool.cond_decide]; omega)), (by first | omega | (simp only [lens]; omega) | (simp only [Bool.cond_decide]; omega)), trivial⟩ ?_
          refine aops_run 1 [0, 5, 8, 9, 10, 28, 29, 31, 32, 33, 39, 40] [126] [(k < z.length)] ⟨105, [(0, .one (.rs (.rows t))), (5, .one (.ro (.ints .i64 ((bestOf t).1)))), (8, .one (.rw 126 0 t.length)), (9, .one (.int .i64 ((i : Nat) : Int))), (10, .one (.ro (.ints .i64 (List.getD t i [])))), (28, .one (.int .i64 ((t.length : Nat) : Int))), (29, .one (.int .i64 ((r : Nat) : Int))), (31, .one (.rs (.rows t))), (32, .one (.int .i64 ((t.length : Nat) : Int))), (33, .one (.int .i64 ((i : Nat) : Int))), (39, .one (.int .i64 (((List.length (List.getD t i [])) : Nat) : Int))), (40, .one (.int .i64 ((k : Nat) : Int)))], [(126, .flat (.ints .i64 (List.set z k (max (List.getD z k 0) (((List.getD z (Int.toNat (List.getD ((bestOf t).1) i 0)) 0) + (List.getD (List.getD t i []) k 0)) - (List.getD (List.getD t i []) (Int.toNat (List.getD ((bestOf t).1) i 0)) 0))))))]⟩ hT (by kernel_rfl) (by kernel_rfl) ⟨(by first | omega | (simp only [lens]; omega) | (simp only [Bool.cond_decide]; omega)), trivial⟩ ?_
          refine aops_end (by kernel_rfl) ?_
          refine awp_run [0, 5, 8, 9, 10, 28, 29, 31, 32, 33, 39, 40] [126] [(-9223372036854775808 ≤ (((k + 1) : Nat) : Int) ∧ (((k + 1) : Nat) : Int) ≤ 9223372036854775807)] ⟨105, [(0, .one (.rs (.rows t))), (5, .one (.ro (.ints .i64 ((bestOf t).1)))), (8, .one (.rw 126 0 t.length)), (9, .one (.int .i64 ((i : Nat) : Int))), (10, .one (.ro (.ints .i64 (List.getD t i [])))), (28, .one (.int .i64 ((t.length : Nat) : Int))), (29, .one (.int .i64 ((r : Nat) : Int))), (31, .one (.rs (.rows t))), (32, .one (.int .i64 ((t.length : Nat) : Int))), (33, .one (.int .i64 ((i : Nat) : Int))), (39, .one (.int .i64 (((List.length (List.getD t i [])) : Nat) : Int))), (40, .one (.int .i64 (((k + 1) : Nat) : Int)))], [(126, .flat (.ints .i64 (List.set z k (max (List.getD z k 0) (((List.getD z (Int.toNat (List.getD ((bestOf t).1) i 0)) 0) + (List.getD (List.getD t i []) k 0)) - (List.getD (List.getD t i []) (Int.toNat (List.getD ((bestOf t).1) i 0)) 0))))))]⟩ hT (by kernel_rfl) ⟨(by first | omega | (simp only [lens]; omega) | (simp only [Bool.cond_decide]; omega)), trivial⟩ ?_
          refine loop_end _ ?_ ⟨(k + 1), (List.set z k (max (List.getD z k 0) (((List.getD z (Int.toNat (List.getD ((bestOf t).1) i 0)) 0) + (List.getD (List.getD t i []) k 0)) - (List.getD (List.getD t i []) (Int.toNat (List.getD ((bestOf t).1) i 0)) 0)))), ⟨(by omega), (by exact hSn), rfl⟩, (by kernel_rfl)⟩
          omega
        · -- no 11
          try simp only [bs] at c11
          have hRn := hS.row (by omega)
          refine awp_exit ?_
          refine awp_run [0, 5, 8, 28, 29, 31, 32, 33] [126] [(-9223372036854775808 ≤ (((i + 1) : Nat) : Int) ∧ (((i + 1) : Nat) : Int) ≤ 9223372036854775807)] ⟨105, [(0, .one (.rs (.rows t))), (5, .one (.ro (.ints .i64 ((bestOf t).1)))), (8, .one (.rw 126 0 t.length)), (28, .one (.int .i64 ((t.length : Nat) : Int))), (29, .one (.int .i64 ((r : Nat) : Int))), (31, .one (.rs (.rows t))), (32, .one (.int .i64 ((t.length : Nat) : Int))), (33, .one (.int .i64 (((i + 1) : Nat) : Int)))], [(126, .flat (.ints .i64 z))]⟩ hT (by kernel_rfl) ⟨(by first | omega | (simp only [lens]; omega) | (simp only [Bool.cond_decide]; omega)), trivial⟩ ?_
          refine loop_end _ ?_ ⟨(i + 1), z, ⟨(by omega), (by exact hRn), rfl⟩, (by kernel_rfl)⟩
          omega
      · -- no 8
        try simp only [bs] at c8
        have hXn := hR.all hD hX (by omega)
        refine awp_exit ?_
        refine awp_run [0, 5, 8, 28, 29] [126] [(-9223372036854775808 ≤ (((r + 1) : Nat) : Int) ∧ (((r + 1) : Nat) : Int) ≤ 9223372036854775807)] ⟨105, [(0, .one (.rs (.rows t))), (5, .one (.ro (.ints .i64 ((bestOf t).1)))), (8, .one (.rw 126 0 t.length)), (28, .one (.int .i64 ((t.length : Nat) : Int))), (29, .one (.int .i64 (((r + 1) : Nat) : Int)))], [(126, .flat (.ints .i64 y))]⟩ hT (by kernel_rfl) ⟨(by first | omega | (simp only [lens]; omega) | (simp only [Bool.cond_decide]; omega)), trivial⟩ ?_
        refine loop_end _ ?_ ⟨(r + 1), y, ⟨(by omega), (by exact hXn), rfl⟩, (by kernel_rfl)⟩
        omega
    · -- no 6
      try simp only [bs] at c6
      have hIP := hX.price hD (by omega)
      refine awp_exit ?_
      refine awp_run_seq [0, 5, 8, 12] [126, 176] [((0 : Int) ≤ ((t.length : Nat) : Int)), (((t.length : Nat) : Int) ≤ ((t.length : Nat) : Int)), ((8 : Int) * ((t.length : Nat) : Int) ≤ 281474976710656), (((t.length : Nat) : Int) ≤ 9223372036854775807)] ⟨105, [(0, .one (.rs (.rows t))), (5, .one (.ro (.ints .i64 ((bestOf t).1)))), (8, .one (.rw 126 0 t.length)), (12, .one (.rw 176 0 t.length))], [(126, .flat (.ints .i64 x)), (176, .flat (.ints .i64 (List.replicate t.length (0 : Int))))]⟩ hT (by kernel_rfl) ⟨(by first | omega | (simp only [lens]; omega) | (simp only [Bool.cond_decide]; omega)), (by first | omega | (simp only [lens]; omega) | (simp only [Bool.cond_decide]; omega)), (by first | omega | (simp only [lens]; omega) | (simp only [Bool.cond_decide]; omega)), (by first | omega | (simp only [lens]; omega) | (simp only [Bool.cond_decide]; omega)), trivial⟩ ?_
      refine awp_seq ?_
      refine awp_run_seq [5, 8, 12, 77, 78, 79] [126, 176] [] ⟨105, [(5, .one (.ro (.ints .i64 ((bestOf t).1)))), (8, .one (.rw 126 0 t.length)), (12, .one (.rw 176 0 t.length)), (77, .one (.rs (.rows t))), (78, .one (.int .i64 ((t.length : Nat) : Int))), (79, .one (.int .i64 0))], [(126, .flat (.ints .i64 x)), (176, .flat (.ints .i64 (List.replicate t.length (0 : Int))))]⟩ hT (by kernel_rfl) trivial ?_
      refine awp_block ?_
      refine awp_loop (I := fun κ σ => ∃ (i : Nat) (q : List Int), ((i ≤ t.length) ∧ (q.length = t.length) ∧ (∀ j, j < i → q.getD j 0 = gn t j ((bestOf t).1.getD j 0).toNat - x.getD ((bestOf t).1.getD j 0).toNat 0) ∧ t.length - i = κ) ∧ σ = ⟨105, [(5, .one (.ro (.ints .i64 ((bestOf t).1)))), (8, .one (.rw 126 0 t.length)), (12, .one (.rw 176 0 t.length)), (77, .one (.rs (.rows t))), (78, .one (.int .i64 ((t.length : Nat) : Int))), (79, .one (.int .i64 ((i : Nat) : Int)))], [(126, .flat (.ints .i64 x)), (176, .flat (.ints .i64 q))]⟩) _ ⟨0, (List.replicate t.length 0), ⟨(by omega), (by simp), (by intro j hj; omega), rfl⟩, (by kernel_rfl)⟩ ?_
      rintro κ _ ⟨i, q, ⟨hi, hql, hqj, rfl⟩, rfl⟩
      refine awp_run_seq [5, 8, 12, 77, 78, 79, 80] [126, 176] [] ⟨105, [(5, .one (.ro (.ints .i64 ((bestOf t).1)))), (8, .one (.rw 126 0 t.length)), (12, .one (.rw 176 0 t.length)), (77, .one (.rs (.rows t))), (78, .one (.int .i64 ((t.length : Nat) : Int))), (79, .one (.int .i64 ((i : Nat) : Int))), (80, .one (.bool (decide (((i : Nat) : Int) < ((t.length : Nat) : Int)))))], [(126, .flat (.ints .i64 x)), (176, .flat (.ints .i64 q))]⟩ hT (by kernel_rfl) trivial ?_
      refine awp_seq ?_
      refine awp_cond (b := (decide (((i : Nat) : Int) < ((t.length : Nat) : Int)))) (by kernel_rfl) (fun c19 => ?_) (fun c19 => ?_)
      · -- yes 19
        try simp only [bs] at c19
        have hil : i < t.length := by omega
        have hpi := hF.at_ hil
        have hrl := hG.row i hil
        have hgp := hG.at_ i (Int.toNat (List.getD (bestOf t).1 i 0)) hil (by omega)
        unfold gn at hgp
        have hb1 := hIP.in_ (j := Int.toNat (List.getD (bestOf t).1 i 0)) (by omega)
        refine awp_skip ?_
        refine awp_seq ?_
        refine awp_block ?_
        refine awp_run_seq [5, 8, 12, 13, 14, 77, 78, 79] [126, 176] [((0 : Int) ≤ ((i : Nat) : Int)), (((i : Nat) : Int) < ((t.length : Nat) : Int))] ⟨105, [(5, .one (.ro (.ints .i64 ((bestOf t).1)))), (8, .one (.rw 126 0 t.length)), (12, .one (.rw 176 0 t.length)), (13, .one (.int .i64 ((i : Nat) : Int))), (14, .one (.ro (.ints .i64 (List.getD t i [])))), (77, .one (.rs (.rows t))), (78, .one (.int .i64 ((t.length : Nat) : Int))), (79, .one (.int .i64 ((i : Nat) : Int)))], [(126, .flat (.ints .i64 x)), (176, .flat (.ints .i64 q))]⟩ hT (by kernel_rfl) ⟨(by first | omega | (simp only [lens]; omega) | (simp only [Bool.cond_decide]; omega)), (by first | omega | (simp only [lens]; omega) | (simp only [Bool.cond_decide]; omega)), trivial⟩ ?_
        refine awp_tail 18 [5, 8, 12, 77, 78, 79, 100, 101] [126, 176] [((0 : Int) ≤ ((i : Nat) : Int)), (((i : Nat) : Int) < (((List.length ((bestOf t).1)) : Nat) : Int)), ((0 : Int) ≤ (List.getD ((bestOf t).1) i 0)), ((List.getD ((bestOf t).1) i 0) < (((List.length (List.getD t i [])) : Nat) : Int)), ((0 : Int) ≤ ((i : Nat) : Int)), (((i : Nat) : Int) < (((List.length ((bestOf t).1)) : Nat) : Int)), ((0 : Int) ≤ (List.getD ((bestOf t).1) i 0)), ((List.getD ((bestOf t).1) i 0) < ((t.length : Nat) : Int)), ((Int.toNat (List.getD ((bestOf t).1) i 0)) < x.length), (-9223372036854775808 ≤ ((List.getD (List.getD t i []) (Int.toNat (List.getD ((bestOf t).1) i 0)) 0) - (List.getD x (Int.toNat (List.getD ((bestOf t).1) i 0)) 0)) ∧ ((List.getD (List.getD t i []) (Int.toNat (List.getD ((bestOf t).1) i 0)) 0) - (List.getD x (Int.toNat (List.getD ((bestOf t).1) i 0)) 0)) ≤ 9223372036854775807), ((0 : Int) ≤ ((i : Nat) : Int)), (((i : Nat) : Int) < ((t.length : Nat) : Int))] ⟨105, [(5, .one (.ro (.ints .i64 ((bestOf t).1)))), (8, .one (.rw 126 0 t.length)), (12, .one (.rw 176 0 t.length)), (77, .one (.rs (.rows t))), (78, .one (.int .i64 ((t.length : Nat) : Int))), (79, .one (.int .i64 ((i : Nat) : Int))), (100, .one (.int .i64 ((List.getD (List.getD t i []) (Int.toNat (List.getD ((bestOf t).1) i 0)) 0) - (List.getD x (Int.toNat (List.getD ((bestOf t).1) i 0)) 0)))), (101, .one (.ptr 176 i 0))], [(126, .flat (.ints .i64 x)), (176, .flat (.ints .i64 q))]⟩ (by kernel_rfl) (by kernel_rfl) hT (by kernel_rfl) ⟨(by first | omega | (simp only [lens]; omega) | (simp only [Bool.cond_decide]; omega)), (by first | omega | (simp only [lens]; omega) | (simp only [Bool.cond_decide]; omega)), (by first | omega | (simp only [lens]; omega) | (simp only [Bool.cond_decide]; omega)), (by first | omega | (simp only [lens]; omega) | (simp only [Bool.cond_decide]; omega)), (by first | omega | (simp only [lens]; omega) | (simp only [Bool.cond_decide]; omega)), (by first | omega | (simp only [lens]; omega) | (simp only [Bool.cond_decide]; omega)), (by first | omega | (simp only [lens]; omega) | (simp only [Bool.cond_decide]; omega)), (by first | omega | (simp only [lens]; omega) | (simp only [Bool.cond_decide]; omega)), (by first | omega | (simp only [lens]; omega) | (simp only [Bool.cond_decide]; omega)), (by first | omega | (simp only [lens]; omega) | (simp only [Bool.cond_decide]; omega)), (by first | omega | (simp only [lens]; omega) | (simp only [Bool.cond_decide]; omega)), (by first | omega | (simp only [lens]; omega) | (simp only [Bool.cond_decide]; omega)), trivial⟩ ?_
        refine aops_run 1 [5, 8, 12, 77, 78, 79] [126, 176] [(i < q.length)] ⟨105, [(5, .one (.ro (.ints .i64 ((bestOf t).1)))), (8, .one (.rw 126 0 t.length)), (12, .one (.rw 176 0 t.length)), (77, .one (.rs (.rows t))), (78, .one (.int .i64 ((t.length : Nat) : Int))), (79, .one (.int .i64 ((i : Nat) : Int)))], [(126, .flat (.ints .i64 x)), (176, .flat (.ints .i64 (List.set q i ((List.getD (List.getD t i []) (Int.toNat (List.getD ((bestOf t).1) i 0)) 0) - (List.getD x (Int.toNat (List.getD ((bestOf t).1) i 0)) 0)))))]⟩ hT (by kernel_rfl) (by kernel_rfl) ⟨(by first | omega | (simp only [lens]; omega) | (simp only [Bool.cond_decide]; omega)), trivial⟩ ?_
        refine aops_end (by kernel_rfl) ?_
        refine awp_run [5, 8, 12, 77, 78, 79] [126, 176] [(-9223372036854775808 ≤ (((i + 1) : Nat) : Int) ∧ (((i + 1) : Nat) : Int) ≤ 9223372036854775807)] ⟨105, [(5, .one (.ro (.ints .i64 ((bestOf t).1)))), (8, .one (.rw 126 0 t.length)), (12, .one (.rw 176 0 t.length)), (77, .one (.rs (.rows t))), (78, .one (.int .i64 ((t.length : Nat) : Int))), (79, .one (.int .i64 (((i + 1) : Nat) : Int)))], [(126, .flat (.ints .i64 x)), (176, .flat (.ints .i64 (List.set q i ((List.getD (List.getD t i []) (Int.toNat (List.getD ((bestOf t).1) i 0)) 0) - (List.getD x (Int.toNat (List.getD ((bestOf t).1) i 0)) 0)))))]⟩ hT (by kernel_rfl) ⟨(by first | omega | (simp only [lens]; omega) | (simp only [Bool.cond_decide]; omega)), trivial⟩ ?_
        refine loop_end _ ?_ ⟨(i + 1), (List.set q i ((List.getD (List.getD t i []) (Int.toNat (List.getD ((bestOf t).1) i 0)) 0) - (List.getD x (Int.toNat (List.getD ((bestOf t).1) i 0)) 0))), ⟨(by omega), (by rw [List.length_set]; exact hql), (by intro j hj; rcases Nat.lt_succ_iff_lt_or_eq.1 hj with q1 | q1; rw [getD_set_ne _ _ _ _ _ (by omega)]; exact hqj j q1; subst q1; rw [getD_set_self _ _ _ _ (by omega)]; rfl), rfl⟩, (by kernel_rfl)⟩
        omega
      · -- no 19
        try simp only [bs] at c19
        have hrest := rest_is (p := (bestOf t).1) (x := x) hql (fun j hj => hqj j (by omega))
        refine awp_exit ?_
        refine awp_weak (awk_seal 126 (s' := ⟨105, [(5, .one (.ro (.ints .i64 ((bestOf t).1)))), (8, .one (.ro (.ints .i64 (List.take t.length x)))), (12, .one (.rw 176 0 t.length)), (77, .one (.rs (.rows t))), (78, .one (.int .i64 ((t.length : Nat) : Int))), (79, .one (.int .i64 ((i : Nat) : Int))), (80, .one (.bool (decide (((i : Nat) : Int) < ((t.length : Nat) : Int)))))], [(176, .flat (.ints .i64 q))]⟩) (by kernel_rfl)) ?_
        rw [show (List.take t.length x) = x from List.take_of_length_le (by first | omega | simp)]
        refine awp_weak (awk_seal 176 (s' := ⟨105, [(5, .one (.ro (.ints .i64 ((bestOf t).1)))), (8, .one (.ro (.ints .i64 x))), (12, .one (.ro (.ints .i64 (List.take t.length q)))), (77, .one (.rs (.rows t))), (78, .one (.int .i64 ((t.length : Nat) : Int))), (79, .one (.int .i64 ((i : Nat) : Int))), (80, .one (.bool (decide (((i : Nat) : Int) < ((t.length : Nat) : Int)))))], []⟩) (by kernel_rfl)) ?_
        rw [show (List.take t.length q) = q from List.take_of_length_le (by first | omega | simp)]
        refine awp_run_seq [2, 3, 4] [] [] ⟨105, [(2, .one (.ro (.ints .i64 q))), (3, .one (.ro (.ints .i64 x))), (4, .one (.int .i64 0))], []⟩ hT (by kernel_rfl) trivial ?_
        refine awp_ret ?_
        refine kRet.ret _ [] [] (.tup [(false, [(.ro (.ints .i64 q))]), (false, [(.ro (.ints .i64 x))]), (false, [(.int .i64 0)])]) [] (by kernel_rfl) trivial ?_
        exact ⟨x, (by exact .inr ⟨hE, hIP⟩), (by rw [okL_ok _ hE, hE, ← hrest]), (by kernel_rfl)⟩

end Go.Ab
