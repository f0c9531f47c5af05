/- Of assign: the best one, in the reference. -/
import Derived.Test.YtoghkabjfpolbaaTab
import Derived.Test.YtoghkabjfpolbaaOrd1
import Derived.Test.YtoghkabjfpolbaaPlAssign2
set_option maxRecDepth 100000
namespace Go.Ab
open Go Go.Proofs
theorem ref_bestOf (t : List (List Int)) (hG : Gains t) : ACall Try.prog 19 [.one (.rs (.rows t))] [] (fun ov oh => ov = .tup [(false, [(.ro (.ints .i64 ((bestOf t).1)))]), (false, [(.int .i64 ((bestOf t).2))])] ∧ oh = []) := by
  refine acall_intro hT Try.func19 rfl (by kernel_rfl) rfl (by kernel_rfl) ?_
  have h6 := hG.n6
  have hOl : (ordersOf t.length).length ≤ 6 ^ t.length := ordIter_len h6 t.length
  have hpw : 6 ^ t.length ≤ 6 ^ 6 := Nat.pow_le_pow_right (by omega) (by omega)
  refine awp_run_seq [0] [] [] ⟨44, [(0, .one (.rs (.rows t)))], []⟩ hT (by kernel_rfl) trivial ?_
  refine awp_run_seq [0, 4] [] [] ⟨44, [(0, .one (.rs (.rows t))), (4, .one .nils)], []⟩ hT (by kernel_rfl) trivial ?_
  refine awp_run_seq [0, 4, 5] [] [] ⟨44, [(0, .one (.rs (.rows t))), (4, .one .nils), (5, .one (.int .i64 (-1073741824)))], []⟩ hT (by kernel_rfl) trivial ?_
  refine awp_seq ?_
  refine awp_seq (awp_region ?_)
  refine aops_run 2 [0, 4, 5, 12] [] [] ⟨44, [(0, .one (.rs (.rows t))), (4, .one .nils), (5, .one (.int .i64 (-1073741824))), (12, .one (.int .i64 ((t.length : Nat) : Int)))], []⟩ hT (by kernel_rfl) (by kernel_rfl) trivial ?_
  refine aops_pure false ⟨true, [], 93, [.one (.int .i64 ((t.length : Nat) : Int))], []⟩ [.one (.int .i64 ((t.length : Nat) : Int))] (.one (.rs (.rows (ordersOf t.length)))) ⟨44, [(0, .one (.rs (.rows t))), (4, .one .nils), (5, .one (.int .i64 (-1073741824))), (12, .one (.int .i64 ((t.length : Nat) : Int))), (13, .one (.rs (.rows (ordersOf t.length))))], []⟩ (by kernel_rfl) (by kernel_rfl) (fun _ => trivial) rfl (fun _ => ref_orders t.length (by omega)) ?_
  refine aops_run 2 [0, 4, 5, 13, 14, 15] [] [] ⟨44, [(0, .one (.rs (.rows t))), (4, .one .nils), (5, .one (.int .i64 (-1073741824))), (13, .one (.rs (.rows (ordersOf t.length)))), (14, .one (.int .i64 (((List.length (ordersOf t.length)) : Nat) : Int))), (15, .one (.int .i64 0))], []⟩ hT (by kernel_rfl) (by kernel_rfl) trivial ?_
  refine aops_end_seq (by kernel_rfl) ?_
  refine awp_block ?_
  refine awp_weak (awk_slot 4 (.one .nils) (.one (.ro (.ints .i64 []))) _ (by kernel_rfl) (.one (wkv_nil0 rfl))) ?_
  refine awp_loop (I := fun κ σ => ∃ (j : Nat) (b : List Int) (s : Int), ((j ≤ (ordersOf t.length).length) ∧ (-1073741824 ≤ s ∧ s ≤ 6000) ∧ (bestFold t ((ordersOf t.length).drop j) (b, s) = bestOf t) ∧ (ordersOf t.length).length - j = κ) ∧ σ = ⟨44, [(0, .one (.rs (.rows t))), (4, .one (.ro (.ints .i64 b))), (5, .one (.int .i64 s)), (13, .one (.rs (.rows (ordersOf t.length)))), (14, .one (.int .i64 (((List.length (ordersOf t.length)) : Nat) : Int))), (15, .one (.int .i64 ((j : Nat) : Int)))], []⟩) _ ⟨0, [], (-1073741824), ⟨(by omega), (by omega), (by rfl), rfl⟩, (by kernel_rfl)⟩ ?_
  rintro κ _ ⟨j, b, s, ⟨hj, hs, hb, rfl⟩, rfl⟩
  refine awp_run_seq [0, 4, 5, 13, 14, 15, 16] [] [] ⟨44, [(0, .one (.rs (.rows t))), (4, .one (.ro (.ints .i64 b))), (5, .one (.int .i64 s)), (13, .one (.rs (.rows (ordersOf t.length)))), (14, .one (.int .i64 (((List.length (ordersOf t.length)) : Nat) : Int))), (15, .one (.int .i64 ((j : Nat) : Int))), (16, .one (.bool (decide (((j : Nat) : Int) < (((List.length (ordersOf t.length)) : Nat) : Int)))))], []⟩ hT (by kernel_rfl) trivial ?_
  refine awp_seq ?_
  refine awp_cond (b := (decide (((j : Nat) : Int) < (((List.length (ordersOf t.length)) : Nat) : Int)))) (by kernel_rfl) (fun c4 => ?_) (fun c4 => ?_)
  · -- yes 4
    try simp only [bs] at c4
    have hjl : j < (ordersOf t.length).length := by omega
    have hF := orders_mem.1 (getD_mem (d := ([] : List Int)) hjl)
    have hFl := hF.1
    have hdr := bestFold_drop (t := t) (c := (b, s)) hjl
    refine awp_skip ?_
    refine awp_seq ?_
    refine awp_block ?_
    refine awp_run_seq [0, 4, 5, 7, 13, 14, 15] [] [((0 : Int) ≤ ((j : Nat) : Int)), (((j : Nat) : Int) < (((List.length (ordersOf t.length)) : Nat) : Int))] ⟨44, [(0, .one (.rs (.rows t))), (4, .one (.ro (.ints .i64 b))), (5, .one (.int .i64 s)), (7, .one (.ro (.ints .i64 (List.getD (ordersOf t.length) j [])))), (13, .one (.rs (.rows (ordersOf t.length)))), (14, .one (.int .i64 (((List.length (ordersOf t.length)) : Nat) : Int))), (15, .one (.int .i64 ((j : Nat) : Int)))], []⟩ hT (by kernel_rfl) ⟨(by first | omega | (simp only [lens]; omega) | (simp only [Bool.cond_decide]; omega)), (by first | omega | (simp only [lens]; omega) | (simp only [Bool.cond_decide]; omega)), trivial⟩ ?_
    refine awp_run_seq [0, 4, 5, 7, 8, 13, 14, 15] [] [] ⟨44, [(0, .one (.rs (.rows t))), (4, .one (.ro (.ints .i64 b))), (5, .one (.int .i64 s)), (7, .one (.ro (.ints .i64 (List.getD (ordersOf t.length) j [])))), (8, .one (.int .i64 0)), (13, .one (.rs (.rows (ordersOf t.length)))), (14, .one (.int .i64 (((List.length (ordersOf t.length)) : Nat) : Int))), (15, .one (.int .i64 ((j : Nat) : Int)))], []⟩ hT (by kernel_rfl) trivial ?_
    refine awp_seq ?_
    refine awp_run_seq [0, 4, 5, 7, 8, 13, 14, 15, 19, 20, 21] [] [] ⟨44, [(0, .one (.rs (.rows t))), (4, .one (.ro (.ints .i64 b))), (5, .one (.int .i64 s)), (7, .one (.ro (.ints .i64 (List.getD (ordersOf t.length) j [])))), (8, .one (.int .i64 0)), (13, .one (.rs (.rows (ordersOf t.length)))), (14, .one (.int .i64 (((List.length (ordersOf t.length)) : Nat) : Int))), (15, .one (.int .i64 ((j : Nat) : Int))), (19, .one (.ro (.ints .i64 (List.getD (ordersOf t.length) j [])))), (20, .one (.int .i64 (((List.length (List.getD (ordersOf t.length) j [])) : Nat) : Int))), (21, .one (.int .i64 0))], []⟩ hT (by kernel_rfl) trivial ?_
    refine awp_block ?_
    refine awp_loop (I := fun κ σ => ∃ (i : Nat) (x : Int), ((i ≤ t.length) ∧ (x = sumOf t ((List.getD (ordersOf t.length) j []).take i)) ∧ t.length - i = κ) ∧ σ = ⟨44, [(0, .one (.rs (.rows t))), (4, .one (.ro (.ints .i64 b))), (5, .one (.int .i64 s)), (7, .one (.ro (.ints .i64 (List.getD (ordersOf t.length) j [])))), (8, .one (.int .i64 x)), (13, .one (.rs (.rows (ordersOf t.length)))), (14, .one (.int .i64 (((List.length (ordersOf t.length)) : Nat) : Int))), (15, .one (.int .i64 ((j : Nat) : Int))), (19, .one (.ro (.ints .i64 (List.getD (ordersOf t.length) j [])))), (20, .one (.int .i64 (((List.length (List.getD (ordersOf t.length) j [])) : Nat) : Int))), (21, .one (.int .i64 ((i : Nat) : Int)))], []⟩) _ ⟨0, 0, ⟨(by omega), (by rfl), rfl⟩, (by kernel_rfl)⟩ ?_
    rintro κ _ ⟨i, x, ⟨hi, hx, rfl⟩, rfl⟩
    refine awp_run_seq [0, 4, 5, 7, 8, 13, 14, 15, 19, 20, 21, 22] [] [] ⟨44, [(0, .one (.rs (.rows t))), (4, .one (.ro (.ints .i64 b))), (5, .one (.int .i64 s)), (7, .one (.ro (.ints .i64 (List.getD (ordersOf t.length) j [])))), (8, .one (.int .i64 x)), (13, .one (.rs (.rows (ordersOf t.length)))), (14, .one (.int .i64 (((List.length (ordersOf t.length)) : Nat) : Int))), (15, .one (.int .i64 ((j : Nat) : Int))), (19, .one (.ro (.ints .i64 (List.getD (ordersOf t.length) j [])))), (20, .one (.int .i64 (((List.length (List.getD (ordersOf t.length) j [])) : Nat) : Int))), (21, .one (.int .i64 ((i : Nat) : Int))), (22, .one (.bool (decide (((i : Nat) : Int) < (((List.length (List.getD (ordersOf t.length) j [])) : Nat) : Int)))))], []⟩ hT (by kernel_rfl) trivial ?_
    refine awp_seq ?_
    refine awp_cond (b := (decide (((i : Nat) : Int) < (((List.length (List.getD (ordersOf t.length) j [])) : Nat) : Int)))) (by kernel_rfl) (fun c8 => ?_) (fun c8 => ?_)
    · -- yes 8
      try simp only [bs] at c8
      have hil : i < t.length := by omega
      have hpi := hF.at_ hil
      have hrl := hG.row i hil
      have hgp := hG.at_ i (Int.toNat (List.getD (List.getD (ordersOf t.length) j []) i 0)) hil (by omega)
      unfold gn at hgp
      have hxb := sum_take hG hF (i := i) (by omega)
      have hst := sumOf_step (t := t) (p := (List.getD (ordersOf t.length) j [])) (i := i) (by omega)
      unfold gn at hst
      refine awp_skip ?_
      refine awp_seq ?_
      refine awp_block ?_
      refine awp_run_seq [0, 4, 5, 7, 8, 9, 10, 13, 14, 15, 19, 20, 21] [] [((0 : Int) ≤ ((i : Nat) : Int)), (((i : Nat) : Int) < (((List.length (List.getD (ordersOf t.length) j [])) : Nat) : Int))] ⟨44, [(0, .one (.rs (.rows t))), (4, .one (.ro (.ints .i64 b))), (5, .one (.int .i64 s)), (7, .one (.ro (.ints .i64 (List.getD (ordersOf t.length) j [])))), (8, .one (.int .i64 x)), (9, .one (.int .i64 ((i : Nat) : Int))), (10, .one (.int .i64 (List.getD (List.getD (ordersOf t.length) j []) i 0))), (13, .one (.rs (.rows (ordersOf t.length)))), (14, .one (.int .i64 (((List.length (ordersOf t.length)) : Nat) : Int))), (15, .one (.int .i64 ((j : Nat) : Int))), (19, .one (.ro (.ints .i64 (List.getD (ordersOf t.length) j [])))), (20, .one (.int .i64 (((List.length (List.getD (ordersOf t.length) j [])) : Nat) : Int))), (21, .one (.int .i64 ((i : Nat) : Int)))], []⟩ hT (by kernel_rfl) ⟨(by first | omega | (simp only [lens]; omega) | (simp only [Bool.cond_decide]; omega)), (by first | omega | (simp only [lens]; omega) | (simp only [Bool.cond_decide]; omega)), trivial⟩ ?_
      refine awp_run [0, 4, 5, 7, 8, 13, 14, 15, 19, 20, 21] [] [((0 : Int) ≤ ((i : Nat) : Int)), (((i : Nat) : Int) < ((t.length : Nat) : Int)), ((0 : Int) ≤ (List.getD (List.getD (ordersOf t.length) j []) i 0)), ((List.getD (List.getD (ordersOf t.length) j []) i 0) < (((List.length (List.getD t i [])) : Nat) : Int)), (-9223372036854775808 ≤ (x + (List.getD (List.getD t i []) (Int.toNat (List.getD (List.getD (ordersOf t.length) j []) i 0)) 0)) ∧ (x + (List.getD (List.getD t i []) (Int.toNat (List.getD (List.getD (ordersOf t.length) j []) i 0)) 0)) ≤ 9223372036854775807)] ⟨44, [(0, .one (.rs (.rows t))), (4, .one (.ro (.ints .i64 b))), (5, .one (.int .i64 s)), (7, .one (.ro (.ints .i64 (List.getD (ordersOf t.length) j [])))), (8, .one (.int .i64 (x + (List.getD (List.getD t i []) (Int.toNat (List.getD (List.getD (ordersOf t.length) j []) i 0)) 0)))), (13, .one (.rs (.rows (ordersOf t.length)))), (14, .one (.int .i64 (((List.length (ordersOf t.length)) : Nat) : Int))), (15, .one (.int .i64 ((j : Nat) : Int))), (19, .one (.ro (.ints .i64 (List.getD (ordersOf t.length) j [])))), (20, .one (.int .i64 (((List.length (List.getD (ordersOf t.length) j [])) : Nat) : Int))), (21, .one (.int .i64 ((i : Nat) : Int)))], []⟩ hT (by kernel_rfl) ⟨(by first | omega | (simp only [lens]; omega) | (simp only [Bool.cond_decide]; omega)), (by first | omega | (simp only [lens]; omega) | (simp only [Bool.cond_decide]; omega)), (by first | omega | (simp only [lens]; omega) | (simp only [Bool.cond_decide]; omega)), (by first | omega | (simp only [lens]; omega) | (simp only [Bool.cond_decide]; omega)), (by first | omega | (simp only [lens]; omega) | (simp only [Bool.cond_decide]; omega)), trivial⟩ ?_
      refine awp_run [0, 4, 5, 7, 8, 13, 14, 15, 19, 20, 21] [] [(-9223372036854775808 ≤ (((i + 1) : Nat) : Int) ∧ (((i + 1) : Nat) : Int) ≤ 9223372036854775807)] ⟨44, [(0, .one (.rs (.rows t))), (4, .one (.ro (.ints .i64 b))), (5, .one (.int .i64 s)), (7, .one (.ro (.ints .i64 (List.getD (ordersOf t.length) j [])))), (8, .one (.int .i64 (x + (List.getD (List.getD t i []) (Int.toNat (List.getD (List.getD (ordersOf t.length) j []) i 0)) 0)))), (13, .one (.rs (.rows (ordersOf t.length)))), (14, .one (.int .i64 (((List.length (ordersOf t.length)) : Nat) : Int))), (15, .one (.int .i64 ((j : Nat) : Int))), (19, .one (.ro (.ints .i64 (List.getD (ordersOf t.length) j [])))), (20, .one (.int .i64 (((List.length (List.getD (ordersOf t.length) j [])) : Nat) : Int))), (21, .one (.int .i64 (((i + 1) : Nat) : Int)))], []⟩ hT (by kernel_rfl) ⟨(by first | omega | (simp only [lens]; omega) | (simp only [Bool.cond_decide]; omega)), trivial⟩ ?_
      refine loop_end _ ?_ ⟨(i + 1), (x + (List.getD (List.getD t i []) (Int.toNat (List.getD (List.getD (ordersOf t.length) j []) i 0)) 0)), ⟨(by omega), (by rw [hst, hx]), rfl⟩, (by kernel_rfl)⟩
      omega
    · -- no 8
      try simp only [bs] at c8
      have hxe : x = sumOf t (List.getD (ordersOf t.length) j []) := by rw [hx, List.take_of_length_le (by omega)]
      have hxb := sum_take hG hF (i := t.length) (by omega)
      rw [List.take_of_length_le (by omega)] at hxb
      refine awp_exit ?_
      refine awp_run_seq [0, 4, 5, 7, 8, 13, 14, 15, 38] [] [] ⟨44, [(0, .one (.rs (.rows t))), (4, .one (.ro (.ints .i64 b))), (5, .one (.int .i64 s)), (7, .one (.ro (.ints .i64 (List.getD (ordersOf t.length) j [])))), (8, .one (.int .i64 x)), (13, .one (.rs (.rows (ordersOf t.length)))), (14, .one (.int .i64 (((List.length (ordersOf t.length)) : Nat) : Int))), (15, .one (.int .i64 ((j : Nat) : Int))), (38, .one (.bool (decide (s < x))))], []⟩ hT (by kernel_rfl) trivial ?_
      refine awp_cond (b := (decide (s < x))) (by kernel_rfl) (fun c12 => ?_) (fun c12 => ?_)
      · -- yes 12
        try simp only [bs] at c12
        have hbn : bestFold t ((ordersOf t.length).drop (j + 1)) ((List.getD (ordersOf t.length) j []), x) = bestOf t := by rw [← hb, hdr, if_pos (by omega), hxe]
        refine awp_run [0, 4, 5, 13, 14, 15] [] [] ⟨44, [(0, .one (.rs (.rows t))), (4, .one (.ro (.ints .i64 (List.getD (ordersOf t.length) j [])))), (5, .one (.int .i64 x)), (13, .one (.rs (.rows (ordersOf t.length)))), (14, .one (.int .i64 (((List.length (ordersOf t.length)) : Nat) : Int))), (15, .one (.int .i64 ((j : Nat) : Int)))], []⟩ hT (by kernel_rfl) trivial ?_
        refine awp_run [0, 4, 5, 13, 14, 15] [] [(-9223372036854775808 ≤ (((j + 1) : Nat) : Int) ∧ (((j + 1) : Nat) : Int) ≤ 9223372036854775807)] ⟨44, [(0, .one (.rs (.rows t))), (4, .one (.ro (.ints .i64 (List.getD (ordersOf t.length) j [])))), (5, .one (.int .i64 x)), (13, .one (.rs (.rows (ordersOf t.length)))), (14, .one (.int .i64 (((List.length (ordersOf t.length)) : Nat) : Int))), (15, .one (.int .i64 (((j + 1) : Nat) : Int)))], []⟩ hT (by kernel_rfl) ⟨(by first | omega | (simp only [lens]; omega) | (simp only [Bool.cond_decide]; omega)), trivial⟩ ?_
        refine loop_end _ ?_ ⟨(j + 1), (List.getD (ordersOf t.length) j []), x, ⟨(by omega), (by omega), (by exact hbn), rfl⟩, (by kernel_rfl)⟩
        omega
      · -- no 12
        try simp only [bs] at c12
        have hbn : bestFold t ((ordersOf t.length).drop (j + 1)) (b, s) = bestOf t := by rw [← hb, hdr, if_neg (by omega)]
        refine awp_skip ?_
        refine awp_run [0, 4, 5, 13, 14, 15] [] [(-9223372036854775808 ≤ (((j + 1) : Nat) : Int) ∧ (((j + 1) : Nat) : Int) ≤ 9223372036854775807)] ⟨44, [(0, .one (.rs (.rows t))), (4, .one (.ro (.ints .i64 b))), (5, .one (.int .i64 s)), (13, .one (.rs (.rows (ordersOf t.length)))), (14, .one (.int .i64 (((List.length (ordersOf t.length)) : Nat) : Int))), (15, .one (.int .i64 (((j + 1) : Nat) : Int)))], []⟩ hT (by kernel_rfl) ⟨(by first | omega | (simp only [lens]; omega) | (simp only [Bool.cond_decide]; omega)), trivial⟩ ?_
        refine loop_end _ ?_ ⟨(j + 1), b, s, ⟨(by omega), (by omega), (by exact hbn), rfl⟩, (by kernel_rfl)⟩
        omega
  · -- no 4
    try simp only [bs] at c4
    have hfin : (b, s) = bestOf t := by rw [← hb, bestFold_end (by omega)]
    refine awp_exit ?_
    refine awp_run_seq [2, 3] [] [] ⟨44, [(2, .one (.ro (.ints .i64 b))), (3, .one (.int .i64 s))], []⟩ hT (by kernel_rfl) trivial ?_
    refine awp_ret ?_
    refine kRet.ret _ [] [] (.tup [(false, [(.ro (.ints .i64 b))]), (false, [(.int .i64 s)])]) [] (by kernel_rfl) trivial ?_
    exact ⟨by first | rw [show (bestOf t).1 = b from Eq.symm (by first | exact (congrArg Prod.fst hfin) | exact (congrArg Prod.snd hfin)), show (bestOf t).2 = s from Eq.symm (by first | exact (congrArg Prod.fst hfin) | exact (congrArg Prod.snd hfin))] | rw [show (bestOf t).1 = b from Eq.symm (by first | exact (congrArg Prod.fst hfin) | exact (congrArg Prod.snd hfin))] | rw [show (bestOf t).2 = s from Eq.symm (by first | exact (congrArg Prod.fst hfin) | exact (congrArg Prod.snd hfin))], rfl⟩

end Go.Ab
