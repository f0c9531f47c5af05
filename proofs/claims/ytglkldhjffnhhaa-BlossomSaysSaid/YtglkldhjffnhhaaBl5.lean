/- Of pairs of any: Bar. -/
import Derived.Test.YtglkldhjffnhhaaTab
import Derived.Test.YtglkldhjffnhhaaBl3
import Derived.Test.YtglkldhjffnhhaaBl4
import Derived.Test.YtglkldhjffnhhaaPlMate7
set_option maxRecDepth 100000
namespace Go.Ab
open Go Go.Proofs
theorem bl_Bar (n : Int) (es : List Arc) : ACall Try.prog 31 [.agg [(.int .i64 n), (.ro (.arcs es))]] [] (fun ov oh => ov = .tup [(false, [(.int .u16 (barV n es))]), (false, [(.int .i64 (poolErr n es))])] ∧ oh = []) := by
  refine acall_intro hT Try.func31 rfl (by kernel_rfl) rfl (by kernel_rfl) ?_
  refine awp_run_seq [1] [101] [] ⟨41, [(1, .one (.ptr 101 0 0))], [(101, .box 1 2 [(.int .i64 n), (.ro (.arcs es))])]⟩ hT (by kernel_rfl) trivial ?_
  refine awp_seq ?_
  refine awp_seq (awp_region ?_)
  refine aops_run 1 [1, 7] [101] [(0 < 1)] ⟨41, [(1, .one (.ptr 101 0 0)), (7, .agg [(.int .i64 n), (.ro (.arcs es))])], [(101, .box 1 2 [(.int .i64 n), (.ro (.arcs es))])]⟩ hT (by kernel_rfl) (by kernel_rfl) ⟨(by decide), trivial⟩ ?_
  refine aops_pure false ⟨true, [], 33, [.agg [(.int .i64 n), (.ro (.arcs es))]], []⟩ [.agg [(.int .i64 n), (.ro (.arcs es))]] (.one (.int .i64 (poolErr n es))) ⟨41, [(1, .one (.ptr 101 0 0)), (7, .agg [(.int .i64 n), (.ro (.arcs es))]), (8, .one (.int .i64 (poolErr n es)))], [(101, .box 1 2 [(.int .i64 n), (.ro (.arcs es))])]⟩ (by kernel_rfl) (by kernel_rfl) (fun _ => trivial) rfl (fun _ => bl_check n es) ?_
  refine aops_run 1 [1, 4] [101] [] ⟨41, [(1, .one (.ptr 101 0 0)), (4, .one (.int .i64 (poolErr n es)))], [(101, .box 1 2 [(.int .i64 n), (.ro (.arcs es))])]⟩ hT (by kernel_rfl) (by kernel_rfl) trivial ?_
  refine aops_end_seq (by kernel_rfl) ?_
  refine awp_run_seq [1, 4, 10] [101] [] ⟨41, [(1, .one (.ptr 101 0 0)), (4, .one (.int .i64 (poolErr n es))), (10, .one (.bool (decide ((poolErr n es) ≠ 0))))], [(101, .box 1 2 [(.int .i64 n), (.ro (.arcs es))])]⟩ hT (by kernel_rfl) trivial ?_
  refine awp_cond (b := (decide ((poolErr n es) ≠ 0))) (by kernel_rfl) (fun c2 => ?_) (fun c2 => ?_)
  · -- yes 2
    try simp only [bs] at c2
    have hV : barV n es = 0 := if_neg (by omega)
    refine awp_run_seq [2, 3] [] [] ⟨41, [(2, .one (.int .u16 0)), (3, .one (.int .i64 (poolErr n es)))], []⟩ hT (by kernel_rfl) trivial ?_
    refine awp_ret ?_
    refine kRet.ret _ [] [] (.tup [(false, [(.int .u16 0)]), (false, [(.int .i64 (poolErr n es))])]) [] (by kernel_rfl) trivial ?_
    exact ⟨congrArg (fun x1 => (.tup [(false, [(.int .u16 x1)]), (false, [(.int .i64 (poolErr n es))])] : AV)) (show 0 = (barV n es) from by exact hV.symm), rfl⟩
  · -- no 2
    try simp only [bs] at c2
    have hE : (poolErr n es) = 0 := by omega
    obtain ⟨hG, h9⟩ := pool_ok hE
    have h1 := hG.n1
    have hA := hG.inR
    have hle := hG.len
    have h512 := pow512 (n := n) (by omega) (by omega)
    have h12 : n ≤ 12 := by omega
    have hml := mostL_len n es
    obtain ⟨xs, hxs, hxs2⟩ := xZ_ex hA (by omega) h9
    have hfl := mostL_atZ (n := n) (es := es) (z := (1 : Int) * 2 ^ n.toNat - 1) (by omega) (by omega)
    rw [← nuF_full] at hfl
    have hnf := nuF_in (n := n) (es := es) 0 (by omega)
    refine awp_skip ?_
    refine awp_seq (awp_region ?_)
    refine aops_run 1 [1, 12] [101] [(0 < 1)] ⟨41, [(1, .one (.ptr 101 0 0)), (12, .agg [(.int .i64 n), (.ro (.arcs es))])], [(101, .box 1 2 [(.int .i64 n), (.ro (.arcs es))])]⟩ hT (by kernel_rfl) (by kernel_rfl) ⟨(by decide), trivial⟩ ?_
    refine aops_pure false ⟨true, [], 99, [.agg [(.int .i64 n), (.ro (.arcs es))]], []⟩ [.agg [(.int .i64 n), (.ro (.arcs es))]] (.one (.ro (.ints .i64 (mostL n es)))) ⟨41, [(1, .one (.ptr 101 0 0)), (12, .agg [(.int .i64 n), (.ro (.arcs es))]), (13, .one (.ro (.ints .i64 (mostL n es))))], [(101, .box 1 2 [(.int .i64 n), (.ro (.arcs es))])]⟩ (by kernel_rfl) (by kernel_rfl) (fun _ => trivial) rfl (fun _ => bl_most n es hE) ?_
    refine aops_run 1 [1, 5] [101] [] ⟨41, [(1, .one (.ptr 101 0 0)), (5, .one (.ro (.ints .i64 (mostL n es))))], [(101, .box 1 2 [(.int .i64 n), (.ro (.arcs es))])]⟩ hT (by kernel_rfl) (by kernel_rfl) trivial ?_
    refine aops_end_seq (by kernel_rfl) ?_
    refine awp_seq ?_
    refine awp_run_seq [1, 5, 16, 17] [101] [(0 < 1), ((0 : Int) ≤ n), (n ≤ 64), (-9223372036854775808 ≤ ((1 : Int) * 2 ^ (Int.toNat n)) ∧ ((1 : Int) * 2 ^ (Int.toNat n)) ≤ 9223372036854775807)] ⟨41, [(1, .one (.ptr 101 0 0)), (5, .one (.ro (.ints .i64 (mostL n es)))), (16, .one (.int .i64 ((1 : Int) * 2 ^ (Int.toNat n)))), (17, .one (.int .i64 0))], [(101, .box 1 2 [(.int .i64 n), (.ro (.arcs es))])]⟩ hT (by kernel_rfl) ⟨(by decide), (by first | omega | (simp only [lens]; omega) | (simp only [lens]; done) | (simp only [nadd_eq]; omega) | (simp; done)), (by first | omega | (simp only [lens]; omega) | (simp only [lens]; done) | (simp only [nadd_eq]; omega) | (simp; done)), (by first | omega | (simp only [lens]; omega) | (simp only [lens]; done) | (simp only [nadd_eq]; omega) | (simp; done)), trivial⟩ ?_
    refine awp_block ?_
    refine awp_loop (I := fun κ σ => ∃ (s : Nat), ((s ≤ 2 ^ n.toNat) ∧ (∀ j : Nat, j < s → 2 * nuF n es 0 ≠ xZ n es (j : Int)) ∧ 2 ^ n.toNat - s = κ) ∧ σ = ⟨41, [(1, .one (.ptr 101 0 0)), (5, .one (.ro (.ints .i64 (mostL n es)))), (16, .one (.int .i64 ((1 : Int) * 2 ^ (Int.toNat n)))), (17, .one (.int .i64 ((s : Nat) : Int)))], [(101, .box 1 2 [(.int .i64 n), (.ro (.arcs es))])]⟩) _ ⟨0, ⟨(by omega), (by intro j hj; omega), rfl⟩, (by kernel_rfl)⟩ ?_
    rintro κ _ ⟨s, ⟨hs, hno, rfl⟩, rfl⟩
    refine awp_run_seq [1, 5, 16, 17, 18] [101] [] ⟨41, [(1, .one (.ptr 101 0 0)), (5, .one (.ro (.ints .i64 (mostL n es)))), (16, .one (.int .i64 ((1 : Int) * 2 ^ (Int.toNat n)))), (17, .one (.int .i64 ((s : Nat) : Int))), (18, .one (.bool (decide (((s : Nat) : Int) < ((1 : Int) * 2 ^ (Int.toNat n))))))], [(101, .box 1 2 [(.int .i64 n), (.ro (.arcs es))])]⟩ hT (by kernel_rfl) trivial ?_
    refine awp_seq ?_
    refine awp_cond (b := (decide (((s : Nat) : Int) < ((1 : Int) * 2 ^ (Int.toNat n))))) (by kernel_rfl) (fun c6 => ?_) (fun c6 => ?_)
    · -- yes 6
      try simp only [bs] at c6
      have hs2 : s < 2 ^ n.toNat := by omega
      have hmn := many_le9 ((s : Nat) : Int)
      have hod := oddZ_le n es ((s : Nat) : Int)
      have hx : xZ n es ((s : Nat) : Int) = n + ((many ((s : Nat) : Int) 9 : Nat) : Int) - ((oddZ n es ((s : Nat) : Int) : Nat) : Int) := rfl
      refine awp_skip ?_
      refine awp_seq ?_
      refine awp_block ?_
      refine awp_run_seq [1, 5, 6, 16, 17] [101] [] ⟨41, [(1, .one (.ptr 101 0 0)), (5, .one (.ro (.ints .i64 (mostL n es)))), (6, .one (.int .i64 ((s : Nat) : Int))), (16, .one (.int .i64 ((1 : Int) * 2 ^ (Int.toNat n)))), (17, .one (.int .i64 ((s : Nat) : Int)))], [(101, .box 1 2 [(.int .i64 n), (.ro (.arcs es))])]⟩ hT (by kernel_rfl) trivial ?_
      -- 18 of 18 operations in any order; 1 orders of the rest
      refine awp_seq (awp_calm2 [(11, ⟨[.one (.int .i64 ((s : Nat) : Int))], .one (.int .i64 (((many ((s : Nat) : Int) 9) : Nat) : Int)), [], []⟩), (15, ⟨[.agg [(.int .i64 n), (.ro (.arcs es))], .one (.int .i64 ((s : Nat) : Int))], .one (.int .i64 (((oddZ n es ((s : Nat) : Int)) : Nat) : Int)), [], []⟩)] false [[], [], [1], [1, 2], [1, 2, 3], [0, 1, 2, 3, 4], [0, 1, 2, 3, 4, 5], [0, 1, 2, 3, 4, 5, 6], [], [8], [], [10], [8, 9, 10, 11], [], [], [10, 11, 13, 14], [8, 9, 10, 11, 12, 13, 14, 15], [0, 1, 2, 3, 4, 5, 6, 7, 8, 9, 10, 11, 12, 13, 14, 15, 16]] 18 [1, 5, 6, 16, 17, 37] [101] [(0, []), (1, []), (2, [(0 < 1)]), (3, [((0 : Int) ≤ n), (n ≤ 64), (-9223372036854775808 ≤ ((1 : Int) * 2 ^ (Int.toNat n)) ∧ ((1 : Int) * 2 ^ (Int.toNat n)) ≤ 9223372036854775807)]), (4, [(-9223372036854775808 ≤ (((1 : Int) * 2 ^ (Int.toNat n)) - 1) ∧ (((1 : Int) * 2 ^ (Int.toNat n)) - 1) ≤ 9223372036854775807)]), (5, [((0 : Int) ≤ (((1 : Int) * 2 ^ (Int.toNat n)) - 1)), ((((1 : Int) * 2 ^ (Int.toNat n)) - 1) < (((List.length (mostL n es)) : Nat) : Int))]), (6, []), (7, [(-9223372036854775808 ≤ (2 * (List.getD (mostL n es) (Int.toNat (((1 : Int) * 2 ^ (Int.toNat n)) - 1)) 0)) ∧ (2 * (List.getD (mostL n es) (Int.toNat (((1 : Int) * 2 ^ (Int.toNat n)) - 1)) 0)) ≤ 9223372036854775807)]), (8, []), (9, [(0 < 1)]), (10, []), (11, [(true = true → (AllP [] ∧ [.one (.int .i64 ((s : Nat) : Int))] = ([.one (.int .i64 ((s : Nat) : Int))] : List AV) ∧ ACall Try.prog 100 [.one (.int .i64 ((s : Nat) : Int))] [] (fun ov oh => ov = .one (.int .i64 (((many ((s : Nat) : Int) 9) : Nat) : Int)) ∧ oh = [])))]), (12, [(-9223372036854775808 ≤ (n + (((many ((s : Nat) : Int) 9) : Nat) : Int)) ∧ (n + (((many ((s : Nat) : Int) 9) : Nat) : Int)) ≤ 9223372036854775807)]), (13, [(0 < 1)]), (14, []), (15, [(true = true → (AllP [] ∧ [.agg [(.int .i64 n), (.ro (.arcs es))], .one (.int .i64 ((s : Nat) : Int))] = ([.agg [(.int .i64 n), (.ro (.arcs es))], .one (.int .i64 ((s : Nat) : Int))] : List AV) ∧ ACall Try.prog 101 [.agg [(.int .i64 n), (.ro (.arcs es))], .one (.int .i64 ((s : Nat) : Int))] [] (fun ov oh => ov = .one (.int .i64 (((oddZ n es ((s : Nat) : Int)) : Nat) : Int)) ∧ oh = [])))]), (16, [(-9223372036854775808 ≤ ((n + (((many ((s : Nat) : Int) 9) : Nat) : Int)) - (((oddZ n es ((s : Nat) : Int)) : Nat) : Int)) ∧ ((n + (((many ((s : Nat) : Int) 9) : Nat) : Int)) - (((oddZ n es ((s : Nat) : Int)) : Nat) : Int)) ≤ 9223372036854775807)]), (17, [])] [] 1 ⟨41, [(1, .one (.ptr 101 0 0)), (5, .one (.ro (.ints .i64 (mostL n es)))), (6, .one (.int .i64 ((s : Nat) : Int))), (16, .one (.int .i64 ((1 : Int) * 2 ^ (Int.toNat n)))), (17, .one (.int .i64 ((s : Nat) : Int))), (37, .one (.bool (decide ((2 * (List.getD (mostL n es) (Int.toNat (((1 : Int) * 2 ^ (Int.toNat n)) - 1)) 0)) = ((n + (((many ((s : Nat) : Int) 9) : Nat) : Int)) - (((oddZ n es ((s : Nat) : Int)) : Nat) : Int))))))], [(101, .box 1 2 [(.int .i64 n), (.ro (.arcs es))])]⟩ (by kernel_rfl) (by kernel_rfl) hT (by kernel_rfl) (by kernel_rfl) ⟨trivial, trivial, ⟨(by decide), trivial⟩, ⟨(by first | omega | (simp only [lens]; omega) | (simp only [lens]; done) | (simp only [nadd_eq]; omega) | (simp; done)), (by first | omega | (simp only [lens]; omega) | (simp only [lens]; done) | (simp only [nadd_eq]; omega) | (simp; done)), (by first | omega | (simp only [lens]; omega) | (simp only [lens]; done) | (simp only [nadd_eq]; omega) | (simp; done)), trivial⟩, ⟨(by first | omega | (simp only [lens]; omega) | (simp only [lens]; done) | (simp only [nadd_eq]; omega) | (simp; done)), trivial⟩, ⟨(by first | omega | (simp only [lens]; omega) | (simp only [lens]; done) | (simp only [nadd_eq]; omega) | (simp; done)), (by first | omega | (simp only [lens]; omega) | (simp only [lens]; done) | (simp only [nadd_eq]; omega) | (simp; done)), trivial⟩, trivial, ⟨(by first | omega | (simp only [lens]; omega) | (simp only [lens]; done) | (simp only [nadd_eq]; omega) | (simp; done)), trivial⟩, trivial, ⟨(by decide), trivial⟩, trivial, ⟨(fun _ => ⟨trivial, rfl, bl_ones ((s : Nat) : Int) (by omega) (by omega)⟩), trivial⟩, ⟨(by first | omega | (simp only [lens]; omega) | (simp only [lens]; done) | (simp only [nadd_eq]; omega) | (simp; done)), trivial⟩, ⟨(by decide), trivial⟩, trivial, ⟨(fun _ => ⟨trivial, rfl, bl_odd n es ((s : Nat) : Int) hE (by omega) (by omega)⟩), trivial⟩, ⟨(by first | omega | (simp only [lens]; omega) | (simp only [lens]; done) | (simp only [nadd_eq]; omega) | (simp; done)), trivial⟩, trivial, trivial⟩ trivial ?_)
      refine awp_cond (b := (decide ((2 * (List.getD (mostL n es) (Int.toNat (((1 : Int) * 2 ^ (Int.toNat n)) - 1)) 0)) = ((n + (((many ((s : Nat) : Int) 9) : Nat) : Int)) - (((oddZ n es ((s : Nat) : Int)) : Nat) : Int))))) (by kernel_rfl) (fun c8 => ?_) (fun c8 => ?_)
      · -- yes 8
        try simp only [bs] at c8
        have hba := bar_at hs2 hno (by rw [hx]; omega)
        have hV : barV n es = barOf n es := if_pos hE
        refine awp_run_seq [2, 3] [] [(0 ≤ ((s : Nat) : Int) ∧ ((s : Nat) : Int) ≤ 65535)] ⟨41, [(2, .one (.int .u16 ((s : Nat) : Int))), (3, .one (.int .i64 0))], []⟩ hT (by kernel_rfl) ⟨(by first | omega | (simp only [lens]; omega) | (simp only [lens]; done) | (simp only [nadd_eq]; omega) | (simp; done)), trivial⟩ ?_
        refine awp_ret ?_
        refine kRet.ret _ [] [] (.tup [(false, [(.int .u16 ((s : Nat) : Int))]), (false, [(.int .i64 0)])]) [] (by kernel_rfl) trivial ?_
        exact ⟨by first | rw [show (barV n es) = ((s : Nat) : Int) from Eq.symm (by rw [hV, hba]), show (poolErr n es) = 0 from Eq.symm (by exact hE.symm)] | rw [show (barV n es) = ((s : Nat) : Int) from Eq.symm (by rw [hV, hba])] | rw [show (poolErr n es) = 0 from Eq.symm (by exact hE.symm)], rfl⟩
      · -- no 8
        try simp only [bs] at c8
        have hnx : 2 * nuF n es 0 ≠ xZ n es ((s : Nat) : Int) := by rw [hx]; omega
        refine awp_skip ?_
        refine awp_run [1, 5, 16, 17] [101] [(-9223372036854775808 ≤ (((s + 1) : Nat) : Int) ∧ (((s + 1) : Nat) : Int) ≤ 9223372036854775807)] ⟨41, [(1, .one (.ptr 101 0 0)), (5, .one (.ro (.ints .i64 (mostL n es)))), (16, .one (.int .i64 ((1 : Int) * 2 ^ (Int.toNat n)))), (17, .one (.int .i64 (((s + 1) : Nat) : Int)))], [(101, .box 1 2 [(.int .i64 n), (.ro (.arcs es))])]⟩ hT (by kernel_rfl) ⟨(by first | omega | (simp only [lens]; omega) | (simp only [lens]; done) | (simp only [nadd_eq]; omega) | (simp; done)), trivial⟩ ?_
        refine loop_end _ ?_ ⟨(s + 1), ⟨(by omega), (by intro j hj; rcases Nat.lt_succ_iff_lt_or_eq.1 hj with q | q; exact hno j q; subst q; exact hnx), rfl⟩, (by kernel_rfl)⟩
        omega
    · -- no 6
      try simp only [bs] at c6
      exfalso; exact absurd hxs2 (hno xs (by omega))

end Go.Ab
