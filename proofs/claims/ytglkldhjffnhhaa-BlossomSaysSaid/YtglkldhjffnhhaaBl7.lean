/- Of pairs of any: BarOf. -/
import Derived.Test.YtglkldhjffnhhaaTab
import Derived.Test.YtglkldhjffnhhaaBl6
set_option maxRecDepth 100000
namespace Go.Ab
open Go Go.Proofs
theorem ref_barOf (n : Int) (es : List Arc) (hE : poolErr n es = 0) : ACall Try.prog 34 [.agg [(.int .i64 n), (.ro (.arcs es))]] [] (fun ov oh => ov = .tup [(false, [(.int .u16 (barOf n es))]), (false, [(.int .i64 (2 * nuF n es 0))])] ∧ oh = []) := by
  refine acall_intro hT Try.func34 rfl (by kernel_rfl) rfl (by kernel_rfl) ?_
  obtain ⟨hG, h9⟩ := pool_ok hE
  have h1 := hG.n1
  have hA := hG.inR
  have hle := hG.len
  have h512 := pow512 (n := n) (by omega) (by omega)
  have h12 : n ≤ 12 := by omega
  refine awp_run_seq [1] [101] [] ⟨36, [(1, .one (.ptr 101 0 0))], [(101, .box 1 2 [(.int .i64 n), (.ro (.arcs es))])]⟩ hT (by kernel_rfl) trivial ?_
  refine awp_run_seq [1, 4, 5] [101] [] ⟨36, [(1, .one (.ptr 101 0 0)), (4, .one (.int .i64 (-1))), (5, .one (.int .i64 0))], [(101, .box 1 2 [(.int .i64 n), (.ro (.arcs es))])]⟩ hT (by kernel_rfl) trivial ?_
  refine awp_seq ?_
  refine awp_run_seq [1, 4, 5, 10, 11] [101] [(0 < 1), ((0 : Int) ≤ n), (n ≤ 64), (-9223372036854775808 ≤ ((1 : Int) * 2 ^ (Int.toNat n)) ∧ ((1 : Int) * 2 ^ (Int.toNat n)) ≤ 9223372036854775807)] ⟨36, [(1, .one (.ptr 101 0 0)), (4, .one (.int .i64 (-1))), (5, .one (.int .i64 0)), (10, .one (.int .i64 ((1 : Int) * 2 ^ (Int.toNat n)))), (11, .one (.int .i64 0))], [(101, .box 1 2 [(.int .i64 n), (.ro (.arcs es))])]⟩ hT (by kernel_rfl) ⟨(by decide), (by first | omega | (simp only [lens]; omega) | (simp only [lens]; done) | (simp only [nadd_eq]; omega) | (simp; done)), (by first | omega | (simp only [lens]; omega) | (simp only [lens]; done) | (simp only [nadd_eq]; omega) | (simp; done)), (by first | omega | (simp only [lens]; omega) | (simp only [lens]; done) | (simp only [nadd_eq]; omega) | (simp; done)), trivial⟩ ?_
  refine awp_block ?_
  refine awp_loop (I := fun κ σ => ∃ (s : Nat) (b a : Int), ((s ≤ 2 ^ n.toNat) ∧ (BestB n es s b a) ∧ 2 ^ n.toNat - s = κ) ∧ σ = ⟨36, [(1, .one (.ptr 101 0 0)), (4, .one (.int .i64 b)), (5, .one (.int .i64 a)), (10, .one (.int .i64 ((1 : Int) * 2 ^ (Int.toNat n)))), (11, .one (.int .i64 ((s : Nat) : Int)))], [(101, .box 1 2 [(.int .i64 n), (.ro (.arcs es))])]⟩) _ ⟨0, (-1), 0, ⟨(by omega), (by exact BestB.start n es), rfl⟩, (by kernel_rfl)⟩ ?_
  rintro κ _ ⟨s, b, a, ⟨hs, hB, rfl⟩, rfl⟩
  refine awp_run_seq [1, 4, 5, 10, 11, 12] [101] [] ⟨36, [(1, .one (.ptr 101 0 0)), (4, .one (.int .i64 b)), (5, .one (.int .i64 a)), (10, .one (.int .i64 ((1 : Int) * 2 ^ (Int.toNat n)))), (11, .one (.int .i64 ((s : Nat) : Int))), (12, .one (.bool (decide (((s : Nat) : Int) < ((1 : Int) * 2 ^ (Int.toNat n))))))], [(101, .box 1 2 [(.int .i64 n), (.ro (.arcs es))])]⟩ hT (by kernel_rfl) trivial ?_
  refine awp_seq ?_
  refine awp_cond (b := (decide (((s : Nat) : Int) < ((1 : Int) * 2 ^ (Int.toNat n))))) (by kernel_rfl) (fun c3 => ?_) (fun c3 => ?_)
  · -- yes 3
    try simp only [bs] at c3
    have hs2 : s < 2 ^ n.toNat := by omega
    have hmn := many_le9 ((s : Nat) : Int)
    have hod := oddZ_le n es ((s : Nat) : Int)
    have hx : xZ n es ((s : Nat) : Int) = n + ((many ((s : Nat) : Int) 9 : Nat) : Int) - ((oddZ n es ((s : Nat) : Int) : Nat) : Int) := rfl
    have hx0 : ∀ j : Nat, j < s → 0 ≤ xZ n es (j : Int) := fun j hj => by have q1 := xZ_ge (es := es) hA (by omega) h9 (z := (j : Int)) (by omega) (by omega); have q2 := nuF_in (n := n) (es := es) 0 (by omega); omega
    refine awp_skip ?_
    refine awp_seq ?_
    refine awp_block ?_
    refine awp_run_seq [1, 4, 5, 6, 10, 11] [101] [] ⟨36, [(1, .one (.ptr 101 0 0)), (4, .one (.int .i64 b)), (5, .one (.int .i64 a)), (6, .one (.int .i64 ((s : Nat) : Int))), (10, .one (.int .i64 ((1 : Int) * 2 ^ (Int.toNat n)))), (11, .one (.int .i64 ((s : Nat) : Int)))], [(101, .box 1 2 [(.int .i64 n), (.ro (.arcs es))])]⟩ hT (by kernel_rfl) trivial ?_
    -- 10 of 10 operations in any order; 1 orders of the rest
    refine awp_seq (awp_calm2 [(3, ⟨[.one (.int .i64 ((s : Nat) : Int))], .one (.int .i64 (((many ((s : Nat) : Int) 9) : Nat) : Int)), [], []⟩), (7, ⟨[.agg [(.int .i64 n), (.ro (.arcs es))], .one (.int .i64 ((s : Nat) : Int))], .one (.int .i64 (((oddZ n es ((s : Nat) : Int)) : Nat) : Int)), [], []⟩)] false [[], [0], [], [2], [0, 1, 2, 3], [], [], [2, 3, 5, 6], [0, 1, 2, 3, 4, 5, 6, 7], [0, 1, 2, 3, 4, 5, 6, 7, 8]] 10 [1, 4, 5, 6, 7, 10, 11] [101] [(0, []), (1, [(0 < 1)]), (2, []), (3, [(true = true → (AllP [] ∧ [.one (.int .i64 ((s : Nat) : Int))] = ([.one (.int .i64 ((s : Nat) : Int))] : List AV) ∧ ACall Try.prog 67 [.one (.int .i64 ((s : Nat) : Int))] [] (fun ov oh => ov = .one (.int .i64 (((many ((s : Nat) : Int) 9) : Nat) : Int)) ∧ oh = [])))]), (4, [(-9223372036854775808 ≤ (n + (((many ((s : Nat) : Int) 9) : Nat) : Int)) ∧ (n + (((many ((s : Nat) : Int) 9) : Nat) : Int)) ≤ 9223372036854775807)]), (5, [(0 < 1)]), (6, []), (7, [(true = true → (AllP [] ∧ [.agg [(.int .i64 n), (.ro (.arcs es))], .one (.int .i64 ((s : Nat) : Int))] = ([.agg [(.int .i64 n), (.ro (.arcs es))], .one (.int .i64 ((s : Nat) : Int))] : List AV) ∧ ACall Try.prog 102 [.agg [(.int .i64 n), (.ro (.arcs es))], .one (.int .i64 ((s : Nat) : Int))] [] (fun ov oh => ov = .one (.int .i64 (((oddZ n es ((s : Nat) : Int)) : Nat) : Int)) ∧ oh = [])))]), (8, [(-9223372036854775808 ≤ ((n + (((many ((s : Nat) : Int) 9) : Nat) : Int)) - (((oddZ n es ((s : Nat) : Int)) : Nat) : Int)) ∧ ((n + (((many ((s : Nat) : Int) 9) : Nat) : Int)) - (((oddZ n es ((s : Nat) : Int)) : Nat) : Int)) ≤ 9223372036854775807)]), (9, [])] [] 1 ⟨36, [(1, .one (.ptr 101 0 0)), (4, .one (.int .i64 b)), (5, .one (.int .i64 a)), (6, .one (.int .i64 ((s : Nat) : Int))), (7, .one (.int .i64 ((n + (((many ((s : Nat) : Int) 9) : Nat) : Int)) - (((oddZ n es ((s : Nat) : Int)) : Nat) : Int)))), (10, .one (.int .i64 ((1 : Int) * 2 ^ (Int.toNat n)))), (11, .one (.int .i64 ((s : Nat) : Int)))], [(101, .box 1 2 [(.int .i64 n), (.ro (.arcs es))])]⟩ (by kernel_rfl) (by kernel_rfl) hT (by kernel_rfl) (by kernel_rfl) ⟨trivial, ⟨(by decide), trivial⟩, trivial, ⟨(fun _ => ⟨trivial, rfl, ref_ones9 ((s : Nat) : Int) (by omega) (by omega)⟩), trivial⟩, ⟨(by first | omega | (simp only [lens]; omega) | (simp only [lens]; done) | (simp only [nadd_eq]; omega) | (simp; done)), trivial⟩, ⟨(by decide), trivial⟩, trivial, ⟨(fun _ => ⟨trivial, rfl, ref_odd n es ((s : Nat) : Int) hE (by omega) (by omega)⟩), trivial⟩, ⟨(by first | omega | (simp only [lens]; omega) | (simp only [lens]; done) | (simp only [nadd_eq]; omega) | (simp; done)), trivial⟩, trivial, trivial⟩ trivial ?_)
    refine awp_run_seq [1, 4, 5, 6, 7, 10, 11, 29] [101] [((!(decide (b < 0))) = true → ((!(decide (b < 0))) = true → (!(decide (b < 0))) = true)), ((!(decide (b < 0))) = true → ((!(decide (b < 0))) = true → (!(decide (b < 0))) = true)), ((!(decide (b < 0))) = true → (!(decide (b < 0))) = true)] ⟨36, [(1, .one (.ptr 101 0 0)), (4, .one (.int .i64 b)), (5, .one (.int .i64 a)), (6, .one (.int .i64 ((s : Nat) : Int))), (7, .one (.int .i64 ((n + (((many ((s : Nat) : Int) 9) : Nat) : Int)) - (((oddZ n es ((s : Nat) : Int)) : Nat) : Int)))), (10, .one (.int .i64 ((1 : Int) * 2 ^ (Int.toNat n)))), (11, .one (.int .i64 ((s : Nat) : Int))), (29, .one (.bool ((decide (b < 0)) || (decide (((n + (((many ((s : Nat) : Int) 9) : Nat) : Int)) - (((oddZ n es ((s : Nat) : Int)) : Nat) : Int)) < b)))))], [(101, .box 1 2 [(.int .i64 n), (.ro (.arcs es))])]⟩ hT (by kernel_rfl) ⟨(by intro hg; first | exact hg | skip; (try simp only [bs] at hg ⊢); first | exact hg | first | omega | (simp only [lens]; omega) | (simp only [lens]; done) | (simp only [nadd_eq]; omega) | (simp; done) | grind), (by intro hg; first | exact hg | skip; (try simp only [bs] at hg ⊢); first | exact hg | first | omega | (simp only [lens]; omega) | (simp only [lens]; done) | (simp only [nadd_eq]; omega) | (simp; done) | grind), (fun h => h), trivial⟩ ?_
    refine awp_cond (b := ((decide (b < 0)) || (decide (((n + (((many ((s : Nat) : Int) 9) : Nat) : Int)) - (((oddZ n es ((s : Nat) : Int)) : Nat) : Int)) < b)))) (by kernel_rfl) (fun c6 => ?_) (fun c6 => ?_)
    · -- yes 6
      try simp only [bs] at c6
      have hBy := hB.yes hx0 (by rw [hx]; omega)
      rw [hx] at hBy
      refine awp_run [1, 4, 5, 10, 11] [101] [] ⟨36, [(1, .one (.ptr 101 0 0)), (4, .one (.int .i64 ((n + (((many ((s : Nat) : Int) 9) : Nat) : Int)) - (((oddZ n es ((s : Nat) : Int)) : Nat) : Int)))), (5, .one (.int .i64 ((s : Nat) : Int))), (10, .one (.int .i64 ((1 : Int) * 2 ^ (Int.toNat n)))), (11, .one (.int .i64 ((s : Nat) : Int)))], [(101, .box 1 2 [(.int .i64 n), (.ro (.arcs es))])]⟩ hT (by kernel_rfl) trivial ?_
      refine awp_run [1, 4, 5, 10, 11] [101] [(-9223372036854775808 ≤ (((s + 1) : Nat) : Int) ∧ (((s + 1) : Nat) : Int) ≤ 9223372036854775807)] ⟨36, [(1, .one (.ptr 101 0 0)), (4, .one (.int .i64 ((n + (((many ((s : Nat) : Int) 9) : Nat) : Int)) - (((oddZ n es ((s : Nat) : Int)) : Nat) : Int)))), (5, .one (.int .i64 ((s : Nat) : Int))), (10, .one (.int .i64 ((1 : Int) * 2 ^ (Int.toNat n)))), (11, .one (.int .i64 (((s + 1) : Nat) : Int)))], [(101, .box 1 2 [(.int .i64 n), (.ro (.arcs es))])]⟩ hT (by kernel_rfl) ⟨(by first | omega | (simp only [lens]; omega) | (simp only [lens]; done) | (simp only [nadd_eq]; omega) | (simp; done)), trivial⟩ ?_
      refine loop_end _ ?_ ⟨(s + 1), ((n + (((many ((s : Nat) : Int) 9) : Nat) : Int)) - (((oddZ n es ((s : Nat) : Int)) : Nat) : Int)), ((s : Nat) : Int), ⟨(by omega), (by first | exact hBy | exact hBn), rfl⟩, (by kernel_rfl)⟩
      omega
    · -- no 6
      try simp only [bs] at c6
      have hBn := hB.no (by rw [hx]; omega)
      refine awp_skip ?_
      refine awp_run [1, 4, 5, 10, 11] [101] [(-9223372036854775808 ≤ (((s + 1) : Nat) : Int) ∧ (((s + 1) : Nat) : Int) ≤ 9223372036854775807)] ⟨36, [(1, .one (.ptr 101 0 0)), (4, .one (.int .i64 b)), (5, .one (.int .i64 a)), (10, .one (.int .i64 ((1 : Int) * 2 ^ (Int.toNat n)))), (11, .one (.int .i64 (((s + 1) : Nat) : Int)))], [(101, .box 1 2 [(.int .i64 n), (.ro (.arcs es))])]⟩ hT (by kernel_rfl) ⟨(by first | omega | (simp only [lens]; omega) | (simp only [lens]; done) | (simp only [nadd_eq]; omega) | (simp; done)), trivial⟩ ?_
      refine loop_end _ ?_ ⟨(s + 1), b, a, ⟨(by omega), (by first | exact hBy | exact hBn), rfl⟩, (by kernel_rfl)⟩
      omega
  · -- no 3
    try simp only [bs] at c3
    obtain ⟨hb1, hb2⟩ := hB.end_ hA (by omega) h9 (by omega)
    have hbr : 0 ≤ a ∧ a < 65536 := by rcases hB with ⟨q, _⟩ | ⟨_, q, q1, q2, _⟩ <;> omega
    refine awp_exit ?_
    refine awp_run_seq [2, 3] [] [(0 ≤ a ∧ a ≤ 65535)] ⟨36, [(2, .one (.int .u16 a)), (3, .one (.int .i64 b))], []⟩ hT (by kernel_rfl) ⟨(by first | omega | (simp only [lens]; omega) | (simp only [lens]; done) | (simp only [nadd_eq]; omega) | (simp; done)), trivial⟩ ?_
    refine awp_ret ?_
    refine kRet.ret _ [] [] (.tup [(false, [(.int .u16 a)]), (false, [(.int .i64 b)])]) [] (by kernel_rfl) trivial ?_
    exact ⟨by first | rw [show (barOf n es) = a from Eq.symm (by exact hb2), show (2 * nuF n es 0) = b from Eq.symm (by exact hb1)] | rw [show (barOf n es) = a from Eq.symm (by exact hb2)] | rw [show (2 * nuF n es 0) = b from Eq.symm (by exact hb1)], rfl⟩

end Go.Ab
