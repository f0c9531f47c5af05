/- Of colours: by all sets of arcs. -/
import Derived.Test.YtcmaffldmodacaaTab
import Derived.Test.YtcmaffldmodacaaG1
import Derived.Test.YtcmaffldmodacaaPlWhit
import Derived.Test.YtcmaffldmodacaaSealI
import Derived.Test.YtcmaffldmodacaaShape
import Derived.Test.YtcmaffldmodacaaDag2
set_option maxRecDepth 100000
namespace Go.Ab
open Go Go.Proofs
theorem ref_coloursOf (n q : Int) (es : List Arc) (h8 : n ≤ 8) (h1 : 1 ≤ n) (hA : InR n es) (hl : es.length ≤ 12) (hq0 : 0 ≤ q) (hq1 : q ≤ 20) : ACall Try.prog 12 [.agg [(.int .i64 n), (.ro (.arcs es))], .one (.int .i64 q)] [] (fun ov oh => ov = .one (.int .i64 (coloursOf q n es)) ∧ oh = []) := by
  refine acall_intro hT Try.func12 rfl (by kernel_rfl) rfl (by kernel_rfl) ?_
  have hp2 := pow_le12 hl
  have hp3 : ((2 ^ es.length : Nat) : Int) = (2 : Int) ^ es.length := by norm_cast
  have hp4 : (0 : Int) < 2 ^ es.length := Int.pow_pos (by decide)
  refine awp_run_seq [1, 2] [102] [] ⟨78, [(1, .one (.int .i64 q)), (2, .one (.ptr 102 0 0))], [(102, .box 1 2 [(.int .i64 n), (.ro (.arcs es))])]⟩ hT (by kernel_rfl) trivial ?_
  refine awp_run_seq [1, 2, 5] [102] [] ⟨78, [(1, .one (.int .i64 q)), (2, .one (.ptr 102 0 0)), (5, .one (.int .i64 0))], [(102, .box 1 2 [(.int .i64 n), (.ro (.arcs es))])]⟩ hT (by kernel_rfl) trivial ?_
  refine awp_seq ?_
  refine awp_run_seq [1, 2, 5, 18, 19] [102] [(0 < 1), ((0 : Int) ≤ ((es.length : Nat) : Int)), (((es.length : Nat) : Int) ≤ 64), (-9223372036854775808 ≤ ((1 : Int) * 2 ^ es.length) ∧ ((1 : Int) * 2 ^ es.length) ≤ 9223372036854775807)] ⟨78, [(1, .one (.int .i64 q)), (2, .one (.ptr 102 0 0)), (5, .one (.int .i64 0)), (18, .one (.int .i64 ((1 : Int) * 2 ^ es.length))), (19, .one (.int .i64 0))], [(102, .box 1 2 [(.int .i64 n), (.ro (.arcs es))])]⟩ hT (by kernel_rfl) ⟨(by decide), (by omega), (by omega), (by omega), trivial⟩ ?_
  refine awp_block ?_
  refine awp_loop (I := fun κ σ => ∃ (i : Nat) (sm : Int), ((i ≤ 2 ^ es.length) ∧ (sm = sumW (fun s => wit q es s [0, 1, 2, 3, 4, 5, 6, 7] n 1) i) ∧ (-(25600000000 * (i : Int)) ≤ sm ∧ sm ≤ 25600000000 * (i : Int)) ∧ 2 ^ es.length - i = κ) ∧ σ = ⟨78, [(1, .one (.int .i64 q)), (2, .one (.ptr 102 0 0)), (5, .one (.int .i64 sm)), (18, .one (.int .i64 ((1 : Int) * 2 ^ es.length))), (19, .one (.int .i64 (i : Int)))], [(102, .box 1 2 [(.int .i64 n), (.ro (.arcs es))])]⟩) _ ⟨0, 0, ⟨(by exact Nat.zero_le _), (by rfl), (by omega), rfl⟩, (by kernel_rfl)⟩ ?_
  rintro κ _ ⟨i, sm, ⟨hi, hs, hsb, rfl⟩, rfl⟩
  refine awp_run_seq [1, 2, 5, 18, 19, 20] [102] [] ⟨78, [(1, .one (.int .i64 q)), (2, .one (.ptr 102 0 0)), (5, .one (.int .i64 sm)), (18, .one (.int .i64 ((1 : Int) * 2 ^ es.length))), (19, .one (.int .i64 (i : Int))), (20, .one (.bool (decide ((i : Int) < ((1 : Int) * 2 ^ es.length)))))], [(102, .box 1 2 [(.int .i64 n), (.ro (.arcs es))])]⟩ hT (by kernel_rfl) trivial ?_
  refine awp_seq ?_
  refine awp_cond (b := (decide ((i : Int) < ((1 : Int) * 2 ^ es.length)))) (by kernel_rfl) (fun c3 => ?_) (fun c3 => ?_)
  ·
    try simp only [bs] at c3
    refine awp_skip ?_
    refine awp_seq ?_
    refine awp_block ?_
    refine awp_run_seq [1, 2, 5, 6, 18, 19] [102] [] ⟨78, [(1, .one (.int .i64 q)), (2, .one (.ptr 102 0 0)), (5, .one (.int .i64 sm)), (6, .one (.int .i64 (i : Int))), (18, .one (.int .i64 ((1 : Int) * 2 ^ es.length))), (19, .one (.int .i64 (i : Int)))], [(102, .box 1 2 [(.int .i64 n), (.ro (.arcs es))])]⟩ hT (by kernel_rfl) trivial ?_
    refine awp_seq (awp_region ?_)
    refine aops_run 2 [1, 2, 5, 6, 7, 18, 19, 22] [102, 107] [] ⟨78, [(1, .one (.int .i64 q)), (2, .one (.ptr 102 0 0)), (5, .one (.int .i64 sm)), (6, .one (.int .i64 (i : Int))), (7, .one (.ptr 107 0 0)), (18, .one (.int .i64 ((1 : Int) * 2 ^ es.length))), (19, .one (.int .i64 (i : Int))), (22, .agg [(.int .i64 0), (.int .i64 1), (.int .i64 2), (.int .i64 3), (.int .i64 4), (.int .i64 5), (.int .i64 6), (.int .i64 7)])], [(102, .box 1 2 [(.int .i64 n), (.ro (.arcs es))]), (107, .flat (.ints .i64 [0, 0, 0, 0, 0, 0, 0, 0]))]⟩ hT (by kernel_rfl) (by kernel_rfl) trivial ?_
    refine aops_weak (awk_shape 107 7 (.flat (.ints .i64 [0, 0, 0, 0, 0, 0, 0, 0])) (.box 1 8 [(.int .i64 0), (.int .i64 0), (.int .i64 0), (.int .i64 0), (.int .i64 0), (.int .i64 0), (.int .i64 0), (.int .i64 0)]) _ (by kernel_rfl) (by kernel_rfl) (by decide) (fun h => absurd h (by decide)) rfl (shape_box rfl rfl)) ?_
    refine aops_cut [1, 2, 5, 6, 7, 18, 19, 22] [102, 107] ⟨78, [(1, .one (.int .i64 q)), (2, .one (.ptr 102 0 0)), (5, .one (.int .i64 sm)), (6, .one (.int .i64 (i : Int))), (7, .one (.ptr 107 0 0)), (18, .one (.int .i64 ((1 : Int) * 2 ^ es.length))), (19, .one (.int .i64 (i : Int))), (22, .agg [(.int .i64 0), (.int .i64 1), (.int .i64 2), (.int .i64 3), (.int .i64 4), (.int .i64 5), (.int .i64 6), (.int .i64 7)])], [(102, .box 1 2 [(.int .i64 n), (.ro (.arcs es))]), (107, .box 1 8 [(.int .i64 0), (.int .i64 0), (.int .i64 0), (.int .i64 0), (.int .i64 0), (.int .i64 0), (.int .i64 0), (.int .i64 0)])]⟩ (by kernel_rfl) ?_
    refine aops_run 1 [1, 2, 5, 6, 7, 18, 19] [102, 107] [(0 < 1)] ⟨78, [(1, .one (.int .i64 q)), (2, .one (.ptr 102 0 0)), (5, .one (.int .i64 sm)), (6, .one (.int .i64 (i : Int))), (7, .one (.ptr 107 0 0)), (18, .one (.int .i64 ((1 : Int) * 2 ^ es.length))), (19, .one (.int .i64 (i : Int)))], [(102, .box 1 2 [(.int .i64 n), (.ro (.arcs es))]), (107, .box 1 8 [(.int .i64 0), (.int .i64 1), (.int .i64 2), (.int .i64 3), (.int .i64 4), (.int .i64 5), (.int .i64 6), (.int .i64 7)])]⟩ hT (by kernel_rfl) (by kernel_rfl) ⟨(by decide), trivial⟩ ?_
    refine aops_end_seq (by kernel_rfl) ?_
    refine awp_weak (awk_shape 107 7 (.box 1 8 [(.int .i64 0), (.int .i64 1), (.int .i64 2), (.int .i64 3), (.int .i64 4), (.int .i64 5), (.int .i64 6), (.int .i64 7)]) (.flat (.ints .i64 [0, 1, 2, 3, 4, 5, 6, 7])) _ (by kernel_rfl) (by kernel_rfl) (by decide) (fun h => absurd h (by decide)) rfl (shape_flat rfl rfl)) ?_
    refine awp_cut [1, 2, 5, 6, 7, 18, 19] [102, 107] ⟨78, [(1, .one (.int .i64 q)), (2, .one (.ptr 102 0 0)), (5, .one (.int .i64 sm)), (6, .one (.int .i64 (i : Int))), (7, .one (.ptr 107 0 0)), (18, .one (.int .i64 ((1 : Int) * 2 ^ es.length))), (19, .one (.int .i64 (i : Int)))], [(102, .box 1 2 [(.int .i64 n), (.ro (.arcs es))]), (107, .flat (.ints .i64 [0, 1, 2, 3, 4, 5, 6, 7]))]⟩ (by kernel_rfl) ?_
    refine awp_run_seq [1, 2, 5, 6, 7, 8, 9, 18, 19] [102, 107] [(0 < 1)] ⟨78, [(1, .one (.int .i64 q)), (2, .one (.ptr 102 0 0)), (5, .one (.int .i64 sm)), (6, .one (.int .i64 (i : Int))), (7, .one (.ptr 107 0 0)), (8, .one (.int .i64 n)), (9, .one (.int .i64 1)), (18, .one (.int .i64 ((1 : Int) * 2 ^ es.length))), (19, .one (.int .i64 (i : Int)))], [(102, .box 1 2 [(.int .i64 n), (.ro (.arcs es))]), (107, .flat (.ints .i64 [0, 1, 2, 3, 4, 5, 6, 7]))]⟩ hT (by kernel_rfl) ⟨(by decide), trivial⟩ ?_
    refine awp_seq ?_
    refine awp_run_seq [1, 2, 5, 6, 7, 8, 9, 18, 19, 26, 27, 28] [102, 107] [(0 < 1)] ⟨78, [(1, .one (.int .i64 q)), (2, .one (.ptr 102 0 0)), (5, .one (.int .i64 sm)), (6, .one (.int .i64 (i : Int))), (7, .one (.ptr 107 0 0)), (8, .one (.int .i64 n)), (9, .one (.int .i64 1)), (18, .one (.int .i64 ((1 : Int) * 2 ^ es.length))), (19, .one (.int .i64 (i : Int))), (26, .one (.ro (.arcs es))), (27, .one (.int .i64 ((es.length : Nat) : Int))), (28, .one (.int .i64 0))], [(102, .box 1 2 [(.int .i64 n), (.ro (.arcs es))]), (107, .flat (.ints .i64 [0, 1, 2, 3, 4, 5, 6, 7]))]⟩ hT (by kernel_rfl) ⟨(by decide), trivial⟩ ?_
    refine awp_block ?_
    refine awp_loop (I := fun κ σ => ∃ (k : Nat) (p : List Int) (m g : Int), ((k ≤ es.length) ∧ (p.length = 8) ∧ (wit q (es.drop k) (i / 2 ^ k) p m g = wit q es i [0, 1, 2, 3, 4, 5, 6, 7] n 1) ∧ (n - k ≤ m ∧ m ≤ n) ∧ (g = 1 ∨ g = -1) ∧ es.length - k = κ) ∧ σ = ⟨78, [(1, .one (.int .i64 q)), (2, .one (.ptr 102 0 0)), (5, .one (.int .i64 sm)), (6, .one (.int .i64 (i : Int))), (7, .one (.ptr 107 0 0)), (8, .one (.int .i64 m)), (9, .one (.int .i64 g)), (18, .one (.int .i64 ((1 : Int) * 2 ^ es.length))), (19, .one (.int .i64 (i : Int))), (26, .one (.ro (.arcs es))), (27, .one (.int .i64 ((es.length : Nat) : Int))), (28, .one (.int .i64 (k : Int)))], [(102, .box 1 2 [(.int .i64 n), (.ro (.arcs es))]), (107, .flat (.ints .i64 p))]⟩) _ ⟨0, [0, 1, 2, 3, 4, 5, 6, 7], n, 1, ⟨(by omega), (by rfl), (by rw [List.drop_zero, Nat.pow_zero, Nat.div_one]), (by omega), (by omega), rfl⟩, (by kernel_rfl)⟩ ?_
    rintro κ _ ⟨k, p, m, g, ⟨hk, hp, hw, hm, hg, rfl⟩, rfl⟩
    refine awp_run_seq [1, 2, 5, 6, 7, 8, 9, 18, 19, 26, 27, 28, 29] [102, 107] [] ⟨78, [(1, .one (.int .i64 q)), (2, .one (.ptr 102 0 0)), (5, .one (.int .i64 sm)), (6, .one (.int .i64 (i : Int))), (7, .one (.ptr 107 0 0)), (8, .one (.int .i64 m)), (9, .one (.int .i64 g)), (18, .one (.int .i64 ((1 : Int) * 2 ^ es.length))), (19, .one (.int .i64 (i : Int))), (26, .one (.ro (.arcs es))), (27, .one (.int .i64 ((es.length : Nat) : Int))), (28, .one (.int .i64 (k : Int))), (29, .one (.bool (decide ((k : Int) < ((es.length : Nat) : Int)))))], [(102, .box 1 2 [(.int .i64 n), (.ro (.arcs es))]), (107, .flat (.ints .i64 p))]⟩ hT (by kernel_rfl) trivial ?_
    refine awp_seq ?_
    refine awp_cond (b := (decide ((k : Int) < ((es.length : Nat) : Int)))) (by kernel_rfl) (fun c8 => ?_) (fun c8 => ?_)
    ·
      try simp only [bs] at c8
      have hkl : k < es.length := by omega
      obtain ⟨a1, a2, a3, a4⟩ := hA _ (getD_mem (d := default) hkl)
      have hbit : iand ((i : Int) / 2 ^ k) 1 = ((i / 2 ^ k % 2 : Nat) : Int) := bit_nat i k
      have hsh : 0 ≤ (i : Int) / 2 ^ k ∧ (i : Int) / 2 ^ k ≤ 65535 := shr_in (k : Int) (by omega) (by omega)
      refine awp_skip ?_
      refine awp_seq ?_
      refine awp_block ?_
      refine awp_run_seq [1, 2, 5, 6, 7, 8, 9, 10, 11, 18, 19, 26, 27, 28] [102, 107, 111] [((0 : Int) ≤ (k : Int)), ((k : Int) < ((es.length : Nat) : Int)), (0 < 1)] ⟨78, [(1, .one (.int .i64 q)), (2, .one (.ptr 102 0 0)), (5, .one (.int .i64 sm)), (6, .one (.int .i64 (i : Int))), (7, .one (.ptr 107 0 0)), (8, .one (.int .i64 m)), (9, .one (.int .i64 g)), (10, .one (.int .i64 (k : Int))), (11, .one (.ptr 111 0 0)), (18, .one (.int .i64 ((1 : Int) * 2 ^ es.length))), (19, .one (.int .i64 (i : Int))), (26, .one (.ro (.arcs es))), (27, .one (.int .i64 ((es.length : Nat) : Int))), (28, .one (.int .i64 (k : Int)))], [(102, .box 1 2 [(.int .i64 n), (.ro (.arcs es))]), (107, .flat (.ints .i64 p)), (111, .box 1 3 [(.int .i64 ((List.getD es k default).src)), (.int .i64 ((List.getD es k default).dst)), (.int .i64 ((List.getD es k default).cap))])]⟩ hT (by kernel_rfl) ⟨(by omega), (by omega), (by decide), trivial⟩ ?_
      refine awp_seq ?_
      refine awp_run_seq [1, 2, 5, 6, 7, 8, 9, 11, 18, 19, 26, 27, 28, 37] [102, 107, 111] [((0 : Int) ≤ (k : Int)), ((k : Int) ≤ 64), ((0 : Int) ≤ ((i : Int) / 2 ^ k) ∧ (-9223372036854775808 ≤ ((i : Int) / 2 ^ k) ∧ ((i : Int) / 2 ^ k) ≤ 9223372036854775807)), ((0 : Int) ≤ 1 ∧ (-9223372036854775808 ≤ (1 : Int) ∧ (1 : Int) ≤ 9223372036854775807))] ⟨78, [(1, .one (.int .i64 q)), (2, .one (.ptr 102 0 0)), (5, .one (.int .i64 sm)), (6, .one (.int .i64 (i : Int))), (7, .one (.ptr 107 0 0)), (8, .one (.int .i64 m)), (9, .one (.int .i64 g)), (11, .one (.ptr 111 0 0)), (18, .one (.int .i64 ((1 : Int) * 2 ^ es.length))), (19, .one (.int .i64 (i : Int))), (26, .one (.ro (.arcs es))), (27, .one (.int .i64 ((es.length : Nat) : Int))), (28, .one (.int .i64 (k : Int))), (37, .one (.bool (decide ((iand ((i : Int) / 2 ^ k) 1) = 0))))], [(102, .box 1 2 [(.int .i64 n), (.ro (.arcs es))]), (107, .flat (.ints .i64 p)), (111, .box 1 3 [(.int .i64 ((List.getD es k default).src)), (.int .i64 ((List.getD es k default).dst)), (.int .i64 ((List.getD es k default).cap))])]⟩ hT (by kernel_rfl) ⟨(by omega), (by omega), (by omega), (by omega), trivial⟩ ?_
      refine awp_cond (b := (decide ((iand ((i : Int) / 2 ^ k) 1) = 0))) (by kernel_rfl) (fun c10 => ?_) (fun c10 => ?_)
      ·
        try simp only [bs] at c10
        have hev : i / 2 ^ k % 2 = 0 := by rw [hbit] at c10; exact_mod_cast c10
        have hwN := (wit_even (q := q) (p := p) (m := m) (g := g) hkl hev).symm.trans hw
        refine awp_exit ?_
        refine awp_run [1, 2, 5, 6, 7, 8, 9, 18, 19, 26, 27, 28] [102, 107] [(-9223372036854775808 ≤ (((k + 1) : Nat) : Int) ∧ (((k + 1) : Nat) : Int) ≤ 9223372036854775807)] ⟨78, [(1, .one (.int .i64 q)), (2, .one (.ptr 102 0 0)), (5, .one (.int .i64 sm)), (6, .one (.int .i64 (i : Int))), (7, .one (.ptr 107 0 0)), (8, .one (.int .i64 m)), (9, .one (.int .i64 g)), (18, .one (.int .i64 ((1 : Int) * 2 ^ es.length))), (19, .one (.int .i64 (i : Int))), (26, .one (.ro (.arcs es))), (27, .one (.int .i64 ((es.length : Nat) : Int))), (28, .one (.int .i64 (((k + 1) : Nat) : Int)))], [(102, .box 1 2 [(.int .i64 n), (.ro (.arcs es))]), (107, .flat (.ints .i64 p))]⟩ hT (by kernel_rfl) ⟨(by omega), trivial⟩ ?_
        refine loop_end _ ?_ ⟨(k + 1), p, m, g, ⟨(by omega), (by first | exact hp | exact hp2), (by exact hwN), (by omega), (by omega), rfl⟩, (by kernel_rfl)⟩
        omega
      ·
        try simp only [bs] at c10
        have hodd : i / 2 ^ k % 2 = 1 := (Nat.mod_two_eq_zero_or_one _).resolve_left (fun e => c10 (by rw [hbit, e]; rfl))
        refine awp_skip ?_
        refine awp_run_seq [1, 2, 5, 6, 7, 8, 9, 11, 18, 19, 26, 27, 28] [102, 107, 111] [(-9223372036854775808 ≤ (-g) ∧ (-g) ≤ 9223372036854775807)] ⟨78, [(1, .one (.int .i64 q)), (2, .one (.ptr 102 0 0)), (5, .one (.int .i64 sm)), (6, .one (.int .i64 (i : Int))), (7, .one (.ptr 107 0 0)), (8, .one (.int .i64 m)), (9, .one (.int .i64 (-g))), (11, .one (.ptr 111 0 0)), (18, .one (.int .i64 ((1 : Int) * 2 ^ es.length))), (19, .one (.int .i64 (i : Int))), (26, .one (.ro (.arcs es))), (27, .one (.int .i64 ((es.length : Nat) : Int))), (28, .one (.int .i64 (k : Int)))], [(102, .box 1 2 [(.int .i64 n), (.ro (.arcs es))]), (107, .flat (.ints .i64 p)), (111, .box 1 3 [(.int .i64 ((List.getD es k default).src)), (.int .i64 ((List.getD es k default).dst)), (.int .i64 ((List.getD es k default).cap))])]⟩ hT (by kernel_rfl) ⟨(by omega), trivial⟩ ?_
        refine awp_seq (awp_still [1, 2, 5, 6, 7, 8, 9, 12, 13, 18, 19, 26, 27, 28] [102, 107] [(0 < 1), ((0 : Int) ≤ ((List.getD es k default).src)), (((List.getD es k default).src) < 8), ((Int.toNat ((List.getD es k default).src)) < p.length), (0 < 1), ((0 : Int) ≤ ((List.getD es k default).dst)), (((List.getD es k default).dst) < 8), ((Int.toNat ((List.getD es k default).dst)) < p.length)] ⟨78, [(1, .one (.int .i64 q)), (2, .one (.ptr 102 0 0)), (5, .one (.int .i64 sm)), (6, .one (.int .i64 (i : Int))), (7, .one (.ptr 107 0 0)), (8, .one (.int .i64 m)), (9, .one (.int .i64 (-g))), (12, .one (.int .i64 (List.getD p (Int.toNat ((List.getD es k default).src)) 0))), (13, .one (.int .i64 (List.getD p (Int.toNat ((List.getD es k default).dst)) 0))), (18, .one (.int .i64 ((1 : Int) * 2 ^ es.length))), (19, .one (.int .i64 (i : Int))), (26, .one (.ro (.arcs es))), (27, .one (.int .i64 ((es.length : Nat) : Int))), (28, .one (.int .i64 (k : Int)))], [(102, .box 1 2 [(.int .i64 n), (.ro (.arcs es))]), (107, .flat (.ints .i64 p))]⟩ (by kernel_rfl) (by kernel_rfl) hT (by kernel_rfl) ⟨(by decide), (by omega), (by omega), (by omega), (by decide), (by omega), (by omega), (by omega), trivial⟩ ?_)
        refine awp_seq ?_
        refine awp_run_seq [1, 2, 5, 6, 7, 8, 9, 12, 13, 18, 19, 26, 27, 28, 50] [102, 107] [] ⟨78, [(1, .one (.int .i64 q)), (2, .one (.ptr 102 0 0)), (5, .one (.int .i64 sm)), (6, .one (.int .i64 (i : Int))), (7, .one (.ptr 107 0 0)), (8, .one (.int .i64 m)), (9, .one (.int .i64 (-g))), (12, .one (.int .i64 (List.getD p (Int.toNat ((List.getD es k default).src)) 0))), (13, .one (.int .i64 (List.getD p (Int.toNat ((List.getD es k default).dst)) 0))), (18, .one (.int .i64 ((1 : Int) * 2 ^ es.length))), (19, .one (.int .i64 (i : Int))), (26, .one (.ro (.arcs es))), (27, .one (.int .i64 ((es.length : Nat) : Int))), (28, .one (.int .i64 (k : Int))), (50, .one (.bool (decide ((List.getD p (Int.toNat ((List.getD es k default).src)) 0) = (List.getD p (Int.toNat ((List.getD es k default).dst)) 0)))))], [(102, .box 1 2 [(.int .i64 n), (.ro (.arcs es))]), (107, .flat (.ints .i64 p))]⟩ hT (by kernel_rfl) trivial ?_
        refine awp_cond (b := (decide ((List.getD p (Int.toNat ((List.getD es k default).src)) 0) = (List.getD p (Int.toNat ((List.getD es k default).dst)) 0)))) (by kernel_rfl) (fun c13 => ?_) (fun c13 => ?_)
        ·
          try simp only [bs] at c13
          have hwN := (wit_same (q := q) (m := m) (g := g) hkl hodd c13).symm.trans hw
          refine awp_exit ?_
          refine awp_run [1, 2, 5, 6, 7, 8, 9, 18, 19, 26, 27, 28] [102, 107] [(-9223372036854775808 ≤ (((k + 1) : Nat) : Int) ∧ (((k + 1) : Nat) : Int) ≤ 9223372036854775807)] ⟨78, [(1, .one (.int .i64 q)), (2, .one (.ptr 102 0 0)), (5, .one (.int .i64 sm)), (6, .one (.int .i64 (i : Int))), (7, .one (.ptr 107 0 0)), (8, .one (.int .i64 m)), (9, .one (.int .i64 (-g))), (18, .one (.int .i64 ((1 : Int) * 2 ^ es.length))), (19, .one (.int .i64 (i : Int))), (26, .one (.ro (.arcs es))), (27, .one (.int .i64 ((es.length : Nat) : Int))), (28, .one (.int .i64 (((k + 1) : Nat) : Int)))], [(102, .box 1 2 [(.int .i64 n), (.ro (.arcs es))]), (107, .flat (.ints .i64 p))]⟩ hT (by kernel_rfl) ⟨(by omega), trivial⟩ ?_
          refine loop_end _ ?_ ⟨(k + 1), p, m, (-g), ⟨(by omega), (by first | exact hp | exact hp2), (by exact hwN), (by omega), (by omega), rfl⟩, (by kernel_rfl)⟩
          omega
        ·
          try simp only [bs] at c13
          refine awp_skip ?_
          refine awp_run_seq [1, 2, 5, 6, 7, 8, 9, 12, 13, 18, 19, 26, 27, 28] [102, 107] [(-9223372036854775808 ≤ (m - 1) ∧ (m - 1) ≤ 9223372036854775807)] ⟨78, [(1, .one (.int .i64 q)), (2, .one (.ptr 102 0 0)), (5, .one (.int .i64 sm)), (6, .one (.int .i64 (i : Int))), (7, .one (.ptr 107 0 0)), (8, .one (.int .i64 (m - 1))), (9, .one (.int .i64 (-g))), (12, .one (.int .i64 (List.getD p (Int.toNat ((List.getD es k default).src)) 0))), (13, .one (.int .i64 (List.getD p (Int.toNat ((List.getD es k default).dst)) 0))), (18, .one (.int .i64 ((1 : Int) * 2 ^ es.length))), (19, .one (.int .i64 (i : Int))), (26, .one (.ro (.arcs es))), (27, .one (.int .i64 ((es.length : Nat) : Int))), (28, .one (.int .i64 (k : Int)))], [(102, .box 1 2 [(.int .i64 n), (.ro (.arcs es))]), (107, .flat (.ints .i64 p))]⟩ hT (by kernel_rfl) ⟨(by omega), trivial⟩ ?_
          refine awp_run_seq [1, 2, 5, 6, 7, 8, 9, 12, 13, 18, 19, 26, 27, 28, 53] [102, 107] [] ⟨78, [(1, .one (.int .i64 q)), (2, .one (.ptr 102 0 0)), (5, .one (.int .i64 sm)), (6, .one (.int .i64 (i : Int))), (7, .one (.ptr 107 0 0)), (8, .one (.int .i64 (m - 1))), (9, .one (.int .i64 (-g))), (12, .one (.int .i64 (List.getD p (Int.toNat ((List.getD es k default).src)) 0))), (13, .one (.int .i64 (List.getD p (Int.toNat ((List.getD es k default).dst)) 0))), (18, .one (.int .i64 ((1 : Int) * 2 ^ es.length))), (19, .one (.int .i64 (i : Int))), (26, .one (.ro (.arcs es))), (27, .one (.int .i64 ((es.length : Nat) : Int))), (28, .one (.int .i64 (k : Int))), (53, .one (.int .i64 0))], [(102, .box 1 2 [(.int .i64 n), (.ro (.arcs es))]), (107, .flat (.ints .i64 p))]⟩ hT (by kernel_rfl) trivial ?_
          refine awp_block ?_
          refine awp_loop (I := fun κ σ => ∃ (j : Nat) (p2 : List Int), ((j ≤ 8) ∧ (p2.length = 8) ∧ (∀ z : Nat, p2.getD z 0 = if z < j ∧ p.getD z 0 = (List.getD p (es.getD k default).dst.toNat 0) then (List.getD p (es.getD k default).src.toNat 0) else p.getD z 0) ∧ 8 - j = κ) ∧ σ = ⟨78, [(1, .one (.int .i64 q)), (2, .one (.ptr 102 0 0)), (5, .one (.int .i64 sm)), (6, .one (.int .i64 (i : Int))), (7, .one (.ptr 107 0 0)), (8, .one (.int .i64 (m - 1))), (9, .one (.int .i64 (-g))), (12, .one (.int .i64 (List.getD p (Int.toNat ((List.getD es k default).src)) 0))), (13, .one (.int .i64 (List.getD p (Int.toNat ((List.getD es k default).dst)) 0))), (18, .one (.int .i64 ((1 : Int) * 2 ^ es.length))), (19, .one (.int .i64 (i : Int))), (26, .one (.ro (.arcs es))), (27, .one (.int .i64 ((es.length : Nat) : Int))), (28, .one (.int .i64 (k : Int))), (53, .one (.int .i64 (j : Int)))], [(102, .box 1 2 [(.int .i64 n), (.ro (.arcs es))]), (107, .flat (.ints .i64 p2))]⟩) _ ⟨0, p, ⟨(by omega), (by omega), (by intro z; rw [if_neg (by omega)]), rfl⟩, (by kernel_rfl)⟩ ?_
          rintro κ _ ⟨j, p2, ⟨hj, hp2, hpj, rfl⟩, rfl⟩
          refine awp_run_seq [1, 2, 5, 6, 7, 8, 9, 12, 13, 18, 19, 26, 27, 28, 53, 54] [102, 107] [] ⟨78, [(1, .one (.int .i64 q)), (2, .one (.ptr 102 0 0)), (5, .one (.int .i64 sm)), (6, .one (.int .i64 (i : Int))), (7, .one (.ptr 107 0 0)), (8, .one (.int .i64 (m - 1))), (9, .one (.int .i64 (-g))), (12, .one (.int .i64 (List.getD p (Int.toNat ((List.getD es k default).src)) 0))), (13, .one (.int .i64 (List.getD p (Int.toNat ((List.getD es k default).dst)) 0))), (18, .one (.int .i64 ((1 : Int) * 2 ^ es.length))), (19, .one (.int .i64 (i : Int))), (26, .one (.ro (.arcs es))), (27, .one (.int .i64 ((es.length : Nat) : Int))), (28, .one (.int .i64 (k : Int))), (53, .one (.int .i64 (j : Int))), (54, .one (.bool (decide ((j : Int) < 8))))], [(102, .box 1 2 [(.int .i64 n), (.ro (.arcs es))]), (107, .flat (.ints .i64 p2))]⟩ hT (by kernel_rfl) trivial ?_
          refine awp_seq ?_
          refine awp_cond (b := (decide ((j : Int) < 8))) (by kernel_rfl) (fun c16 => ?_) (fun c16 => ?_)
          ·
            try simp only [bs] at c16
            refine awp_skip ?_
            refine awp_seq ?_
            refine awp_block ?_
            refine awp_run_seq [1, 2, 5, 6, 7, 8, 9, 12, 13, 14, 18, 19, 26, 27, 28, 53] [102, 107] [] ⟨78, [(1, .one (.int .i64 q)), (2, .one (.ptr 102 0 0)), (5, .one (.int .i64 sm)), (6, .one (.int .i64 (i : Int))), (7, .one (.ptr 107 0 0)), (8, .one (.int .i64 (m - 1))), (9, .one (.int .i64 (-g))), (12, .one (.int .i64 (List.getD p (Int.toNat ((List.getD es k default).src)) 0))), (13, .one (.int .i64 (List.getD p (Int.toNat ((List.getD es k default).dst)) 0))), (14, .one (.int .i64 (j : Int))), (18, .one (.int .i64 ((1 : Int) * 2 ^ es.length))), (19, .one (.int .i64 (i : Int))), (26, .one (.ro (.arcs es))), (27, .one (.int .i64 ((es.length : Nat) : Int))), (28, .one (.int .i64 (k : Int))), (53, .one (.int .i64 (j : Int)))], [(102, .box 1 2 [(.int .i64 n), (.ro (.arcs es))]), (107, .flat (.ints .i64 p2))]⟩ hT (by kernel_rfl) trivial ?_
            refine awp_run_seq [1, 2, 5, 6, 7, 8, 9, 12, 13, 14, 18, 19, 26, 27, 28, 53, 60] [102, 107] [((0 : Int) ≤ (j : Int)), ((j : Int) < 8), (j < p2.length)] ⟨78, [(1, .one (.int .i64 q)), (2, .one (.ptr 102 0 0)), (5, .one (.int .i64 sm)), (6, .one (.int .i64 (i : Int))), (7, .one (.ptr 107 0 0)), (8, .one (.int .i64 (m - 1))), (9, .one (.int .i64 (-g))), (12, .one (.int .i64 (List.getD p (Int.toNat ((List.getD es k default).src)) 0))), (13, .one (.int .i64 (List.getD p (Int.toNat ((List.getD es k default).dst)) 0))), (14, .one (.int .i64 (j : Int))), (18, .one (.int .i64 ((1 : Int) * 2 ^ es.length))), (19, .one (.int .i64 (i : Int))), (26, .one (.ro (.arcs es))), (27, .one (.int .i64 ((es.length : Nat) : Int))), (28, .one (.int .i64 (k : Int))), (53, .one (.int .i64 (j : Int))), (60, .one (.bool (decide ((List.getD p2 j 0) = (List.getD p (Int.toNat ((List.getD es k default).dst)) 0)))))], [(102, .box 1 2 [(.int .i64 n), (.ro (.arcs es))]), (107, .flat (.ints .i64 p2))]⟩ hT (by kernel_rfl) ⟨(by omega), (by omega), (by omega), trivial⟩ ?_
            refine awp_cond (b := (decide ((List.getD p2 j 0) = (List.getD p (Int.toNat ((List.getD es k default).dst)) 0)))) (by kernel_rfl) (fun c18 => ?_) (fun c18 => ?_)
            ·
              try simp only [bs] at c18
              have hpN := part_yes hpj (by omega) c18
              refine awp_run [1, 2, 5, 6, 7, 8, 9, 12, 13, 18, 19, 26, 27, 28, 53] [102, 107] [((0 : Int) ≤ (j : Int)), ((j : Int) < 8), (j < p2.length)] ⟨78, [(1, .one (.int .i64 q)), (2, .one (.ptr 102 0 0)), (5, .one (.int .i64 sm)), (6, .one (.int .i64 (i : Int))), (7, .one (.ptr 107 0 0)), (8, .one (.int .i64 (m - 1))), (9, .one (.int .i64 (-g))), (12, .one (.int .i64 (List.getD p (Int.toNat ((List.getD es k default).src)) 0))), (13, .one (.int .i64 (List.getD p (Int.toNat ((List.getD es k default).dst)) 0))), (18, .one (.int .i64 ((1 : Int) * 2 ^ es.length))), (19, .one (.int .i64 (i : Int))), (26, .one (.ro (.arcs es))), (27, .one (.int .i64 ((es.length : Nat) : Int))), (28, .one (.int .i64 (k : Int))), (53, .one (.int .i64 (j : Int)))], [(102, .box 1 2 [(.int .i64 n), (.ro (.arcs es))]), (107, .flat (.ints .i64 (List.set p2 j (List.getD p (Int.toNat ((List.getD es k default).src)) 0))))]⟩ hT (by kernel_rfl) ⟨(by omega), (by omega), (by omega), trivial⟩ ?_
              refine awp_run [1, 2, 5, 6, 7, 8, 9, 12, 13, 18, 19, 26, 27, 28, 53] [102, 107] [(-9223372036854775808 ≤ (((j + 1) : Nat) : Int) ∧ (((j + 1) : Nat) : Int) ≤ 9223372036854775807)] ⟨78, [(1, .one (.int .i64 q)), (2, .one (.ptr 102 0 0)), (5, .one (.int .i64 sm)), (6, .one (.int .i64 (i : Int))), (7, .one (.ptr 107 0 0)), (8, .one (.int .i64 (m - 1))), (9, .one (.int .i64 (-g))), (12, .one (.int .i64 (List.getD p (Int.toNat ((List.getD es k default).src)) 0))), (13, .one (.int .i64 (List.getD p (Int.toNat ((List.getD es k default).dst)) 0))), (18, .one (.int .i64 ((1 : Int) * 2 ^ es.length))), (19, .one (.int .i64 (i : Int))), (26, .one (.ro (.arcs es))), (27, .one (.int .i64 ((es.length : Nat) : Int))), (28, .one (.int .i64 (k : Int))), (53, .one (.int .i64 (((j + 1) : Nat) : Int)))], [(102, .box 1 2 [(.int .i64 n), (.ro (.arcs es))]), (107, .flat (.ints .i64 (List.set p2 j (List.getD p (Int.toNat ((List.getD es k default).src)) 0))))]⟩ hT (by kernel_rfl) ⟨(by omega), trivial⟩ ?_
              refine loop_end _ ?_ ⟨(j + 1), (List.set p2 j (List.getD p (Int.toNat ((List.getD es k default).src)) 0)), ⟨(by omega), (by first | exact hp2 | (rw [List.length_set]; exact hp2)), (by exact hpN), rfl⟩, (by kernel_rfl)⟩
              omega
            ·
              try simp only [bs] at c18
              have hpN := part_no hpj c18
              refine awp_skip ?_
              refine awp_run [1, 2, 5, 6, 7, 8, 9, 12, 13, 18, 19, 26, 27, 28, 53] [102, 107] [(-9223372036854775808 ≤ (((j + 1) : Nat) : Int) ∧ (((j + 1) : Nat) : Int) ≤ 9223372036854775807)] ⟨78, [(1, .one (.int .i64 q)), (2, .one (.ptr 102 0 0)), (5, .one (.int .i64 sm)), (6, .one (.int .i64 (i : Int))), (7, .one (.ptr 107 0 0)), (8, .one (.int .i64 (m - 1))), (9, .one (.int .i64 (-g))), (12, .one (.int .i64 (List.getD p (Int.toNat ((List.getD es k default).src)) 0))), (13, .one (.int .i64 (List.getD p (Int.toNat ((List.getD es k default).dst)) 0))), (18, .one (.int .i64 ((1 : Int) * 2 ^ es.length))), (19, .one (.int .i64 (i : Int))), (26, .one (.ro (.arcs es))), (27, .one (.int .i64 ((es.length : Nat) : Int))), (28, .one (.int .i64 (k : Int))), (53, .one (.int .i64 (((j + 1) : Nat) : Int)))], [(102, .box 1 2 [(.int .i64 n), (.ro (.arcs es))]), (107, .flat (.ints .i64 p2))]⟩ hT (by kernel_rfl) ⟨(by omega), trivial⟩ ?_
              refine loop_end _ ?_ ⟨(j + 1), p2, ⟨(by omega), (by first | exact hp2 | (rw [List.length_set]; exact hp2)), (by exact hpN), rfl⟩, (by kernel_rfl)⟩
              omega
          ·
            try simp only [bs] at c16
            have hwN := (wit_diff (q := q) (m := m) (g := g) hkl hodd c13).symm.trans hw
            rw [← part_end hp hp2 (by omega) hpj] at hwN
            refine awp_exit ?_
            refine awp_run [1, 2, 5, 6, 7, 8, 9, 18, 19, 26, 27, 28] [102, 107] [(-9223372036854775808 ≤ (((k + 1) : Nat) : Int) ∧ (((k + 1) : Nat) : Int) ≤ 9223372036854775807)] ⟨78, [(1, .one (.int .i64 q)), (2, .one (.ptr 102 0 0)), (5, .one (.int .i64 sm)), (6, .one (.int .i64 (i : Int))), (7, .one (.ptr 107 0 0)), (8, .one (.int .i64 (m - 1))), (9, .one (.int .i64 (-g))), (18, .one (.int .i64 ((1 : Int) * 2 ^ es.length))), (19, .one (.int .i64 (i : Int))), (26, .one (.ro (.arcs es))), (27, .one (.int .i64 ((es.length : Nat) : Int))), (28, .one (.int .i64 (((k + 1) : Nat) : Int)))], [(102, .box 1 2 [(.int .i64 n), (.ro (.arcs es))]), (107, .flat (.ints .i64 p2))]⟩ hT (by kernel_rfl) ⟨(by omega), trivial⟩ ?_
            refine loop_end _ ?_ ⟨(k + 1), p2, (m - 1), (-g), ⟨(by omega), (by first | exact hp | exact hp2), (by exact hwN), (by omega), (by omega), rfl⟩, (by kernel_rfl)⟩
            omega
    ·
      try simp only [bs] at c8
      have hend : wit q es i [0, 1, 2, 3, 4, 5, 6, 7] n 1 = g * q ^ m.toNat := by rw [← hw, List.drop_of_length_le (by omega)]; rfl
      refine awp_exit ?_
      refine awp_seq ?_
      refine awp_run_seq [1, 2, 5, 9, 18, 19, 66, 67] [102] [] ⟨78, [(1, .one (.int .i64 q)), (2, .one (.ptr 102 0 0)), (5, .one (.int .i64 sm)), (9, .one (.int .i64 g)), (18, .one (.int .i64 ((1 : Int) * 2 ^ es.length))), (19, .one (.int .i64 (i : Int))), (66, .one (.int .i64 m)), (67, .one (.int .i64 0))], [(102, .box 1 2 [(.int .i64 n), (.ro (.arcs es))])]⟩ hT (by kernel_rfl) trivial ?_
      refine awp_block ?_
      refine awp_loop (I := fun κ σ => ∃ (j : Nat) (g2 : Int), ((j ≤ m.toNat) ∧ (g2 = g * q ^ j) ∧ m.toNat - j = κ) ∧ σ = ⟨78, [(1, .one (.int .i64 q)), (2, .one (.ptr 102 0 0)), (5, .one (.int .i64 sm)), (9, .one (.int .i64 g2)), (18, .one (.int .i64 ((1 : Int) * 2 ^ es.length))), (19, .one (.int .i64 (i : Int))), (66, .one (.int .i64 m)), (67, .one (.int .i64 (j : Int)))], [(102, .box 1 2 [(.int .i64 n), (.ro (.arcs es))])]⟩) _ ⟨0, g, ⟨(by omega), (by rw [Int.pow_zero, Int.mul_one]), rfl⟩, (by kernel_rfl)⟩ ?_
      rintro κ _ ⟨j, g2, ⟨hj, hg2, rfl⟩, rfl⟩
      refine awp_run_seq [1, 2, 5, 9, 18, 19, 66, 67, 68] [102] [] ⟨78, [(1, .one (.int .i64 q)), (2, .one (.ptr 102 0 0)), (5, .one (.int .i64 sm)), (9, .one (.int .i64 g2)), (18, .one (.int .i64 ((1 : Int) * 2 ^ es.length))), (19, .one (.int .i64 (i : Int))), (66, .one (.int .i64 m)), (67, .one (.int .i64 (j : Int))), (68, .one (.bool (decide ((j : Int) < m))))], [(102, .box 1 2 [(.int .i64 n), (.ro (.arcs es))])]⟩ hT (by kernel_rfl) trivial ?_
      refine awp_seq ?_
      refine awp_cond (b := (decide ((j : Int) < m))) (by kernel_rfl) (fun c23 => ?_) (fun c23 => ?_)
      ·
        try simp only [bs] at c23
        have hpw1 := pow8_bd hq0 hq1 (i := j + 1) (by omega)
        have hgq : g2 * q = g * q ^ (j + 1) := by rw [Int.pow_succ, ← Int.mul_assoc, ← hg2]
        have hgb : -25600000000 ≤ g2 * q ∧ g2 * q ≤ 25600000000 := by rw [hgq]; rcases hg with r | r <;> subst r <;> omega
        refine awp_skip ?_
        refine awp_seq ?_
        refine awp_block ?_
        refine awp_run [1, 2, 5, 9, 18, 19, 66, 67] [102] [(-9223372036854775808 ≤ (g2 * q) ∧ (g2 * q) ≤ 9223372036854775807)] ⟨78, [(1, .one (.int .i64 q)), (2, .one (.ptr 102 0 0)), (5, .one (.int .i64 sm)), (9, .one (.int .i64 (g2 * q))), (18, .one (.int .i64 ((1 : Int) * 2 ^ es.length))), (19, .one (.int .i64 (i : Int))), (66, .one (.int .i64 m)), (67, .one (.int .i64 (j : Int)))], [(102, .box 1 2 [(.int .i64 n), (.ro (.arcs es))])]⟩ hT (by kernel_rfl) ⟨(by omega), trivial⟩ ?_
        refine awp_run [1, 2, 5, 9, 18, 19, 66, 67] [102] [(-9223372036854775808 ≤ (((j + 1) : Nat) : Int) ∧ (((j + 1) : Nat) : Int) ≤ 9223372036854775807)] ⟨78, [(1, .one (.int .i64 q)), (2, .one (.ptr 102 0 0)), (5, .one (.int .i64 sm)), (9, .one (.int .i64 (g2 * q))), (18, .one (.int .i64 ((1 : Int) * 2 ^ es.length))), (19, .one (.int .i64 (i : Int))), (66, .one (.int .i64 m)), (67, .one (.int .i64 (((j + 1) : Nat) : Int)))], [(102, .box 1 2 [(.int .i64 n), (.ro (.arcs es))])]⟩ hT (by kernel_rfl) ⟨(by omega), trivial⟩ ?_
        refine loop_end _ ?_ ⟨(j + 1), (g2 * q), ⟨(by omega), (by exact hgq), rfl⟩, (by kernel_rfl)⟩
        omega
      ·
        try simp only [bs] at c23
        have hj2 : j = m.toNat := by omega
        have hpw1 := pow8_bd hq0 hq1 (i := m.toNat) (by omega)
        have hgb : -25600000000 ≤ g2 ∧ g2 ≤ 25600000000 := by rw [hg2, hj2]; rcases hg with r | r <;> subst r <;> omega
        have hsn : sm + g2 = sumW (fun s => wit q es s [0, 1, 2, 3, 4, 5, 6, 7] n 1) (i + 1) := by show _ = sumW _ i + wit q es i [0, 1, 2, 3, 4, 5, 6, 7] n 1; rw [← hs, hend, hg2, hj2]
        refine awp_exit ?_
        refine awp_run [1, 2, 5, 18, 19] [102] [(-9223372036854775808 ≤ (sm + g2) ∧ (sm + g2) ≤ 9223372036854775807)] ⟨78, [(1, .one (.int .i64 q)), (2, .one (.ptr 102 0 0)), (5, .one (.int .i64 (sm + g2))), (18, .one (.int .i64 ((1 : Int) * 2 ^ es.length))), (19, .one (.int .i64 (i : Int)))], [(102, .box 1 2 [(.int .i64 n), (.ro (.arcs es))])]⟩ hT (by kernel_rfl) ⟨(by omega), trivial⟩ ?_
        refine awp_run [1, 2, 5, 18, 19] [102] [(-9223372036854775808 ≤ (((i + 1) : Nat) : Int) ∧ (((i + 1) : Nat) : Int) ≤ 9223372036854775807)] ⟨78, [(1, .one (.int .i64 q)), (2, .one (.ptr 102 0 0)), (5, .one (.int .i64 (sm + g2))), (18, .one (.int .i64 ((1 : Int) * 2 ^ es.length))), (19, .one (.int .i64 (((i + 1) : Nat) : Int)))], [(102, .box 1 2 [(.int .i64 n), (.ro (.arcs es))])]⟩ hT (by kernel_rfl) ⟨(by omega), trivial⟩ ?_
        refine loop_end _ ?_ ⟨(i + 1), (sm + g2), ⟨(by omega), (by exact hsn), (by omega), rfl⟩, (by kernel_rfl)⟩
        omega
  ·
    try simp only [bs] at c3
    refine awp_exit ?_
    refine awp_run_seq [4] [] [] ⟨78, [(4, .one (.int .i64 sm))], []⟩ hT (by kernel_rfl) trivial ?_
    refine awp_ret ?_
    refine kRet.ret _ [] [] (.one (.int .i64 sm)) [] (by kernel_rfl) trivial ?_
    exact ⟨congrArg (fun x1 => (.one (.int .i64 x1) : AV)) (show sm = (coloursOf q n es) from by (rw [hs, show i = 2 ^ es.length by omega]; rfl)), rfl⟩
end Go.Ab
