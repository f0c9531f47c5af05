/- Of the least cut: the reference. -/
import Derived.Test.YtemhgjhfejloiaaTab
import Derived.Test.YtemhgjhfejloiaaG1
import Derived.Test.YtemhgjhfejloiaaPlLeast2
set_option maxRecDepth 100000
namespace Go.Ab
open Go Go.Proofs
theorem ref_between (n : Int) (es : List Arc) (z : Int) (hG : GOk n es 0) (hz0 : 0 ≤ z) (hz1 : z ≤ 65535) : ACall Try.prog 24 [.agg [(.int .i64 n), (.ro (.arcs es))], .one (.int .u16 z)] [] (fun ov oh => ov = .one (.int .i64 (cutP (has z) es)) ∧ oh = []) := by
  refine acall_intro hT Try.func24 rfl (by kernel_rfl) rfl (by kernel_rfl) ?_
  have h1 := hG.n1
  have h2 := hG.n2
  have hle := hG.len
  refine awp_run_seq [1, 2] [102] [] ⟨32, [(1, .one (.int .u16 z)), (2, .one (.ptr 102 0 0))], [(102, .box 1 2 [(.int .i64 n), (.ro (.arcs es))])]⟩ hT (by kernel_rfl) trivial ?_
  refine awp_run_seq [1, 2, 5] [102] [] ⟨32, [(1, .one (.int .u16 z)), (2, .one (.ptr 102 0 0)), (5, .one (.int .i64 0))], [(102, .box 1 2 [(.int .i64 n), (.ro (.arcs es))])]⟩ hT (by kernel_rfl) trivial ?_
  refine awp_seq ?_
  refine awp_run_seq [1, 5, 9, 10, 11] [] [(0 < 1)] ⟨32, [(1, .one (.int .u16 z)), (5, .one (.int .i64 0)), (9, .one (.ro (.arcs es))), (10, .one (.int .i64 ((es.length : Nat) : Int))), (11, .one (.int .i64 0))], []⟩ hT (by kernel_rfl) ⟨(by decide), trivial⟩ ?_
  refine awp_block ?_
  refine awp_loop (I := fun κ σ => ∃ (i : Nat) (u : Int), ((i ≤ es.length) ∧ (u + cutP (has z) (es.drop i) = cutP (has z) es) ∧ (0 ≤ u ∧ u ≤ 10000 * (i : Int)) ∧ es.length - i = κ) ∧ σ = ⟨32, [(1, .one (.int .u16 z)), (5, .one (.int .i64 u)), (9, .one (.ro (.arcs es))), (10, .one (.int .i64 ((es.length : Nat) : Int))), (11, .one (.int .i64 ((i : Nat) : Int)))], []⟩) _ ⟨0, 0, ⟨(by omega), (by simp), (by omega), rfl⟩, (by kernel_rfl)⟩ ?_
  rintro κ _ ⟨i, u, ⟨hi, hu, hb, rfl⟩, rfl⟩
  refine awp_run_seq [1, 5, 9, 10, 11, 12] [] [] ⟨32, [(1, .one (.int .u16 z)), (5, .one (.int .i64 u)), (9, .one (.ro (.arcs es))), (10, .one (.int .i64 ((es.length : Nat) : Int))), (11, .one (.int .i64 ((i : Nat) : Int))), (12, .one (.bool (decide (((i : Nat) : Int) < ((es.length : Nat) : Int)))))], []⟩ hT (by kernel_rfl) trivial ?_
  refine awp_seq ?_
  refine awp_cond (b := (decide (((i : Nat) : Int) < ((es.length : Nat) : Int)))) (by kernel_rfl) (fun c3 => ?_) (fun c3 => ?_)
  · -- yes 3
    try simp only [bs] at c3
    have hci : i < es.length := by omega
    obtain ⟨a1, a2, a3, a4, a5, a6⟩ := hG.at_ hci
    have hd := cutP_drop hz0 hci
    have hq1 := shr_at (es.getD i default).src.toNat hz0 hz1
    have hq2 := shr_at (es.getD i default).dst.toNat hz0 hz1
    refine awp_skip ?_
    refine awp_seq ?_
    refine awp_block ?_
    refine awp_run_seq [1, 5, 7, 9, 10, 11] [107] [((0 : Int) ≤ ((i : Nat) : Int)), (((i : Nat) : Int) < ((es.length : Nat) : Int)), (0 < 1)] ⟨32, [(1, .one (.int .u16 z)), (5, .one (.int .i64 u)), (7, .one (.ptr 107 0 0)), (9, .one (.ro (.arcs es))), (10, .one (.int .i64 ((es.length : Nat) : Int))), (11, .one (.int .i64 ((i : Nat) : Int)))], [(107, .box 1 3 [(.int .i64 ((List.getD es i default).src)), (.int .i64 ((List.getD es i default).dst)), (.int .i64 ((List.getD es i default).cap))])]⟩ hT (by kernel_rfl) ⟨(by first | omega | (simp only [lens]; omega) | (simp only [Bool.cond_decide]; omega)), (by first | omega | (simp only [lens]; omega) | (simp only [Bool.cond_decide]; omega)), (by decide), trivial⟩ ?_
    refine awp_seq (awp_still [1, 5, 7, 9, 10, 11, 25] [107] [(0 < 1), ((0 : Int) ≤ ((List.getD es i default).src)), (((List.getD es i default).src) ≤ 16), ((0 : Int) ≤ (z / 2 ^ (Int.toNat ((List.getD es i default).src))) ∧ (0 ≤ (z / 2 ^ (Int.toNat ((List.getD es i default).src))) ∧ (z / 2 ^ (Int.toNat ((List.getD es i default).src))) ≤ 65535)), ((0 : Int) ≤ 1 ∧ (0 ≤ (1 : Int) ∧ (1 : Int) ≤ 65535)), (0 < 1), ((0 : Int) ≤ ((List.getD es i default).dst)), (((List.getD es i default).dst) ≤ 16), ((0 : Int) ≤ (z / 2 ^ (Int.toNat ((List.getD es i default).dst))) ∧ (0 ≤ (z / 2 ^ (Int.toNat ((List.getD es i default).dst))) ∧ (z / 2 ^ (Int.toNat ((List.getD es i default).dst))) ≤ 65535)), ((0 : Int) ≤ 1 ∧ (0 ≤ (1 : Int) ∧ (1 : Int) ≤ 65535))] ⟨32, [(1, .one (.int .u16 z)), (5, .one (.int .i64 u)), (7, .one (.ptr 107 0 0)), (9, .one (.ro (.arcs es))), (10, .one (.int .i64 ((es.length : Nat) : Int))), (11, .one (.int .i64 ((i : Nat) : Int))), (25, .one (.bool (decide ((iand (z / 2 ^ (Int.toNat ((List.getD es i default).src))) 1) ≠ (iand (z / 2 ^ (Int.toNat ((List.getD es i default).dst))) 1)))))], [(107, .box 1 3 [(.int .i64 ((List.getD es i default).src)), (.int .i64 ((List.getD es i default).dst)), (.int .i64 ((List.getD es i default).cap))])]⟩ (by kernel_rfl) (by kernel_rfl) hT (by kernel_rfl) ⟨(by decide), (by first | omega | (simp only [lens]; omega) | (simp only [Bool.cond_decide]; omega)), (by first | omega | (simp only [lens]; omega) | (simp only [Bool.cond_decide]; omega)), (by first | omega | (simp only [lens]; omega) | (simp only [Bool.cond_decide]; omega)), (by first | omega | (simp only [lens]; omega) | (simp only [Bool.cond_decide]; omega)), (by decide), (by first | omega | (simp only [lens]; omega) | (simp only [Bool.cond_decide]; omega)), (by first | omega | (simp only [lens]; omega) | (simp only [Bool.cond_decide]; omega)), (by first | omega | (simp only [lens]; omega) | (simp only [Bool.cond_decide]; omega)), (by first | omega | (simp only [lens]; omega) | (simp only [Bool.cond_decide]; omega)), trivial⟩ ?_)
    refine awp_cond (b := (decide ((iand (z / 2 ^ (Int.toNat ((List.getD es i default).src))) 1) ≠ (iand (z / 2 ^ (Int.toNat ((List.getD es i default).dst))) 1)))) (by kernel_rfl) (fun c5 => ?_) (fun c5 => ?_)
    · -- yes 5
      try simp only [bs] at c5
      rw [if_neg c5] at hd
      refine awp_run [1, 5, 9, 10, 11] [] [(0 < 1), (-9223372036854775808 ≤ (u + ((List.getD es i default).cap)) ∧ (u + ((List.getD es i default).cap)) ≤ 9223372036854775807)] ⟨32, [(1, .one (.int .u16 z)), (5, .one (.int .i64 (u + ((List.getD es i default).cap)))), (9, .one (.ro (.arcs es))), (10, .one (.int .i64 ((es.length : Nat) : Int))), (11, .one (.int .i64 ((i : Nat) : Int)))], []⟩ hT (by kernel_rfl) ⟨(by decide), (by first | omega | (simp only [lens]; omega) | (simp only [Bool.cond_decide]; omega)), trivial⟩ ?_
      refine awp_run [1, 5, 9, 10, 11] [] [(-9223372036854775808 ≤ (((i + 1) : Nat) : Int) ∧ (((i + 1) : Nat) : Int) ≤ 9223372036854775807)] ⟨32, [(1, .one (.int .u16 z)), (5, .one (.int .i64 (u + ((List.getD es i default).cap)))), (9, .one (.ro (.arcs es))), (10, .one (.int .i64 ((es.length : Nat) : Int))), (11, .one (.int .i64 (((i + 1) : Nat) : Int)))], []⟩ hT (by kernel_rfl) ⟨(by first | omega | (simp only [lens]; omega) | (simp only [Bool.cond_decide]; omega)), trivial⟩ ?_
      refine loop_end _ ?_ ⟨(i + 1), (u + ((List.getD es i default).cap)), ⟨(by omega), (by omega), (by omega), rfl⟩, (by kernel_rfl)⟩
      omega
    · -- no 5
      try simp only [bs] at c5
      rw [if_pos (by omega)] at hd
      refine awp_skip ?_
      refine awp_run [1, 5, 9, 10, 11] [] [(-9223372036854775808 ≤ (((i + 1) : Nat) : Int) ∧ (((i + 1) : Nat) : Int) ≤ 9223372036854775807)] ⟨32, [(1, .one (.int .u16 z)), (5, .one (.int .i64 u)), (9, .one (.ro (.arcs es))), (10, .one (.int .i64 ((es.length : Nat) : Int))), (11, .one (.int .i64 (((i + 1) : Nat) : Int)))], []⟩ hT (by kernel_rfl) ⟨(by first | omega | (simp only [lens]; omega) | (simp only [Bool.cond_decide]; omega)), trivial⟩ ?_
      refine loop_end _ ?_ ⟨(i + 1), u, ⟨(by omega), (by omega), (by omega), rfl⟩, (by kernel_rfl)⟩
      omega
  · -- no 3
    try simp only [bs] at c3
    rw [List.drop_of_length_le (by omega)] at hu
    simp only [cutP] at hu
    refine awp_exit ?_
    refine awp_run_seq [4] [] [] ⟨32, [(4, .one (.int .i64 u))], []⟩ hT (by kernel_rfl) trivial ?_
    refine awp_ret ?_
    refine kRet.ret _ [] [] (.one (.int .i64 u)) [] (by kernel_rfl) trivial ?_
    exact ⟨congrArg (fun x1 => (.one (.int .i64 x1) : AV)) (show u = (cutP (has z) es) from by omega), rfl⟩

theorem ref_atAll (n : Int) (es : List Arc) (hG : GOk n es 0) : ACall Try.prog 25 [.agg [(.int .i64 n), (.ro (.arcs es))]] [] (fun ov oh => ∃ (b : Int), (∃ s, 2 ^ n.toNat ≤ s ∧ AtI n es s b) ∧ ov = .one (.int .i64 b) ∧ oh = []) := by
  refine acall_intro hT Try.func25 rfl (by kernel_rfl) rfl (by kernel_rfl) ?_
  have h1 := hG.n1
  have h2 := hG.n2
  have hpw : 2 ^ n.toNat ≤ 4096 := pow_le12 (by omega)
  have hpc : (1 : Int) * 2 ^ n.toNat = ((2 ^ n.toNat : Nat) : Int) := by rw [Int.one_mul]; norm_cast
  have hpn := pw16 (v := n) (by omega) (by omega)
  refine awp_run_seq [1] [101] [] ⟨25, [(1, .one (.ptr 101 0 0))], [(101, .box 1 2 [(.int .i64 n), (.ro (.arcs es))])]⟩ hT (by kernel_rfl) trivial ?_
  refine awp_run_seq [1, 3] [101] [] ⟨25, [(1, .one (.ptr 101 0 0)), (3, .one (.int .i64 (-1)))], [(101, .box 1 2 [(.int .i64 n), (.ro (.arcs es))])]⟩ hT (by kernel_rfl) trivial ?_
  refine awp_seq ?_
  refine awp_run_seq [1, 3, 4] [101] [] ⟨25, [(1, .one (.ptr 101 0 0)), (3, .one (.int .i64 (-1))), (4, .one (.int .u16 2))], [(101, .box 1 2 [(.int .i64 n), (.ro (.arcs es))])]⟩ hT (by kernel_rfl) trivial ?_
  refine awp_block ?_
  refine awp_loop (I := fun κ σ => ∃ (s : Nat) (b : Int), ((AtI n es s b) ∧ 2 ^ n.toNat - s = κ) ∧ σ = ⟨25, [(1, .one (.ptr 101 0 0)), (3, .one (.int .i64 b)), (4, .one (.int .u16 ((s : Nat) : Int)))], [(101, .box 1 2 [(.int .i64 n), (.ro (.arcs es))])]⟩) _ ⟨2, (-1), ⟨(by exact AtI.start), rfl⟩, (by kernel_rfl)⟩ ?_
  rintro κ _ ⟨s, b, ⟨hA, rfl⟩, rfl⟩
  have hs2 := hA.s2
  have hb0 := hA.b0
  refine awp_seq ?_
  refine awp_run_seq [1, 3, 4, 10] [101] [(0 < 1), ((0 : Int) ≤ n), (n ≤ 16), (0 ≤ ((1 : Int) * 2 ^ (Int.toNat n)) ∧ ((1 : Int) * 2 ^ (Int.toNat n)) ≤ 65535)] ⟨25, [(1, .one (.ptr 101 0 0)), (3, .one (.int .i64 b)), (4, .one (.int .u16 ((s : Nat) : Int))), (10, .one (.bool (decide (((s : Nat) : Int) < ((1 : Int) * 2 ^ (Int.toNat n))))))], [(101, .box 1 2 [(.int .i64 n), (.ro (.arcs es))])]⟩ hT (by kernel_rfl) ⟨(by decide), (by first | omega | (simp only [lens]; omega) | (simp only [Bool.cond_decide]; omega)), (by first | omega | (simp only [lens]; omega) | (simp only [Bool.cond_decide]; omega)), (by first | omega | (simp only [lens]; omega) | (simp only [Bool.cond_decide]; omega)), trivial⟩ ?_
  refine awp_cond (b := (decide (((s : Nat) : Int) < ((1 : Int) * 2 ^ (Int.toNat n))))) (by kernel_rfl) (fun c3 => ?_) (fun c3 => ?_)
  · -- yes 3
    try simp only [bs] at c3
    have hs9 : s < 2 ^ n.toNat := by omega
    refine awp_skip ?_
    refine awp_seq ?_
    refine awp_block ?_
    refine awp_seq (awp_region ?_)
    refine aops_run 2 [1, 3, 4, 13, 14] [101] [(0 < 1)] ⟨25, [(1, .one (.ptr 101 0 0)), (3, .one (.int .i64 b)), (4, .one (.int .u16 ((s : Nat) : Int))), (13, .agg [(.int .i64 n), (.ro (.arcs es))]), (14, .one (.int .u16 ((s : Nat) : Int)))], [(101, .box 1 2 [(.int .i64 n), (.ro (.arcs es))])]⟩ hT (by kernel_rfl) (by kernel_rfl) ⟨(by decide), trivial⟩ ?_
    refine aops_pure false ⟨true, [], 24, [.agg [(.int .i64 n), (.ro (.arcs es))], .one (.int .u16 ((s : Nat) : Int))], []⟩ [.agg [(.int .i64 n), (.ro (.arcs es))], .one (.int .u16 ((s : Nat) : Int))] (.one (.int .i64 (cutP (has ((s : Nat) : Int)) es))) ⟨25, [(1, .one (.ptr 101 0 0)), (3, .one (.int .i64 b)), (4, .one (.int .u16 ((s : Nat) : Int))), (13, .agg [(.int .i64 n), (.ro (.arcs es))]), (14, .one (.int .u16 ((s : Nat) : Int))), (15, .one (.int .i64 (cutP (has ((s : Nat) : Int)) es)))], [(101, .box 1 2 [(.int .i64 n), (.ro (.arcs es))])]⟩ (by kernel_rfl) (by kernel_rfl) (fun _ => trivial) rfl (fun _ => ref_between n es ((s : Nat) : Int) hG (by omega) (by omega)) ?_
    refine aops_run 1 [1, 3, 4, 5] [101] [] ⟨25, [(1, .one (.ptr 101 0 0)), (3, .one (.int .i64 b)), (4, .one (.int .u16 ((s : Nat) : Int))), (5, .one (.int .i64 (cutP (has ((s : Nat) : Int)) es)))], [(101, .box 1 2 [(.int .i64 n), (.ro (.arcs es))])]⟩ hT (by kernel_rfl) (by kernel_rfl) trivial ?_
    refine aops_end_seq (by kernel_rfl) ?_
    refine awp_run_seq [1, 3, 4, 5, 22] [101] [((!(decide (b < 0))) = true → ((!(decide (b < 0))) = true → (!(decide (b < 0))) = true)), ((!(decide (b < 0))) = true → ((!(decide (b < 0))) = true → (!(decide (b < 0))) = true)), ((!(decide (b < 0))) = true → (!(decide (b < 0))) = true)] ⟨25, [(1, .one (.ptr 101 0 0)), (3, .one (.int .i64 b)), (4, .one (.int .u16 ((s : Nat) : Int))), (5, .one (.int .i64 (cutP (has ((s : Nat) : Int)) es))), (22, .one (.bool ((decide (b < 0)) || (decide ((cutP (has ((s : Nat) : Int)) es) < b)))))], [(101, .box 1 2 [(.int .i64 n), (.ro (.arcs es))])]⟩ hT (by kernel_rfl) ⟨(by intro hg; first | exact hg | skip; (try simp only [bs] at hg ⊢); first | exact hg | first | omega | (simp only [lens]; omega) | (simp only [Bool.cond_decide]; omega) | grind), (by intro hg; first | exact hg | skip; (try simp only [bs] at hg ⊢); first | exact hg | first | omega | (simp only [lens]; omega) | (simp only [Bool.cond_decide]; omega) | grind), (fun h => h), trivial⟩ ?_
    refine awp_cond (b := ((decide (b < 0)) || (decide ((cutP (has ((s : Nat) : Int)) es) < b)))) (by kernel_rfl) (fun c6 => ?_) (fun c6 => ?_)
    · -- yes 6
      try simp only [bs] at c6
      have hAn := hA.step hG hs9 (b2 := (cutP (has ((s : Nat) : Int)) es)) (.inl ⟨rfl, c6⟩)
      refine awp_run [1, 3, 4] [101] [] ⟨25, [(1, .one (.ptr 101 0 0)), (3, .one (.int .i64 (cutP (has ((s : Nat) : Int)) es))), (4, .one (.int .u16 ((s : Nat) : Int)))], [(101, .box 1 2 [(.int .i64 n), (.ro (.arcs es))])]⟩ hT (by kernel_rfl) trivial ?_
      refine awp_run [1, 3, 4] [101] [(0 ≤ (((s + 2) : Nat) : Int) ∧ (((s + 2) : Nat) : Int) ≤ 65535)] ⟨25, [(1, .one (.ptr 101 0 0)), (3, .one (.int .i64 (cutP (has ((s : Nat) : Int)) es))), (4, .one (.int .u16 (((s + 2) : Nat) : Int)))], [(101, .box 1 2 [(.int .i64 n), (.ro (.arcs es))])]⟩ hT (by kernel_rfl) ⟨(by first | omega | (simp only [lens]; omega) | (simp only [Bool.cond_decide]; omega)), trivial⟩ ?_
      refine loop_end _ ?_ ⟨(s + 2), (cutP (has ((s : Nat) : Int)) es), ⟨(by exact hAn), rfl⟩, (by kernel_rfl)⟩
      omega
    · -- no 6
      try simp only [bs] at c6
      have hAn := hA.step hG hs9 (b2 := b) (.inr ⟨rfl, by omega, by omega⟩)
      refine awp_skip ?_
      refine awp_run [1, 3, 4] [101] [(0 ≤ (((s + 2) : Nat) : Int) ∧ (((s + 2) : Nat) : Int) ≤ 65535)] ⟨25, [(1, .one (.ptr 101 0 0)), (3, .one (.int .i64 b)), (4, .one (.int .u16 (((s + 2) : Nat) : Int)))], [(101, .box 1 2 [(.int .i64 n), (.ro (.arcs es))])]⟩ hT (by kernel_rfl) ⟨(by first | omega | (simp only [lens]; omega) | (simp only [Bool.cond_decide]; omega)), trivial⟩ ?_
      refine loop_end _ ?_ ⟨(s + 2), b, ⟨(by exact hAn), rfl⟩, (by kernel_rfl)⟩
      omega
  · -- no 3
    try simp only [bs] at c3
    refine awp_exit ?_
    refine awp_run_seq [2] [] [] ⟨25, [(2, .one (.int .i64 b))], []⟩ hT (by kernel_rfl) trivial ?_
    refine awp_ret ?_
    refine kRet.ret _ [] [] (.one (.int .i64 b)) [] (by kernel_rfl) trivial ?_
    exact ⟨b, (by exact ⟨s, by omega, hA⟩), (by kernel_rfl), (by kernel_rfl)⟩

end Go.Ab
