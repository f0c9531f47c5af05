/- Of pairs of any: the odd parts, in the reference. -/
import Derived.Test.YtglkldhjffnhhaaTab
import Derived.Test.YtglkldhjffnhhaaWays2
import Derived.Test.YtglkldhjffnhhaaPlMate7
set_option maxRecDepth 100000
namespace Go.Ab
open Go Go.Proofs
theorem ref_ones9 (z : Int) (h0 : 0 ≤ z) (h1 : z < 512) : ACall Try.prog 67 [.one (.int .i64 z)] [] (fun ov oh => ov = .one (.int .i64 (((many z 9) : Nat) : Int)) ∧ oh = []) := by
  refine acall_intro hT Try.func67 rfl (by kernel_rfl) rfl (by kernel_rfl) ?_
  refine awp_run_seq [0] [] [] ⟨16, [(0, .one (.int .i64 z))], []⟩ hT (by kernel_rfl) trivial ?_
  refine awp_run_seq [0, 3] [] [] ⟨16, [(0, .one (.int .i64 z)), (3, .one (.int .i64 0))], []⟩ hT (by kernel_rfl) trivial ?_
  refine awp_seq ?_
  refine awp_run_seq [0, 3, 5] [] [] ⟨16, [(0, .one (.int .i64 z)), (3, .one (.int .i64 0)), (5, .one (.int .i64 0))], []⟩ hT (by kernel_rfl) trivial ?_
  refine awp_block ?_
  refine awp_loop (I := fun κ σ => ∃ (k : Nat) (o : Int), ((k ≤ 16) ∧ (o = ((many z k : Nat) : Int)) ∧ 16 - k = κ) ∧ σ = ⟨16, [(0, .one (.int .i64 z)), (3, .one (.int .i64 o)), (5, .one (.int .i64 ((k : Nat) : Int)))], []⟩) _ ⟨0, 0, ⟨(by omega), (by rfl), rfl⟩, (by kernel_rfl)⟩ ?_
  rintro κ _ ⟨k, o, ⟨hk, ho, rfl⟩, rfl⟩
  have hml := many_le z k
  refine awp_run_seq [0, 3, 5, 6] [] [] ⟨16, [(0, .one (.int .i64 z)), (3, .one (.int .i64 o)), (5, .one (.int .i64 ((k : Nat) : Int))), (6, .one (.bool (decide (((k : Nat) : Int) < 16))))], []⟩ hT (by kernel_rfl) trivial ?_
  refine awp_seq ?_
  refine awp_cond (b := (decide (((k : Nat) : Int) < 16))) (by kernel_rfl) (fun c3 => ?_) (fun c3 => ?_)
  · -- yes 3
    try simp only [bs] at c3
    have hst := many_step9 h0 k
    have hm2 := many_le z (k + 1)
    have hq := shr9 h0 (by omega) k
    refine awp_skip ?_
    refine awp_seq ?_
    refine awp_block ?_
    refine awp_run_seq [0, 3, 4, 5] [] [] ⟨16, [(0, .one (.int .i64 z)), (3, .one (.int .i64 o)), (4, .one (.int .i64 ((k : Nat) : Int))), (5, .one (.int .i64 ((k : Nat) : Int)))], []⟩ hT (by kernel_rfl) trivial ?_
    refine awp_run [0, 3, 5] [] [((0 : Int) ≤ ((k : Nat) : Int)), (((k : Nat) : Int) ≤ 64), ((0 : Int) ≤ (z / 2 ^ k) ∧ (-9223372036854775808 ≤ (z / 2 ^ k) ∧ (z / 2 ^ k) ≤ 9223372036854775807)), ((0 : Int) ≤ 1 ∧ (-9223372036854775808 ≤ (1 : Int) ∧ (1 : Int) ≤ 9223372036854775807)), (-9223372036854775808 ≤ (o + (iand (z / 2 ^ k) 1)) ∧ (o + (iand (z / 2 ^ k) 1)) ≤ 9223372036854775807)] ⟨16, [(0, .one (.int .i64 z)), (3, .one (.int .i64 (o + (iand (z / 2 ^ k) 1)))), (5, .one (.int .i64 ((k : Nat) : Int)))], []⟩ hT (by kernel_rfl) ⟨(by first | omega | (simp only [lens]; omega) | (simp only [Bool.cond_decide]; omega) | (simp only [nadd_eq]; omega)), (by first | omega | (simp only [lens]; omega) | (simp only [Bool.cond_decide]; omega) | (simp only [nadd_eq]; omega)), (by first | omega | (simp only [lens]; omega) | (simp only [Bool.cond_decide]; omega) | (simp only [nadd_eq]; omega)), (by first | omega | (simp only [lens]; omega) | (simp only [Bool.cond_decide]; omega) | (simp only [nadd_eq]; omega)), (by first | omega | (simp only [lens]; omega) | (simp only [Bool.cond_decide]; omega) | (simp only [nadd_eq]; omega)), trivial⟩ ?_
    refine awp_run [0, 3, 5] [] [(-9223372036854775808 ≤ (((k + 1) : Nat) : Int) ∧ (((k + 1) : Nat) : Int) ≤ 9223372036854775807)] ⟨16, [(0, .one (.int .i64 z)), (3, .one (.int .i64 (o + (iand (z / 2 ^ k) 1)))), (5, .one (.int .i64 (((k + 1) : Nat) : Int)))], []⟩ hT (by kernel_rfl) ⟨(by first | omega | (simp only [lens]; omega) | (simp only [Bool.cond_decide]; omega) | (simp only [nadd_eq]; omega)), trivial⟩ ?_
    refine loop_end _ ?_ ⟨(k + 1), (o + (iand (z / 2 ^ k) 1)), ⟨(by omega), (by rw [hst, ho]), rfl⟩, (by kernel_rfl)⟩
    omega
  · -- no 3
    try simp only [bs] at c3
    have hc := many_16 h0 h1
    refine awp_exit ?_
    refine awp_run_seq [2] [] [] ⟨16, [(2, .one (.int .i64 o))], []⟩ hT (by kernel_rfl) trivial ?_
    refine awp_ret ?_
    refine kRet.ret _ [] [] (.one (.int .i64 o)) [] (by kernel_rfl) trivial ?_
    exact ⟨congrArg (fun x1 => (.one (.int .i64 x1) : AV)) (show o = (((many z 9) : Nat) : Int) from by rw [ho, show k = 16 by omega, hc]), rfl⟩

theorem ref_odd (n : Int) (es : List Arc) (z : Int) (hE : poolErr n es = 0) (hz0 : 0 ≤ z) (hz1 : z < ((2 ^ n.toNat : Nat) : Int)) : ACall Try.prog 102 [.agg [(.int .i64 n), (.ro (.arcs es))], .one (.int .i64 z)] [] (fun ov oh => ov = .one (.int .i64 (((oddZ n es z) : Nat) : Int)) ∧ oh = []) := by
  refine acall_intro hT Try.func102 rfl (by kernel_rfl) rfl (by kernel_rfl) ?_
  obtain ⟨hG, h9⟩ := pool_ok hE
  have h1 := hG.n1
  have hA := hG.inR
  have hle := hG.len
  have h512 := pow512 (n := n) (by omega) (by omega)
  have h12 : n ≤ 12 := by omega
  refine awp_run_seq [1, 2] [102] [] ⟨78, [(1, .one (.int .i64 z)), (2, .one (.ptr 102 0 0))], [(102, .box 1 2 [(.int .i64 n), (.ro (.arcs es))])]⟩ hT (by kernel_rfl) trivial ?_
  refine awp_run_seq [1, 2, 5] [102, 105] [(0 < 1), (0 < 1)] ⟨78, [(1, .one (.int .i64 z)), (2, .one (.ptr 102 0 0)), (5, .one (.ptr 105 0 0))], [(102, .box 1 2 [(.int .i64 n), (.ro (.arcs es))]), (105, .box 1 2 [(.int .i64 n), .nils])]⟩ hT (by kernel_rfl) ⟨(by decide), (by decide), trivial⟩ ?_
  refine awp_seq ?_
  refine awp_run_seq [1, 2, 5, 18, 19, 20] [102, 105] [(0 < 1)] ⟨78, [(1, .one (.int .i64 z)), (2, .one (.ptr 102 0 0)), (5, .one (.ptr 105 0 0)), (18, .one (.ro (.arcs es))), (19, .one (.int .i64 ((es.length : Nat) : Int))), (20, .one (.int .i64 0))], [(102, .box 1 2 [(.int .i64 n), (.ro (.arcs es))]), (105, .box 1 2 [(.int .i64 n), .nils])]⟩ hT (by kernel_rfl) ⟨(by decide), trivial⟩ ?_
  refine awp_block ?_
  refine awp_weak (awk_empty 6501 (.flat (.arcs [])) rfl (by decide) _) ?_
  refine awp_weak (awk_boxcell 105 1 1 2 [(.int .i64 n), .nils] .nils (.rw 6501 0 0) _ (by kernel_rfl) rfl (wkv_nils (o := .flat (.arcs [])) (by kernel_rfl))) ?_
  refine awp_loop (I := fun κ σ => ∃ (i : Nat) (A : List Arc), ((i ≤ es.length) ∧ (A = keptZ (es.take i) z) ∧ es.length - i = κ) ∧ σ = ⟨78, [(1, .one (.int .i64 z)), (2, .one (.ptr 102 0 0)), (5, .one (.ptr 105 0 0)), (18, .one (.ro (.arcs es))), (19, .one (.int .i64 ((es.length : Nat) : Int))), (20, .one (.int .i64 ((i : Nat) : Int)))], [(102, .box 1 2 [(.int .i64 n), (.ro (.arcs es))]), (105, .box 1 2 [(.int .i64 n), (.rw 6501 0 A.length)]), (6501, .flat (.arcs A))]⟩) _ ⟨0, [], ⟨(by omega), (by rfl), rfl⟩, (by kernel_rfl)⟩ ?_
  rintro κ _ ⟨i, A, ⟨hi, hAe, rfl⟩, rfl⟩
  have hAl : A.length ≤ es.length := by rw [hAe]; unfold keptZ; exact Nat.le_trans (List.length_filter_le _ _) (by rw [List.length_take]; omega)
  refine awp_run_seq [1, 2, 5, 18, 19, 20, 21] [102, 105, 6501] [] ⟨78, [(1, .one (.int .i64 z)), (2, .one (.ptr 102 0 0)), (5, .one (.ptr 105 0 0)), (18, .one (.ro (.arcs es))), (19, .one (.int .i64 ((es.length : Nat) : Int))), (20, .one (.int .i64 ((i : Nat) : Int))), (21, .one (.bool (decide (((i : Nat) : Int) < ((es.length : Nat) : Int)))))], [(102, .box 1 2 [(.int .i64 n), (.ro (.arcs es))]), (105, .box 1 2 [(.int .i64 n), (.rw 6501 0 A.length)]), (6501, .flat (.arcs A))]⟩ hT (by kernel_rfl) trivial ?_
  refine awp_seq ?_
  refine awp_cond (b := (decide (((i : Nat) : Int) < ((es.length : Nat) : Int)))) (by kernel_rfl) (fun c3 => ?_) (fun c3 => ?_)
  · -- yes 3
    try simp only [bs] at c3
    have hil : i < es.length := by omega
    obtain ⟨b1, b2, b3, b4⟩ := hA _ (getD_mem (d := default) hil)
    have hq1 := shr9 (z := z) (by omega) (by omega) (es.getD i default).src.toNat
    have hq2 := shr9 (z := z) (by omega) (by omega) (es.getD i default).dst.toNat
    have hkt := kept_take (z := z) hil
    refine awp_skip ?_
    refine awp_seq ?_
    refine awp_block ?_
    refine awp_run_seq [1, 2, 5, 7, 18, 19, 20] [102, 105, 107, 6501] [((0 : Int) ≤ ((i : Nat) : Int)), (((i : Nat) : Int) < ((es.length : Nat) : Int)), (0 < 1)] ⟨78, [(1, .one (.int .i64 z)), (2, .one (.ptr 102 0 0)), (5, .one (.ptr 105 0 0)), (7, .one (.ptr 107 0 0)), (18, .one (.ro (.arcs es))), (19, .one (.int .i64 ((es.length : Nat) : Int))), (20, .one (.int .i64 ((i : Nat) : Int)))], [(102, .box 1 2 [(.int .i64 n), (.ro (.arcs es))]), (105, .box 1 2 [(.int .i64 n), (.rw 6501 0 A.length)]), (107, .box 1 3 [(.int .i64 ((List.getD es i default).src)), (.int .i64 ((List.getD es i default).dst)), (.int .i64 ((List.getD es i default).cap))]), (6501, .flat (.arcs A))]⟩ hT (by kernel_rfl) ⟨(by first | omega | (simp only [lens]; omega) | (simp only [lens]; done) | (simp only [nadd_eq]; omega) | (simp; done)), (by first | omega | (simp only [lens]; omega) | (simp only [lens]; done) | (simp only [nadd_eq]; omega) | (simp; done)), (by decide), trivial⟩ ?_
    refine awp_run_seq [1, 2, 5, 7, 18, 19, 20, 37] [102, 105, 107, 6501] [(0 < 1), ((0 : Int) ≤ ((List.getD es i default).src)), (((List.getD es i default).src) ≤ 64), ((0 : Int) ≤ (z / 2 ^ (Int.toNat ((List.getD es i default).src))) ∧ (-9223372036854775808 ≤ (z / 2 ^ (Int.toNat ((List.getD es i default).src))) ∧ (z / 2 ^ (Int.toNat ((List.getD es i default).src))) ≤ 9223372036854775807)), ((0 : Int) ≤ 1 ∧ (-9223372036854775808 ≤ (1 : Int) ∧ (1 : Int) ≤ 9223372036854775807)), ((decide ((iand (z / 2 ^ (Int.toNat ((List.getD es i default).src))) 1) = 0)) = true → ((decide ((iand (z / 2 ^ (Int.toNat ((List.getD es i default).src))) 1) = 0)) = true → (decide ((iand (z / 2 ^ (Int.toNat ((List.getD es i default).src))) 1) = 0)) = true)), ((decide ((iand (z / 2 ^ (Int.toNat ((List.getD es i default).src))) 1) = 0)) = true → (0 < 1)), ((decide ((iand (z / 2 ^ (Int.toNat ((List.getD es i default).src))) 1) = 0)) = true → ((decide ((iand (z / 2 ^ (Int.toNat ((List.getD es i default).src))) 1) = 0)) = true → (decide ((iand (z / 2 ^ (Int.toNat ((List.getD es i default).src))) 1) = 0)) = true)), ((decide ((iand (z / 2 ^ (Int.toNat ((List.getD es i default).src))) 1) = 0)) = true → ((decide ((iand (z / 2 ^ (Int.toNat ((List.getD es i default).src))) 1) = 0)) = true → (decide ((iand (z / 2 ^ (Int.toNat ((List.getD es i default).src))) 1) = 0)) = true)), ((decide ((iand (z / 2 ^ (Int.toNat ((List.getD es i default).src))) 1) = 0)) = true → ((0 : Int) ≤ ((List.getD es i default).dst))), ((decide ((iand (z / 2 ^ (Int.toNat ((List.getD es i default).src))) 1) = 0)) = true → (((List.getD es i default).dst) ≤ 64)), ((decide ((iand (z / 2 ^ (Int.toNat ((List.getD es i default).src))) 1) = 0)) = true → ((decide ((iand (z / 2 ^ (Int.toNat ((List.getD es i default).src))) 1) = 0)) = true → (decide ((iand (z / 2 ^ (Int.toNat ((List.getD es i default).src))) 1) = 0)) = true)), ((decide ((iand (z / 2 ^ (Int.toNat ((List.getD es i default).src))) 1) = 0)) = true → ((0 : Int) ≤ (z / 2 ^ (Int.toNat ((List.getD es i default).dst))) ∧ (-9223372036854775808 ≤ (z / 2 ^ (Int.toNat ((List.getD es i default).dst))) ∧ (z / 2 ^ (Int.toNat ((List.getD es i default).dst))) ≤ 9223372036854775807))), ((decide ((iand (z / 2 ^ (Int.toNat ((List.getD es i default).src))) 1) = 0)) = true → ((0 : Int) ≤ 1 ∧ (-9223372036854775808 ≤ (1 : Int) ∧ (1 : Int) ≤ 9223372036854775807))), ((decide ((iand (z / 2 ^ (Int.toNat ((List.getD es i default).src))) 1) = 0)) = true → ((decide ((iand (z / 2 ^ (Int.toNat ((List.getD es i default).src))) 1) = 0)) = true → (decide ((iand (z / 2 ^ (Int.toNat ((List.getD es i default).src))) 1) = 0)) = true)), ((decide ((iand (z / 2 ^ (Int.toNat ((List.getD es i default).src))) 1) = 0)) = true → (decide ((iand (z / 2 ^ (Int.toNat ((List.getD es i default).src))) 1) = 0)) = true)] ⟨78, [(1, .one (.int .i64 z)), (2, .one (.ptr 102 0 0)), (5, .one (.ptr 105 0 0)), (7, .one (.ptr 107 0 0)), (18, .one (.ro (.arcs es))), (19, .one (.int .i64 ((es.length : Nat) : Int))), (20, .one (.int .i64 ((i : Nat) : Int))), (37, .one (.bool ((decide ((iand (z / 2 ^ (Int.toNat ((List.getD es i default).src))) 1) = 0)) && (decide ((iand (z / 2 ^ (Int.toNat ((List.getD es i default).dst))) 1) = 0)))))], [(102, .box 1 2 [(.int .i64 n), (.ro (.arcs es))]), (105, .box 1 2 [(.int .i64 n), (.rw 6501 0 A.length)]), (107, .box 1 3 [(.int .i64 ((List.getD es i default).src)), (.int .i64 ((List.getD es i default).dst)), (.int .i64 ((List.getD es i default).cap))]), (6501, .flat (.arcs A))]⟩ hT (by kernel_rfl) ⟨(by decide), (by first | omega | (simp only [lens]; omega) | (simp only [lens]; done) | (simp only [nadd_eq]; omega) | (simp; done)), (by first | omega | (simp only [lens]; omega) | (simp only [lens]; done) | (simp only [nadd_eq]; omega) | (simp; done)), (by first | omega | (simp only [lens]; omega) | (simp only [lens]; done) | (simp only [nadd_eq]; omega) | (simp; done)), (by first | omega | (simp only [lens]; omega) | (simp only [lens]; done) | (simp only [nadd_eq]; omega) | (simp; done)), (by intro hg; first | exact hg | skip; (try simp only [bs] at hg ⊢); first | exact hg | first | omega | (simp only [lens]; omega) | (simp only [lens]; done) | (simp only [nadd_eq]; omega) | (simp; done) | grind), (by intro hg; first | exact hg | skip; (try simp only [bs] at hg); first | exact hg | first | omega | (simp only [lens]; omega) | (simp only [lens]; done) | (simp only [nadd_eq]; omega) | (simp; done) | grind), (by intro hg; first | exact hg | skip; (try simp only [bs] at hg ⊢); first | exact hg | first | omega | (simp only [lens]; omega) | (simp only [lens]; done) | (simp only [nadd_eq]; omega) | (simp; done) | grind), (by intro hg; first | exact hg | skip; (try simp only [bs] at hg ⊢); first | exact hg | first | omega | (simp only [lens]; omega) | (simp only [lens]; done) | (simp only [nadd_eq]; omega) | (simp; done) | grind), (by intro hg; first | exact hg | skip; (try simp only [bs] at hg); first | exact hg | first | omega | (simp only [lens]; omega) | (simp only [lens]; done) | (simp only [nadd_eq]; omega) | (simp; done) | grind), (by intro hg; first | exact hg | skip; (try simp only [bs] at hg); first | exact hg | first | omega | (simp only [lens]; omega) | (simp only [lens]; done) | (simp only [nadd_eq]; omega) | (simp; done) | grind), (by intro hg; first | exact hg | skip; (try simp only [bs] at hg ⊢); first | exact hg | first | omega | (simp only [lens]; omega) | (simp only [lens]; done) | (simp only [nadd_eq]; omega) | (simp; done) | grind), (by intro hg; first | exact hg | skip; (try simp only [bs] at hg); first | exact hg | first | omega | (simp only [lens]; omega) | (simp only [lens]; done) | (simp only [nadd_eq]; omega) | (simp; done) | grind), (by intro hg; first | exact hg | skip; (try simp only [bs] at hg); first | exact hg | first | omega | (simp only [lens]; omega) | (simp only [lens]; done) | (simp only [nadd_eq]; omega) | (simp; done) | grind), (by intro hg; first | exact hg | skip; (try simp only [bs] at hg ⊢); first | exact hg | first | omega | (simp only [lens]; omega) | (simp only [lens]; done) | (simp only [nadd_eq]; omega) | (simp; done) | grind), (fun h => h), trivial⟩ ?_
    refine awp_cond (b := ((decide ((iand (z / 2 ^ (Int.toNat ((List.getD es i default).src))) 1) = 0)) && (decide ((iand (z / 2 ^ (Int.toNat ((List.getD es i default).dst))) 1) = 0)))) (by kernel_rfl) (fun c5 => ?_) (fun c5 => ?_)
    · -- yes 5
      try simp only [bs] at c5
      have hy5 : A ++ [(es.getD i default)] = keptZ (es.take (i + 1)) z := by rw [hkt, if_pos (by unfold outB; rw [bit_no9 hz0 c5.1, bit_no9 hz0 c5.2]; rfl), hAe]
      refine awp_region ?_
      refine aops_run 7 [1, 2, 5, 18, 19, 20] [102, 105, 6501] [(0 < 1), (0 < 1), (A.length = A.length), ((A.length + 1) * 24 ≤ 140737488355328), ((A.length + 1) ≤ 9223372036854775807), (0 < 1)] ⟨78, [(1, .one (.int .i64 z)), (2, .one (.ptr 102 0 0)), (5, .one (.ptr 105 0 0)), (18, .one (.ro (.arcs es))), (19, .one (.int .i64 ((es.length : Nat) : Int))), (20, .one (.int .i64 ((i : Nat) : Int)))], [(102, .box 1 2 [(.int .i64 n), (.ro (.arcs es))]), (105, .box 1 2 [(.int .i64 n), (.rw 6501 0 (A.length + 1))]), (6501, .flat (.arcs (A ++ [⟨((List.getD es i default).src), ((List.getD es i default).dst), ((List.getD es i default).cap)⟩])))]⟩ hT (by kernel_rfl) (by kernel_rfl) ⟨(by decide), (by decide), (by first | omega | (simp only [lens]; omega) | (simp only [lens]; done) | (simp only [nadd_eq]; omega) | (simp; done)), (by first | omega | (simp only [lens]; omega) | (simp only [lens]; done) | (simp only [nadd_eq]; omega) | (simp; done)), (by first | omega | (simp only [lens]; omega) | (simp only [lens]; done) | (simp only [nadd_eq]; omega) | (simp; done)), (by decide), trivial⟩ ?_
      refine aops_end (by kernel_rfl) ?_
      refine awp_run [1, 2, 5, 18, 19, 20] [102, 105, 6501] [(-9223372036854775808 ≤ (((i + 1) : Nat) : Int) ∧ (((i + 1) : Nat) : Int) ≤ 9223372036854775807)] ⟨78, [(1, .one (.int .i64 z)), (2, .one (.ptr 102 0 0)), (5, .one (.ptr 105 0 0)), (18, .one (.ro (.arcs es))), (19, .one (.int .i64 ((es.length : Nat) : Int))), (20, .one (.int .i64 (((i + 1) : Nat) : Int)))], [(102, .box 1 2 [(.int .i64 n), (.ro (.arcs es))]), (105, .box 1 2 [(.int .i64 n), (.rw 6501 0 (A.length + 1))]), (6501, .flat (.arcs (A ++ [⟨((List.getD es i default).src), ((List.getD es i default).dst), ((List.getD es i default).cap)⟩])))]⟩ hT (by kernel_rfl) ⟨(by first | omega | (simp only [lens]; omega) | (simp only [lens]; done) | (simp only [nadd_eq]; omega) | (simp; done)), trivial⟩ ?_
      refine loop_end _ ?_ ⟨(i + 1), (A ++ [⟨((List.getD es i default).src), ((List.getD es i default).dst), ((List.getD es i default).cap)⟩]), ⟨(by omega), (by first | exact hy5 | exact hn5), rfl⟩, (by first | (simp only [lens]; done) | (simp only [Nat.zero_add]; done) | simp only [lens, Nat.zero_add])⟩
      omega
    · -- no 5
      try simp only [bs] at c5
      have hn5 : A = keptZ (es.take (i + 1)) z := by
        rw [hkt, if_neg (fun q => ?_), hAe, List.append_nil]
        unfold outB at q
        rw [Bool.and_eq_true, Bool.not_eq_true', Bool.not_eq_true'] at q
        rw [bit_9 hz0, bit_9 hz0, if_neg (by rw [q.1]; decide), if_neg (by rw [q.2]; decide)] at c5
        first | exact c5 ⟨rfl, rfl⟩ | (rcases c5 with w | w; exact w rfl; exact w rfl) | simp at c5
      refine awp_skip ?_
      refine awp_run [1, 2, 5, 18, 19, 20] [102, 105, 6501] [(-9223372036854775808 ≤ (((i + 1) : Nat) : Int) ∧ (((i + 1) : Nat) : Int) ≤ 9223372036854775807)] ⟨78, [(1, .one (.int .i64 z)), (2, .one (.ptr 102 0 0)), (5, .one (.ptr 105 0 0)), (18, .one (.ro (.arcs es))), (19, .one (.int .i64 ((es.length : Nat) : Int))), (20, .one (.int .i64 (((i + 1) : Nat) : Int)))], [(102, .box 1 2 [(.int .i64 n), (.ro (.arcs es))]), (105, .box 1 2 [(.int .i64 n), (.rw 6501 0 A.length)]), (6501, .flat (.arcs A))]⟩ hT (by kernel_rfl) ⟨(by first | omega | (simp only [lens]; omega) | (simp only [lens]; done) | (simp only [nadd_eq]; omega) | (simp; done)), trivial⟩ ?_
      refine loop_end _ ?_ ⟨(i + 1), A, ⟨(by omega), (by first | exact hy5 | exact hn5), rfl⟩, (by kernel_rfl)⟩
      omega
  · -- no 3
    try simp only [bs] at c3
    have hAf : A = (keptZ es z) := by rw [hAe]; exact kept_all (by omega)
    have hKA : InR n A := by rw [hAf]; exact kept_inR hA z
    refine awp_exit ?_
    refine awp_weak (awk_seal 6501 (s' := ⟨78, [(1, .one (.int .i64 z)), (2, .one (.ptr 102 0 0)), (5, .one (.ptr 105 0 0)), (18, .one (.ro (.arcs es))), (19, .one (.int .i64 ((es.length : Nat) : Int))), (20, .one (.int .i64 ((i : Nat) : Int))), (21, .one (.bool (decide (((i : Nat) : Int) < ((es.length : Nat) : Int)))))], [(102, .box 1 2 [(.int .i64 n), (.ro (.arcs es))]), (105, .box 1 2 [(.int .i64 n), (.ro (.arcs (List.take A.length A)))])]⟩) (by kernel_rfl)) ?_
    rw [show (List.take A.length A) = A from List.take_of_length_le (by first | omega | simp)]
    refine awp_run_seq [1, 2, 5, 8] [102, 105] [] ⟨78, [(1, .one (.int .i64 z)), (2, .one (.ptr 102 0 0)), (5, .one (.ptr 105 0 0)), (8, .one (.int .i64 0))], [(102, .box 1 2 [(.int .i64 n), (.ro (.arcs es))]), (105, .box 1 2 [(.int .i64 n), (.ro (.arcs A))])]⟩ hT (by kernel_rfl) trivial ?_
    refine awp_seq (awp_region ?_)
    refine aops_run 1 [1, 2, 8, 45] [102] [(0 < 1)] ⟨78, [(1, .one (.int .i64 z)), (2, .one (.ptr 102 0 0)), (8, .one (.int .i64 0)), (45, .agg [(.int .i64 n), (.ro (.arcs A))])], [(102, .box 1 2 [(.int .i64 n), (.ro (.arcs es))])]⟩ hT (by kernel_rfl) (by kernel_rfl) ⟨(by decide), trivial⟩ ?_
    refine aops_pure false ⟨true, [], 114, [.agg [(.int .i64 n), (.ro (.arcs A))]], []⟩ [.agg [(.int .i64 n), (.ro (.arcs A))]] (.one (.ro (.ints .i64 (joinedOf n A)))) ⟨78, [(1, .one (.int .i64 z)), (2, .one (.ptr 102 0 0)), (8, .one (.int .i64 0)), (45, .agg [(.int .i64 n), (.ro (.arcs A))]), (46, .one (.ro (.ints .i64 (joinedOf n A))))], [(102, .box 1 2 [(.int .i64 n), (.ro (.arcs es))])]⟩ (by kernel_rfl) (by kernel_rfl) (fun _ => trivial) rfl (fun _ => ref_joined n A (by omega) (by omega) (by omega) (by assumption)) ?_
    refine aops_run 1 [1, 2, 8, 9] [102] [] ⟨78, [(1, .one (.int .i64 z)), (2, .one (.ptr 102 0 0)), (8, .one (.int .i64 0)), (9, .one (.ro (.ints .i64 (joinedOf n A))))], [(102, .box 1 2 [(.int .i64 n), (.ro (.arcs es))])]⟩ hT (by kernel_rfl) (by kernel_rfl) trivial ?_
    refine aops_end_seq (by kernel_rfl) ?_
    refine awp_seq ?_
    refine awp_run_seq [1, 8, 9, 48, 49] [] [(0 < 1)] ⟨78, [(1, .one (.int .i64 z)), (8, .one (.int .i64 0)), (9, .one (.ro (.ints .i64 (joinedOf n A)))), (48, .one (.int .i64 n)), (49, .one (.int .i64 0))], []⟩ hT (by kernel_rfl) ⟨(by decide), trivial⟩ ?_
    refine awp_block ?_
    refine awp_loop (I := fun κ σ => ∃ (k : Nat) (o : Int), ((k ≤ n.toNat) ∧ (o = ((sumOdd n es z k : Nat) : Int)) ∧ n.toNat - k = κ) ∧ σ = ⟨78, [(1, .one (.int .i64 z)), (8, .one (.int .i64 o)), (9, .one (.ro (.ints .i64 (joinedOf n A)))), (48, .one (.int .i64 n)), (49, .one (.int .i64 ((k : Nat) : Int)))], []⟩) _ ⟨0, 0, ⟨(by omega), (by rfl), rfl⟩, (by kernel_rfl)⟩ ?_
    rintro κ _ ⟨k, o, ⟨hk, ho, rfl⟩, rfl⟩
    have hsl := sumOdd_le n es z k
    have hjl := joinedOf_len n A
    refine awp_run_seq [1, 8, 9, 48, 49, 50] [] [] ⟨78, [(1, .one (.int .i64 z)), (8, .one (.int .i64 o)), (9, .one (.ro (.ints .i64 (joinedOf n A)))), (48, .one (.int .i64 n)), (49, .one (.int .i64 ((k : Nat) : Int))), (50, .one (.bool (decide (((k : Nat) : Int) < n))))], []⟩ hT (by kernel_rfl) trivial ?_
    refine awp_seq ?_
    refine awp_cond (b := (decide (((k : Nat) : Int) < n))) (by kernel_rfl) (fun c11 => ?_) (fun c11 => ?_)
    · -- yes 11
      try simp only [bs] at c11
      refine awp_skip ?_
      refine awp_seq ?_
      refine awp_block ?_
      refine awp_run_seq [1, 8, 9, 10, 48, 49] [] [] ⟨78, [(1, .one (.int .i64 z)), (8, .one (.int .i64 o)), (9, .one (.ro (.ints .i64 (joinedOf n A)))), (10, .one (.int .i64 ((k : Nat) : Int))), (48, .one (.int .i64 n)), (49, .one (.int .i64 ((k : Nat) : Int)))], []⟩ hT (by kernel_rfl) trivial ?_
      refine awp_run_seq [1, 8, 9, 10, 11, 48, 49] [] [] ⟨78, [(1, .one (.int .i64 z)), (8, .one (.int .i64 o)), (9, .one (.ro (.ints .i64 (joinedOf n A)))), (10, .one (.int .i64 ((k : Nat) : Int))), (11, .one (.int .i64 0)), (48, .one (.int .i64 n)), (49, .one (.int .i64 ((k : Nat) : Int)))], []⟩ hT (by kernel_rfl) trivial ?_
      refine awp_seq ?_
      refine awp_run_seq [1, 8, 9, 10, 11, 48, 49, 52, 53, 54] [] [] ⟨78, [(1, .one (.int .i64 z)), (8, .one (.int .i64 o)), (9, .one (.ro (.ints .i64 (joinedOf n A)))), (10, .one (.int .i64 ((k : Nat) : Int))), (11, .one (.int .i64 0)), (48, .one (.int .i64 n)), (49, .one (.int .i64 ((k : Nat) : Int))), (52, .one (.ro (.ints .i64 (joinedOf n A)))), (53, .one (.int .i64 (((List.length (joinedOf n A)) : Nat) : Int))), (54, .one (.int .i64 0))], []⟩ hT (by kernel_rfl) trivial ?_
      refine awp_block ?_
      refine awp_loop (I := fun κ σ => ∃ (i : Nat) (m : Int), ((i ≤ n.toNat) ∧ (m = ((cntK n es z k i : Nat) : Int)) ∧ n.toNat - i = κ) ∧ σ = ⟨78, [(1, .one (.int .i64 z)), (8, .one (.int .i64 o)), (9, .one (.ro (.ints .i64 (joinedOf n A)))), (10, .one (.int .i64 ((k : Nat) : Int))), (11, .one (.int .i64 m)), (48, .one (.int .i64 n)), (49, .one (.int .i64 ((k : Nat) : Int))), (52, .one (.ro (.ints .i64 (joinedOf n A)))), (53, .one (.int .i64 (((List.length (joinedOf n A)) : Nat) : Int))), (54, .one (.int .i64 ((i : Nat) : Int)))], []⟩) _ ⟨0, 0, ⟨(by omega), (by rfl), rfl⟩, (by kernel_rfl)⟩ ?_
      rintro κ _ ⟨i, m, ⟨hi, hm, rfl⟩, rfl⟩
      have hcl := cntK_le n es z k i
      refine awp_run_seq [1, 8, 9, 10, 11, 48, 49, 52, 53, 54, 55] [] [] ⟨78, [(1, .one (.int .i64 z)), (8, .one (.int .i64 o)), (9, .one (.ro (.ints .i64 (joinedOf n A)))), (10, .one (.int .i64 ((k : Nat) : Int))), (11, .one (.int .i64 m)), (48, .one (.int .i64 n)), (49, .one (.int .i64 ((k : Nat) : Int))), (52, .one (.ro (.ints .i64 (joinedOf n A)))), (53, .one (.int .i64 (((List.length (joinedOf n A)) : Nat) : Int))), (54, .one (.int .i64 ((i : Nat) : Int))), (55, .one (.bool (decide (((i : Nat) : Int) < (((List.length (joinedOf n A)) : Nat) : Int)))))], []⟩ hT (by kernel_rfl) trivial ?_
      refine awp_seq ?_
      refine awp_cond (b := (decide (((i : Nat) : Int) < (((List.length (joinedOf n A)) : Nat) : Int)))) (by kernel_rfl) (fun c15 => ?_) (fun c15 => ?_)
      · -- yes 15
        try simp only [bs] at c15
        have hin : i < n.toNat := by omega
        have hjl2 := join_lab (z := z) hA (by omega) h9 hin
        rw [← hAf] at hjl2
        have hq3 := shr9 (z := z) (by omega) (by omega) i
        refine awp_skip ?_
        refine awp_seq ?_
        refine awp_block ?_
        refine awp_run_seq [1, 8, 9, 10, 11, 12, 13, 48, 49, 52, 53, 54] [] [((0 : Int) ≤ ((i : Nat) : Int)), (((i : Nat) : Int) < (((List.length (joinedOf n A)) : Nat) : Int))] ⟨78, [(1, .one (.int .i64 z)), (8, .one (.int .i64 o)), (9, .one (.ro (.ints .i64 (joinedOf n A)))), (10, .one (.int .i64 ((k : Nat) : Int))), (11, .one (.int .i64 m)), (12, .one (.int .i64 ((i : Nat) : Int))), (13, .one (.int .i64 (List.getD (joinedOf n A) i 0))), (48, .one (.int .i64 n)), (49, .one (.int .i64 ((k : Nat) : Int))), (52, .one (.ro (.ints .i64 (joinedOf n A)))), (53, .one (.int .i64 (((List.length (joinedOf n A)) : Nat) : Int))), (54, .one (.int .i64 ((i : Nat) : Int)))], []⟩ hT (by kernel_rfl) ⟨(by first | omega | (simp only [lens]; omega) | (simp only [lens]; done) | (simp only [nadd_eq]; omega) | (simp; done)), (by first | omega | (simp only [lens]; omega) | (simp only [lens]; done) | (simp only [nadd_eq]; omega) | (simp; done)), trivial⟩ ?_
        refine awp_run_seq [1, 8, 9, 10, 11, 48, 49, 52, 53, 54, 68] [] [((decide ((List.getD (joinedOf n A) i 0) = ((k : Nat) : Int))) = true → ((decide ((List.getD (joinedOf n A) i 0) = ((k : Nat) : Int))) = true → (decide ((List.getD (joinedOf n A) i 0) = ((k : Nat) : Int))) = true)), ((decide ((List.getD (joinedOf n A) i 0) = ((k : Nat) : Int))) = true → ((decide ((List.getD (joinedOf n A) i 0) = ((k : Nat) : Int))) = true → (decide ((List.getD (joinedOf n A) i 0) = ((k : Nat) : Int))) = true)), ((decide ((List.getD (joinedOf n A) i 0) = ((k : Nat) : Int))) = true → ((0 : Int) ≤ ((i : Nat) : Int))), ((decide ((List.getD (joinedOf n A) i 0) = ((k : Nat) : Int))) = true → (((i : Nat) : Int) ≤ 64)), ((decide ((List.getD (joinedOf n A) i 0) = ((k : Nat) : Int))) = true → ((decide ((List.getD (joinedOf n A) i 0) = ((k : Nat) : Int))) = true → (decide ((List.getD (joinedOf n A) i 0) = ((k : Nat) : Int))) = true)), ((decide ((List.getD (joinedOf n A) i 0) = ((k : Nat) : Int))) = true → ((0 : Int) ≤ (z / 2 ^ i) ∧ (-9223372036854775808 ≤ (z / 2 ^ i) ∧ (z / 2 ^ i) ≤ 9223372036854775807))), ((decide ((List.getD (joinedOf n A) i 0) = ((k : Nat) : Int))) = true → ((0 : Int) ≤ 1 ∧ (-9223372036854775808 ≤ (1 : Int) ∧ (1 : Int) ≤ 9223372036854775807))), ((decide ((List.getD (joinedOf n A) i 0) = ((k : Nat) : Int))) = true → ((decide ((List.getD (joinedOf n A) i 0) = ((k : Nat) : Int))) = true → (decide ((List.getD (joinedOf n A) i 0) = ((k : Nat) : Int))) = true)), ((decide ((List.getD (joinedOf n A) i 0) = ((k : Nat) : Int))) = true → (decide ((List.getD (joinedOf n A) i 0) = ((k : Nat) : Int))) = true)] ⟨78, [(1, .one (.int .i64 z)), (8, .one (.int .i64 o)), (9, .one (.ro (.ints .i64 (joinedOf n A)))), (10, .one (.int .i64 ((k : Nat) : Int))), (11, .one (.int .i64 m)), (48, .one (.int .i64 n)), (49, .one (.int .i64 ((k : Nat) : Int))), (52, .one (.ro (.ints .i64 (joinedOf n A)))), (53, .one (.int .i64 (((List.length (joinedOf n A)) : Nat) : Int))), (54, .one (.int .i64 ((i : Nat) : Int))), (68, .one (.bool ((decide ((List.getD (joinedOf n A) i 0) = ((k : Nat) : Int))) && (decide ((iand (z / 2 ^ i) 1) = 0)))))], []⟩ hT (by kernel_rfl) ⟨(by intro hg; first | exact hg | skip; (try simp only [bs] at hg ⊢); first | exact hg | first | omega | (simp only [lens]; omega) | (simp only [lens]; done) | (simp only [nadd_eq]; omega) | (simp; done) | grind), (by intro hg; first | exact hg | skip; (try simp only [bs] at hg ⊢); first | exact hg | first | omega | (simp only [lens]; omega) | (simp only [lens]; done) | (simp only [nadd_eq]; omega) | (simp; done) | grind), (by intro hg; first | exact hg | skip; (try simp only [bs] at hg); first | exact hg | first | omega | (simp only [lens]; omega) | (simp only [lens]; done) | (simp only [nadd_eq]; omega) | (simp; done) | grind), (by intro hg; first | exact hg | skip; (try simp only [bs] at hg); first | exact hg | first | omega | (simp only [lens]; omega) | (simp only [lens]; done) | (simp only [nadd_eq]; omega) | (simp; done) | grind), (by intro hg; first | exact hg | skip; (try simp only [bs] at hg ⊢); first | exact hg | first | omega | (simp only [lens]; omega) | (simp only [lens]; done) | (simp only [nadd_eq]; omega) | (simp; done) | grind), (by intro hg; first | exact hg | skip; (try simp only [bs] at hg); first | exact hg | first | omega | (simp only [lens]; omega) | (simp only [lens]; done) | (simp only [nadd_eq]; omega) | (simp; done) | grind), (by intro hg; first | exact hg | skip; (try simp only [bs] at hg); first | exact hg | first | omega | (simp only [lens]; omega) | (simp only [lens]; done) | (simp only [nadd_eq]; omega) | (simp; done) | grind), (by intro hg; first | exact hg | skip; (try simp only [bs] at hg ⊢); first | exact hg | first | omega | (simp only [lens]; omega) | (simp only [lens]; done) | (simp only [nadd_eq]; omega) | (simp; done) | grind), (fun h => h), trivial⟩ ?_
        refine awp_cond (b := ((decide ((List.getD (joinedOf n A) i 0) = ((k : Nat) : Int))) && (decide ((iand (z / 2 ^ i) 1) = 0)))) (by kernel_rfl) (fun c17 => ?_) (fun c17 => ?_)
        · -- yes 17
          try simp only [bs] at c17
          have hcy := cntK_yes (es := es) (x := k) hin (by have q := c17.1; omega) (bit_no9 hz0 c17.2)
          refine awp_run [1, 8, 9, 10, 11, 48, 49, 52, 53, 54] [] [(-9223372036854775808 ≤ (m + 1) ∧ (m + 1) ≤ 9223372036854775807)] ⟨78, [(1, .one (.int .i64 z)), (8, .one (.int .i64 o)), (9, .one (.ro (.ints .i64 (joinedOf n A)))), (10, .one (.int .i64 ((k : Nat) : Int))), (11, .one (.int .i64 (m + 1))), (48, .one (.int .i64 n)), (49, .one (.int .i64 ((k : Nat) : Int))), (52, .one (.ro (.ints .i64 (joinedOf n A)))), (53, .one (.int .i64 (((List.length (joinedOf n A)) : Nat) : Int))), (54, .one (.int .i64 ((i : Nat) : Int)))], []⟩ hT (by kernel_rfl) ⟨(by first | omega | (simp only [lens]; omega) | (simp only [lens]; done) | (simp only [nadd_eq]; omega) | (simp; done)), trivial⟩ ?_
          refine awp_run [1, 8, 9, 10, 11, 48, 49, 52, 53, 54] [] [(-9223372036854775808 ≤ (((i + 1) : Nat) : Int) ∧ (((i + 1) : Nat) : Int) ≤ 9223372036854775807)] ⟨78, [(1, .one (.int .i64 z)), (8, .one (.int .i64 o)), (9, .one (.ro (.ints .i64 (joinedOf n A)))), (10, .one (.int .i64 ((k : Nat) : Int))), (11, .one (.int .i64 (m + 1))), (48, .one (.int .i64 n)), (49, .one (.int .i64 ((k : Nat) : Int))), (52, .one (.ro (.ints .i64 (joinedOf n A)))), (53, .one (.int .i64 (((List.length (joinedOf n A)) : Nat) : Int))), (54, .one (.int .i64 (((i + 1) : Nat) : Int)))], []⟩ hT (by kernel_rfl) ⟨(by first | omega | (simp only [lens]; omega) | (simp only [lens]; done) | (simp only [nadd_eq]; omega) | (simp; done)), trivial⟩ ?_
          refine loop_end _ ?_ ⟨(i + 1), (m + 1), ⟨(by omega), (by first | omega | (rw [hcn, hm])), rfl⟩, (by kernel_rfl)⟩
          omega
        · -- no 17
          try simp only [bs] at c17
          have hcn := cntK_no (x := k) (i := i) (n := n) (es := es) (z := z) fun q => by
            rw [bit_9 hz0, if_neg (by rw [q.2]; decide), hjl2] at c17
            first | exact c17 ⟨q.1, rfl⟩ | (rcases c17 with w | w; exact w q.1; exact w rfl)
          refine awp_skip ?_
          refine awp_run [1, 8, 9, 10, 11, 48, 49, 52, 53, 54] [] [(-9223372036854775808 ≤ (((i + 1) : Nat) : Int) ∧ (((i + 1) : Nat) : Int) ≤ 9223372036854775807)] ⟨78, [(1, .one (.int .i64 z)), (8, .one (.int .i64 o)), (9, .one (.ro (.ints .i64 (joinedOf n A)))), (10, .one (.int .i64 ((k : Nat) : Int))), (11, .one (.int .i64 m)), (48, .one (.int .i64 n)), (49, .one (.int .i64 ((k : Nat) : Int))), (52, .one (.ro (.ints .i64 (joinedOf n A)))), (53, .one (.int .i64 (((List.length (joinedOf n A)) : Nat) : Int))), (54, .one (.int .i64 (((i + 1) : Nat) : Int)))], []⟩ hT (by kernel_rfl) ⟨(by first | omega | (simp only [lens]; omega) | (simp only [lens]; done) | (simp only [nadd_eq]; omega) | (simp; done)), trivial⟩ ?_
          refine loop_end _ ?_ ⟨(i + 1), m, ⟨(by omega), (by first | omega | (rw [hcn, hm])), rfl⟩, (by kernel_rfl)⟩
          omega
      · -- no 15
        try simp only [bs] at c15
        have hss := sumOdd_step n es z k
        have hs2 := sumOdd_le n es z (k + 1)
        rw [show i = n.toNat by omega] at hm
        rw [← hm, ← ho] at hss
        refine awp_exit ?_
        refine awp_run [1, 8, 9, 48, 49] [] [(2 ≠ (0 : Int)), (-9223372036854775808 ≤ (o + (Int.tmod m 2)) ∧ (o + (Int.tmod m 2)) ≤ 9223372036854775807)] ⟨78, [(1, .one (.int .i64 z)), (8, .one (.int .i64 (o + (Int.tmod m 2)))), (9, .one (.ro (.ints .i64 (joinedOf n A)))), (48, .one (.int .i64 n)), (49, .one (.int .i64 ((k : Nat) : Int)))], []⟩ hT (by kernel_rfl) ⟨(by first | omega | (simp only [lens]; omega) | (simp only [lens]; done) | (simp only [nadd_eq]; omega) | (simp; done)), (by first | omega | (simp only [lens]; omega) | (simp only [lens]; done) | (simp only [nadd_eq]; omega) | (simp; done)), trivial⟩ ?_
        refine awp_run [1, 8, 9, 48, 49] [] [(-9223372036854775808 ≤ (((k + 1) : Nat) : Int) ∧ (((k + 1) : Nat) : Int) ≤ 9223372036854775807)] ⟨78, [(1, .one (.int .i64 z)), (8, .one (.int .i64 (o + (Int.tmod m 2)))), (9, .one (.ro (.ints .i64 (joinedOf n A)))), (48, .one (.int .i64 n)), (49, .one (.int .i64 (((k + 1) : Nat) : Int)))], []⟩ hT (by kernel_rfl) ⟨(by first | omega | (simp only [lens]; omega) | (simp only [lens]; done) | (simp only [nadd_eq]; omega) | (simp; done)), trivial⟩ ?_
        refine loop_end _ ?_ ⟨(k + 1), (o + (Int.tmod m 2)), ⟨(by omega), (by exact hss.symm), rfl⟩, (by kernel_rfl)⟩
        omega
    · -- no 11
      try simp only [bs] at c11
      have hfin : sumOdd n es z k = oddZ n es z := sumOdd_more hA (by omega) h9 k (by omega)
      refine awp_exit ?_
      refine awp_run_seq [4] [] [] ⟨78, [(4, .one (.int .i64 o))], []⟩ hT (by kernel_rfl) trivial ?_
      refine awp_ret ?_
      refine kRet.ret _ [] [] (.one (.int .i64 o)) [] (by kernel_rfl) trivial ?_
      exact ⟨congrArg (fun x1 => (.one (.int .i64 x1) : AV)) (show o = (((oddZ n es z) : Nat) : Int) from by rw [ho, hfin]), rfl⟩

end Go.Ab
