/- Of flows: the least cut of the reference. -/
import Derived.Test.YtnfnlgfdfmnghaaTab
import Derived.Test.YtnfnlgfdfmnghaaFlow2
set_option maxRecDepth 100000
namespace Go.Ab
open Go Go.Proofs
theorem ref_capOf (n s t : Int) (es : List Arc) (z : Int) (hg : GOk n es 0) (h0 : 0 ≤ z) (h1 : z ≤ 65535) : ACall Try.prog 66 [.agg [(.i n), (.i s), (.i t), (.ro (.arcs es))], .one (.int .u16 z)] [] (fun ov oh => ov = .i (capOf es z) ∧ oh = []) := by
  refine acall_intro hT Try.func66 rfl (by kernel_rfl) rfl (by kernel_rfl) ?_
  refine awp_run_seq [1, 2] [102] [] ⟨36, [(1, .one (.int .u16 z)), (2, .p 102)], [(102, .box 1 4 [(.i n), (.i s), (.i t), (.ro (.arcs es))])]⟩ hT (by kernel_rfl) trivial ?_
  refine awp_run_seq [1, 2, 5] [102] [] ⟨36, [(1, .one (.int .u16 z)), (2, .p 102), (5, .i 0)], [(102, .box 1 4 [(.i n), (.i s), (.i t), (.ro (.arcs es))])]⟩ hT (by kernel_rfl) trivial ?_
  refine awp_seq ?_
  refine awp_run_seq [1, 5, 9, 10, 11] [] [(0 < 1)] ⟨36, [(1, .one (.int .u16 z)), (5, .i 0), (9, .one (.ro (.arcs es))), (10, .i ((es.length : Nat) : Int)), (11, .i 0)], []⟩ hT (by kernel_rfl) ⟨(by decide), trivial⟩ ?_
  refine awp_block ?_
  refine awp_loop (I := fun κ σ => ∃ (i : Nat) (u : Int), ((i ≤ es.length) ∧ (u + capOf (es.drop i) z = capOf es z) ∧ (0 ≤ u ∧ u ≤ 10000 * (i : Int)) ∧ es.length - i = κ) ∧ σ = ⟨36, [(1, .one (.int .u16 z)), (5, .i u), (9, .one (.ro (.arcs es))), (10, .i ((es.length : Nat) : Int)), (11, .i (i : Int))], []⟩) _ ⟨0, 0, ⟨(by omega), (by simp), (by omega), rfl⟩, (by kernel_rfl)⟩ ?_
  rintro κ _ ⟨i, u, ⟨hi, hu, hb, rfl⟩, rfl⟩
  refine awp_run_seq [1, 5, 9, 10, 11, 12] [] [] ⟨36, [(1, .one (.int .u16 z)), (5, .i u), (9, .one (.ro (.arcs es))), (10, .i ((es.length : Nat) : Int)), (11, .i (i : Int)), (12, .one (.bool (decide ((i : Int) < ((es.length : Nat) : Int)))))], []⟩ hT (by kernel_rfl) trivial ?_
  refine awp_seq ?_
  refine awp_cond (b := (decide ((i : Int) < ((es.length : Nat) : Int)))) (by kernel_rfl) (fun c3 => ?_) (fun c3 => ?_)
  ·
    try simp only [bs] at c3
    have hci : i < es.length := by omega
    obtain ⟨a1, a2, a3, a4, a5, a6⟩ := hg.at_ hci
    have hn2 := hg.n2
    have hl := hg.len
    have b1 := bit_01 (es.getD i default).src h0
    have b2 := bit_01 (es.getD i default).dst h0
    have hs1 := shr_in (es.getD i default).src h0 h1
    have hs2 := shr_in (es.getD i default).dst h0 h1
    have hc1 := part_in a5 a6 b1
    have hc2 := part_in2 a5 a6 b1 b2
    rw [bit] at b1 b2
    rw [bit] at hc1
    rw [bit, bit] at hc2
    refine awp_skip ?_
    refine awp_seq ?_
    refine awp_block ?_
    refine awp_run_seq [1, 5, 7, 9, 10, 11] [107] [((0 : Int) ≤ (i : Int)), ((i : Int) < ((es.length : Nat) : Int)), (0 < 1)] ⟨36, [(1, .one (.int .u16 z)), (5, .i u), (7, .p 107), (9, .one (.ro (.arcs es))), (10, .i ((es.length : Nat) : Int)), (11, .i (i : Int))], [(107, .box 1 3 [(.i ((List.getD es i default).src)), (.i ((List.getD es i default).dst)), (.i ((List.getD es i default).cap))])]⟩ hT (by kernel_rfl) ⟨(by omega), (by omega), (by decide), trivial⟩ ?_
    refine awp_still [1, 5, 9, 10, 11] [] [(0 < 1), (0 < 1), ((0 : Int) ≤ ((List.getD es i default).src)), (((List.getD es i default).src) ≤ 16), ((0 : Int) ≤ (z / 2 ^ (Int.toNat ((List.getD es i default).src))) ∧ (0 ≤ (z / 2 ^ (Int.toNat ((List.getD es i default).src))) ∧ (z / 2 ^ (Int.toNat ((List.getD es i default).src))) ≤ 65535)), ((0 : Int) ≤ 1 ∧ (0 ≤ (1 : Int) ∧ (1 : Int) ≤ 65535)), (-9223372036854775808 ≤ (iand (z / 2 ^ (Int.toNat ((List.getD es i default).src))) 1) ∧ (iand (z / 2 ^ (Int.toNat ((List.getD es i default).src))) 1) ≤ 9223372036854775807), (-9223372036854775808 ≤ (((List.getD es i default).cap) * (iand (z / 2 ^ (Int.toNat ((List.getD es i default).src))) 1)) ∧ (((List.getD es i default).cap) * (iand (z / 2 ^ (Int.toNat ((List.getD es i default).src))) 1)) ≤ 9223372036854775807), (0 < 1), ((0 : Int) ≤ ((List.getD es i default).dst)), (((List.getD es i default).dst) ≤ 16), ((0 : Int) ≤ (z / 2 ^ (Int.toNat ((List.getD es i default).dst))) ∧ (0 ≤ (z / 2 ^ (Int.toNat ((List.getD es i default).dst))) ∧ (z / 2 ^ (Int.toNat ((List.getD es i default).dst))) ≤ 65535)), ((0 : Int) ≤ 1 ∧ (0 ≤ (1 : Int) ∧ (1 : Int) ≤ 65535)), (0 ≤ (1 - (iand (z / 2 ^ (Int.toNat ((List.getD es i default).dst))) 1)) ∧ (1 - (iand (z / 2 ^ (Int.toNat ((List.getD es i default).dst))) 1)) ≤ 65535), (-9223372036854775808 ≤ (1 - (iand (z / 2 ^ (Int.toNat ((List.getD es i default).dst))) 1)) ∧ (1 - (iand (z / 2 ^ (Int.toNat ((List.getD es i default).dst))) 1)) ≤ 9223372036854775807), (-9223372036854775808 ≤ ((((List.getD es i default).cap) * (iand (z / 2 ^ (Int.toNat ((List.getD es i default).src))) 1)) * (1 - (iand (z / 2 ^ (Int.toNat ((List.getD es i default).dst))) 1))) ∧ ((((List.getD es i default).cap) * (iand (z / 2 ^ (Int.toNat ((List.getD es i default).src))) 1)) * (1 - (iand (z / 2 ^ (Int.toNat ((List.getD es i default).dst))) 1))) ≤ 9223372036854775807), (-9223372036854775808 ≤ (u + ((((List.getD es i default).cap) * (iand (z / 2 ^ (Int.toNat ((List.getD es i default).src))) 1)) * (1 - (iand (z / 2 ^ (Int.toNat ((List.getD es i default).dst))) 1)))) ∧ (u + ((((List.getD es i default).cap) * (iand (z / 2 ^ (Int.toNat ((List.getD es i default).src))) 1)) * (1 - (iand (z / 2 ^ (Int.toNat ((List.getD es i default).dst))) 1)))) ≤ 9223372036854775807)] ⟨36, [(1, .one (.int .u16 z)), (5, .i (u + ((((List.getD es i default).cap) * (iand (z / 2 ^ (Int.toNat ((List.getD es i default).src))) 1)) * (1 - (iand (z / 2 ^ (Int.toNat ((List.getD es i default).dst))) 1))))), (9, .one (.ro (.arcs es))), (10, .i ((es.length : Nat) : Int)), (11, .i (i : Int))], []⟩ (by kernel_rfl) (by kernel_rfl) hT (by kernel_rfl) ⟨(by decide), (by decide), (by omega), (by omega), (by omega), (by omega), (by omega), (by omega), (by decide), (by omega), (by omega), (by omega), (by omega), (by omega), (by omega), (by omega), (by omega), trivial⟩ ?_
    refine awp_run [1, 5, 9, 10, 11] [] [(-9223372036854775808 ≤ (((i + 1) : Nat) : Int) ∧ (((i + 1) : Nat) : Int) ≤ 9223372036854775807)] ⟨36, [(1, .one (.int .u16 z)), (5, .i (u + ((((List.getD es i default).cap) * (iand (z / 2 ^ (Int.toNat ((List.getD es i default).src))) 1)) * (1 - (iand (z / 2 ^ (Int.toNat ((List.getD es i default).dst))) 1))))), (9, .one (.ro (.arcs es))), (10, .i ((es.length : Nat) : Int)), (11, .i (((i + 1) : Nat) : Int))], []⟩ hT (by kernel_rfl) ⟨(by omega), trivial⟩ ?_
    refine loop_end _ ?_ ⟨(i + 1), (u + ((((List.getD es i default).cap) * (iand (z / 2 ^ (Int.toNat ((List.getD es i default).src))) 1)) * (1 - (iand (z / 2 ^ (Int.toNat ((List.getD es i default).dst))) 1)))), ⟨(by omega), (by rw [capOf_drop hci] at hu; simp only [bit] at hu; omega), (by omega), rfl⟩, (by kernel_rfl)⟩
    omega
  ·
    try simp only [bs] at c3
    refine awp_exit ?_
    refine awp_run_seq [4] [] [] ⟨36, [(4, .i u)], []⟩ hT (by kernel_rfl) trivial ?_
    refine awp_ret ?_
    rw [capOf_end z (by omega)] at hu
    refine kRet.ret _ [] [] (.i u) [] (by kernel_rfl) trivial ?_
    exact ⟨congrArg (fun x1 => (.i x1 : AV)) (show u = (capOf es z) from by omega), rfl⟩
theorem ref_parted (n s t : Int) (es : List Arc) (hok : NOk n s t es) : ACall Try.prog 32 [.agg [(.i n), (.i s), (.i t), (.ro (.arcs es))]] [] (fun ov oh => ov = .tup [(false, [(.i ((parted n s t es).1))]), (false, [(.int .u16 ((parted n s t es).2.1))]), (false, [(.int .u16 ((parted n s t es).2.2))])] ∧ oh = []) := by
  refine acall_intro hT Try.func32 rfl (by kernel_rfl) rfl (by kernel_rfl) ?_
  have h1 := hok.n1
  have h2 := hok.n2
  have hG : GOk n es 0 := hok.toGOk
  have h4 := hok.s0
  have h5 := hok.s1
  have h6 := hok.t0
  have h7 := hok.t1
  have hpw : 2 ^ n.toNat ≤ 4096 := pow_le12 (by omega)
  have hpc : (1 : Int) * 2 ^ n.toNat = ((2 ^ n.toNat : Nat) : Int) := by rw [Int.one_mul]; norm_cast
  have hpi : (0 : Int) ≤ 2 ^ n.toNat ∧ (2 : Int) ^ n.toNat ≤ 4096 := by have h := hpc; rw [Int.one_mul] at h; rw [h]; exact ⟨Int.natCast_nonneg _, Int.ofNat_le.2 hpw⟩
  refine awp_run_seq [1] [101] [] ⟨58, [(1, .p 101)], [(101, .box 1 4 [(.i n), (.i s), (.i t), (.ro (.arcs es))])]⟩ hT (by kernel_rfl) trivial ?_
  refine awp_run_seq [1, 5] [101] [] ⟨58, [(1, .p 101), (5, .i (-1))], [(101, .box 1 4 [(.i n), (.i s), (.i t), (.ro (.arcs es))])]⟩ hT (by kernel_rfl) trivial ?_
  refine awp_run_seq [1, 5, 6, 7] [101] [] ⟨58, [(1, .p 101), (5, .i (-1)), (6, .one (.int .u16 0)), (7, .one (.int .u16 0))], [(101, .box 1 4 [(.i n), (.i s), (.i t), (.ro (.arcs es))])]⟩ hT (by kernel_rfl) trivial ?_
  refine awp_seq ?_
  refine awp_run_seq [1, 5, 6, 7, 12, 13] [101] [(0 < 1), ((0 : Int) ≤ n), (n ≤ 16), (0 ≤ ((1 : Int) * 2 ^ (Int.toNat n)) ∧ ((1 : Int) * 2 ^ (Int.toNat n)) ≤ 65535)] ⟨58, [(1, .p 101), (5, .i (-1)), (6, .one (.int .u16 0)), (7, .one (.int .u16 0)), (12, .one (.int .u16 ((1 : Int) * 2 ^ (Int.toNat n)))), (13, .one (.int .u16 0))], [(101, .box 1 4 [(.i n), (.i s), (.i t), (.ro (.arcs es))])]⟩ hT (by kernel_rfl) ⟨(by decide), (by omega), (by omega), (by omega), trivial⟩ ?_
  refine awp_block ?_
  rw [show ((1 : Int) * 2 ^ (Int.toNat n)) = (((2 ^ n.toNat) : Nat) : Int) from by exact hpc]
  refine awp_loop (I := fun κ σ => ∃ (i : Nat) (b l m : Int), ((i ≤ 2 ^ n.toNat) ∧ ((b, l, m) = (List.range i).foldl (fun x (k : Nat) => pstep s t es x (k : Int)) (-1, 0, 0)) ∧ (-1 ≤ b ∧ b ≤ 600000) ∧ (0 ≤ l ∧ l ≤ 65535) ∧ (0 ≤ m ∧ m ≤ 65535) ∧ 2 ^ n.toNat - i = κ) ∧ σ = ⟨58, [(1, .p 101), (5, .i b), (6, .one (.int .u16 l)), (7, .one (.int .u16 m)), (12, .one (.int .u16 (((2 ^ n.toNat) : Nat) : Int))), (13, .one (.int .u16 (i : Int)))], [(101, .box 1 4 [(.i n), (.i s), (.i t), (.ro (.arcs es))])]⟩) _ ⟨0, (-1 : Int), 0, 0, ⟨(by omega), (by rfl), (by omega), (by omega), (by omega), rfl⟩, (by kernel_rfl)⟩ ?_
  rintro κ _ ⟨i, b, l, m, ⟨hi, hp, hb, hl, hm, rfl⟩, rfl⟩
  refine awp_run_seq [1, 5, 6, 7, 12, 13, 14] [101] [] ⟨58, [(1, .p 101), (5, .i b), (6, .one (.int .u16 l)), (7, .one (.int .u16 m)), (12, .one (.int .u16 (((2 ^ n.toNat) : Nat) : Int))), (13, .one (.int .u16 (i : Int))), (14, .one (.bool (decide ((i : Int) < (((2 ^ n.toNat) : Nat) : Int)))))], [(101, .box 1 4 [(.i n), (.i s), (.i t), (.ro (.arcs es))])]⟩ hT (by kernel_rfl) trivial ?_
  refine awp_seq ?_
  refine awp_cond (b := (decide ((i : Int) < (((2 ^ n.toNat) : Nat) : Int)))) (by kernel_rfl) (fun c4 => ?_) (fun c4 => ?_)
  ·
    try simp only [bs] at c4
    have hi0 : (0 : Int) ≤ (i : Int) := by omega
    have hi1 : (i : Int) ≤ 65535 := by omega
    have hcb := capOf_in hG (z := (i : Int)) hi0
    have hs1 := shr_in s hi0 hi1
    have hs2 := shr_in t hi0 hi1
    refine awp_skip ?_
    refine awp_seq ?_
    refine awp_block ?_
    refine awp_run_seq [1, 5, 6, 7, 8, 12, 13] [101] [] ⟨58, [(1, .p 101), (5, .i b), (6, .one (.int .u16 l)), (7, .one (.int .u16 m)), (8, .one (.int .u16 (i : Int))), (12, .one (.int .u16 (((2 ^ n.toNat) : Nat) : Int))), (13, .one (.int .u16 (i : Int)))], [(101, .box 1 4 [(.i n), (.i s), (.i t), (.ro (.arcs es))])]⟩ hT (by kernel_rfl) trivial ?_
    refine awp_seq ?_
    refine awp_run_seq [1, 5, 6, 7, 8, 12, 13, 29] [101] [(0 < 1), ((0 : Int) ≤ s), (s ≤ 16), ((0 : Int) ≤ ((i : Int) / 2 ^ (Int.toNat s)) ∧ (0 ≤ ((i : Int) / 2 ^ (Int.toNat s)) ∧ ((i : Int) / 2 ^ (Int.toNat s)) ≤ 65535)), ((0 : Int) ≤ 1 ∧ (0 ≤ (1 : Int) ∧ (1 : Int) ≤ 65535)), ((!(decide ((iand ((i : Int) / 2 ^ (Int.toNat s)) 1) = 0))) = true → ((!(decide ((iand ((i : Int) / 2 ^ (Int.toNat s)) 1) = 0))) = true → (!(decide ((iand ((i : Int) / 2 ^ (Int.toNat s)) 1) = 0))) = true)), ((!(decide ((iand ((i : Int) / 2 ^ (Int.toNat s)) 1) = 0))) = true → (0 < 1)), ((!(decide ((iand ((i : Int) / 2 ^ (Int.toNat s)) 1) = 0))) = true → ((!(decide ((iand ((i : Int) / 2 ^ (Int.toNat s)) 1) = 0))) = true → (!(decide ((iand ((i : Int) / 2 ^ (Int.toNat s)) 1) = 0))) = true)), ((!(decide ((iand ((i : Int) / 2 ^ (Int.toNat s)) 1) = 0))) = true → ((!(decide ((iand ((i : Int) / 2 ^ (Int.toNat s)) 1) = 0))) = true → (!(decide ((iand ((i : Int) / 2 ^ (Int.toNat s)) 1) = 0))) = true)), ((!(decide ((iand ((i : Int) / 2 ^ (Int.toNat s)) 1) = 0))) = true → ((0 : Int) ≤ t)), ((!(decide ((iand ((i : Int) / 2 ^ (Int.toNat s)) 1) = 0))) = true → (t ≤ 16)), ((!(decide ((iand ((i : Int) / 2 ^ (Int.toNat s)) 1) = 0))) = true → ((!(decide ((iand ((i : Int) / 2 ^ (Int.toNat s)) 1) = 0))) = true → (!(decide ((iand ((i : Int) / 2 ^ (Int.toNat s)) 1) = 0))) = true)), ((!(decide ((iand ((i : Int) / 2 ^ (Int.toNat s)) 1) = 0))) = true → ((0 : Int) ≤ ((i : Int) / 2 ^ (Int.toNat t)) ∧ (0 ≤ ((i : Int) / 2 ^ (Int.toNat t)) ∧ ((i : Int) / 2 ^ (Int.toNat t)) ≤ 65535))), ((!(decide ((iand ((i : Int) / 2 ^ (Int.toNat s)) 1) = 0))) = true → ((0 : Int) ≤ 1 ∧ (0 ≤ (1 : Int) ∧ (1 : Int) ≤ 65535))), ((!(decide ((iand ((i : Int) / 2 ^ (Int.toNat s)) 1) = 0))) = true → ((!(decide ((iand ((i : Int) / 2 ^ (Int.toNat s)) 1) = 0))) = true → (!(decide ((iand ((i : Int) / 2 ^ (Int.toNat s)) 1) = 0))) = true)), ((!(decide ((iand ((i : Int) / 2 ^ (Int.toNat s)) 1) = 0))) = true → (!(decide ((iand ((i : Int) / 2 ^ (Int.toNat s)) 1) = 0))) = true)] ⟨58, [(1, .p 101), (5, .i b), (6, .one (.int .u16 l)), (7, .one (.int .u16 m)), (8, .one (.int .u16 (i : Int))), (12, .one (.int .u16 (((2 ^ n.toNat) : Nat) : Int))), (13, .one (.int .u16 (i : Int))), (29, .one (.bool ((decide ((iand ((i : Int) / 2 ^ (Int.toNat s)) 1) = 0)) || (decide ((iand ((i : Int) / 2 ^ (Int.toNat t)) 1) = 1)))))], [(101, .box 1 4 [(.i n), (.i s), (.i t), (.ro (.arcs es))])]⟩ hT (by kernel_rfl) ⟨(by decide), (by omega), (by omega), (by omega), (by omega), (by intro hg; first | exact hg | skip; (try simp only [bs] at hg ⊢); first | exact hg | first | omega | (simp only [lens]; omega) | (simp only [Bool.cond_decide]; omega) | (simp only [nadd_eq]; omega) | grind), (by intro hg; first | exact hg | skip; (try simp only [bs] at hg); first | exact hg | first | omega | (simp only [lens]; omega) | (simp only [Bool.cond_decide]; omega) | (simp only [nadd_eq]; omega) | grind), (by intro hg; first | exact hg | skip; (try simp only [bs] at hg ⊢); first | exact hg | first | omega | (simp only [lens]; omega) | (simp only [Bool.cond_decide]; omega) | (simp only [nadd_eq]; omega) | grind), (by intro hg; first | exact hg | skip; (try simp only [bs] at hg ⊢); first | exact hg | first | omega | (simp only [lens]; omega) | (simp only [Bool.cond_decide]; omega) | (simp only [nadd_eq]; omega) | grind), (by intro hg; first | exact hg | skip; (try simp only [bs] at hg); first | exact hg | first | omega | (simp only [lens]; omega) | (simp only [Bool.cond_decide]; omega) | (simp only [nadd_eq]; omega) | grind), (by intro hg; first | exact hg | skip; (try simp only [bs] at hg); first | exact hg | first | omega | (simp only [lens]; omega) | (simp only [Bool.cond_decide]; omega) | (simp only [nadd_eq]; omega) | grind), (by intro hg; first | exact hg | skip; (try simp only [bs] at hg ⊢); first | exact hg | first | omega | (simp only [lens]; omega) | (simp only [Bool.cond_decide]; omega) | (simp only [nadd_eq]; omega) | grind), (by intro hg; first | exact hg | skip; (try simp only [bs] at hg); first | exact hg | first | omega | (simp only [lens]; omega) | (simp only [Bool.cond_decide]; omega) | (simp only [nadd_eq]; omega) | grind), (by intro hg; first | exact hg | skip; (try simp only [bs] at hg); first | exact hg | first | omega | (simp only [lens]; omega) | (simp only [Bool.cond_decide]; omega) | (simp only [nadd_eq]; omega) | grind), (by intro hg; first | exact hg | skip; (try simp only [bs] at hg ⊢); first | exact hg | first | omega | (simp only [lens]; omega) | (simp only [Bool.cond_decide]; omega) | (simp only [nadd_eq]; omega) | grind), (fun h => h), trivial⟩ ?_
    refine awp_cond (b := ((decide ((iand ((i : Int) / 2 ^ (Int.toNat s)) 1) = 0)) || (decide ((iand ((i : Int) / 2 ^ (Int.toNat t)) 1) = 1)))) (by kernel_rfl) (fun c6 => ?_) (fun c6 => ?_)
    ·
      try simp only [bs] at c6
      have hps : (b, l, m) = pstep s t es (b, l, m) (i : Int) := by
        rw [pstep, if_pos (by simp only [bit]; exact c6)]
      refine awp_exit ?_
      refine awp_run [1, 5, 6, 7, 12, 13] [101] [(0 ≤ (((i + 1) : Nat) : Int) ∧ (((i + 1) : Nat) : Int) ≤ 65535)] ⟨58, [(1, .p 101), (5, .i b), (6, .one (.int .u16 l)), (7, .one (.int .u16 m)), (12, .one (.int .u16 (((2 ^ n.toNat) : Nat) : Int))), (13, .one (.int .u16 (((i + 1) : Nat) : Int)))], [(101, .box 1 4 [(.i n), (.i s), (.i t), (.ro (.arcs es))])]⟩ hT (by kernel_rfl) ⟨(by omega), trivial⟩ ?_
      refine loop_end _ ?_ ⟨(i + 1), b, l, m, ⟨(by omega), (by rw [List.range_succ, List.foldl_append, ← hp]; simp only [List.foldl_cons, List.foldl_nil]; exact hps), (by omega), (by first | omega | exact iand_in hl.1 hl.2 hi0 hi1), (by first | omega | exact ior_in hm.1 hm.2 hi0 hi1), rfl⟩, (by kernel_rfl)⟩
      omega
    ·
      try simp only [bs] at c6
      refine awp_skip ?_
      refine awp_seq (awp_region ?_)
      refine aops_run 2 [1, 5, 6, 7, 8, 12, 13, 30, 31] [101] [(0 < 1)] ⟨58, [(1, .p 101), (5, .i b), (6, .one (.int .u16 l)), (7, .one (.int .u16 m)), (8, .one (.int .u16 (i : Int))), (12, .one (.int .u16 (((2 ^ n.toNat) : Nat) : Int))), (13, .one (.int .u16 (i : Int))), (30, .agg [(.i n), (.i s), (.i t), (.ro (.arcs es))]), (31, .one (.int .u16 (i : Int)))], [(101, .box 1 4 [(.i n), (.i s), (.i t), (.ro (.arcs es))])]⟩ hT (by kernel_rfl) (by kernel_rfl) ⟨(by decide), trivial⟩ ?_
      refine aops_pure false ⟨true, [], 66, [.agg [(.i n), (.i s), (.i t), (.ro (.arcs es))], .one (.int .u16 (i : Int))], []⟩ [.agg [(.i n), (.i s), (.i t), (.ro (.arcs es))], .one (.int .u16 (i : Int))] (.i (capOf es (i : Int))) ⟨58, [(1, .p 101), (5, .i b), (6, .one (.int .u16 l)), (7, .one (.int .u16 m)), (8, .one (.int .u16 (i : Int))), (12, .one (.int .u16 (((2 ^ n.toNat) : Nat) : Int))), (13, .one (.int .u16 (i : Int))), (30, .agg [(.i n), (.i s), (.i t), (.ro (.arcs es))]), (31, .one (.int .u16 (i : Int))), (32, .i (capOf es (i : Int)))], [(101, .box 1 4 [(.i n), (.i s), (.i t), (.ro (.arcs es))])]⟩ (by kernel_rfl) (by kernel_rfl) (fun _ => trivial) rfl (fun _ => ref_capOf n s t es (i : Int) (by assumption) (by omega) (by omega)) ?_
      refine aops_run 1 [1, 5, 6, 7, 8, 9, 12, 13] [101] [] ⟨58, [(1, .p 101), (5, .i b), (6, .one (.int .u16 l)), (7, .one (.int .u16 m)), (8, .one (.int .u16 (i : Int))), (9, .i (capOf es (i : Int))), (12, .one (.int .u16 (((2 ^ n.toNat) : Nat) : Int))), (13, .one (.int .u16 (i : Int)))], [(101, .box 1 4 [(.i n), (.i s), (.i t), (.ro (.arcs es))])]⟩ hT (by kernel_rfl) (by kernel_rfl) trivial ?_
      refine aops_end_seq (by kernel_rfl) ?_
      refine awp_block ?_
      refine awp_run_seq [1, 5, 6, 7, 8, 9, 12, 13, 33] [101] [((!(decide (b < 0))) = true → ((!(decide (b < 0))) = true → (!(decide (b < 0))) = true)), ((!(decide (b < 0))) = true → ((!(decide (b < 0))) = true → (!(decide (b < 0))) = true)), ((!(decide (b < 0))) = true → (!(decide (b < 0))) = true)] ⟨58, [(1, .p 101), (5, .i b), (6, .one (.int .u16 l)), (7, .one (.int .u16 m)), (8, .one (.int .u16 (i : Int))), (9, .i (capOf es (i : Int))), (12, .one (.int .u16 (((2 ^ n.toNat) : Nat) : Int))), (13, .one (.int .u16 (i : Int))), (33, .one (.bool ((decide (b < 0)) || (decide ((capOf es (i : Int)) < b)))))], [(101, .box 1 4 [(.i n), (.i s), (.i t), (.ro (.arcs es))])]⟩ hT (by kernel_rfl) ⟨(by intro hg; first | exact hg | skip; (try simp only [bs] at hg ⊢); first | exact hg | first | omega | (simp only [lens]; omega) | (simp only [Bool.cond_decide]; omega) | (simp only [nadd_eq]; omega) | grind), (by intro hg; first | exact hg | skip; (try simp only [bs] at hg ⊢); first | exact hg | first | omega | (simp only [lens]; omega) | (simp only [Bool.cond_decide]; omega) | (simp only [nadd_eq]; omega) | grind), (fun h => h), trivial⟩ ?_
      refine awp_cond (b := ((decide (b < 0)) || (decide ((capOf es (i : Int)) < b)))) (by kernel_rfl) (fun c8 => ?_) (fun c8 => ?_)
      ·
        try simp only [bs] at c8
        have hps : (capOf es (i : Int), (i : Int), (i : Int)) = pstep s t es (b, l, m) (i : Int) := by
          rw [pstep, if_neg (by simp only [bit]; omega)]; simp only; rw [if_pos c8]
        refine awp_run [1, 5, 6, 7, 12, 13] [101] [] ⟨58, [(1, .p 101), (5, .i (capOf es (i : Int))), (6, .one (.int .u16 (i : Int))), (7, .one (.int .u16 (i : Int))), (12, .one (.int .u16 (((2 ^ n.toNat) : Nat) : Int))), (13, .one (.int .u16 (i : Int)))], [(101, .box 1 4 [(.i n), (.i s), (.i t), (.ro (.arcs es))])]⟩ hT (by kernel_rfl) trivial ?_
        refine awp_run [1, 5, 6, 7, 12, 13] [101] [(0 ≤ (((i + 1) : Nat) : Int) ∧ (((i + 1) : Nat) : Int) ≤ 65535)] ⟨58, [(1, .p 101), (5, .i (capOf es (i : Int))), (6, .one (.int .u16 (i : Int))), (7, .one (.int .u16 (i : Int))), (12, .one (.int .u16 (((2 ^ n.toNat) : Nat) : Int))), (13, .one (.int .u16 (((i + 1) : Nat) : Int)))], [(101, .box 1 4 [(.i n), (.i s), (.i t), (.ro (.arcs es))])]⟩ hT (by kernel_rfl) ⟨(by omega), trivial⟩ ?_
        refine loop_end _ ?_ ⟨(i + 1), (capOf es (i : Int)), (i : Int), (i : Int), ⟨(by omega), (by rw [List.range_succ, List.foldl_append, ← hp]; simp only [List.foldl_cons, List.foldl_nil]; exact hps), (by omega), (by first | omega | exact iand_in hl.1 hl.2 hi0 hi1), (by first | omega | exact ior_in hm.1 hm.2 hi0 hi1), rfl⟩, (by kernel_rfl)⟩
        omega
      ·
        try simp only [bs] at c8
        refine awp_run_seq [1, 5, 6, 7, 8, 12, 13, 44] [101] [] ⟨58, [(1, .p 101), (5, .i b), (6, .one (.int .u16 l)), (7, .one (.int .u16 m)), (8, .one (.int .u16 (i : Int))), (12, .one (.int .u16 (((2 ^ n.toNat) : Nat) : Int))), (13, .one (.int .u16 (i : Int))), (44, .one (.bool (decide ((capOf es (i : Int)) = b))))], [(101, .box 1 4 [(.i n), (.i s), (.i t), (.ro (.arcs es))])]⟩ hT (by kernel_rfl) trivial ?_
        refine awp_cond (b := (decide ((capOf es (i : Int)) = b))) (by kernel_rfl) (fun c10 => ?_) (fun c10 => ?_)
        ·
          try simp only [bs] at c10
          have hps : (b, iand l (i : Int), ior m (i : Int)) = pstep s t es (b, l, m) (i : Int) := by
            rw [pstep, if_neg (by simp only [bit]; omega)]; simp only; rw [if_neg (by omega), if_pos c10]
          refine awp_run [1, 5, 6, 7, 12, 13] [101] [((0 : Int) ≤ l ∧ (0 ≤ l ∧ l ≤ 65535)), ((0 : Int) ≤ (i : Int) ∧ (0 ≤ (i : Int) ∧ (i : Int) ≤ 65535)), ((0 : Int) ≤ m ∧ (0 ≤ m ∧ m ≤ 65535)), ((0 : Int) ≤ (i : Int) ∧ (0 ≤ (i : Int) ∧ (i : Int) ≤ 65535))] ⟨58, [(1, .p 101), (5, .i b), (6, .one (.int .u16 (iand l (i : Int)))), (7, .one (.int .u16 (ior m (i : Int)))), (12, .one (.int .u16 (((2 ^ n.toNat) : Nat) : Int))), (13, .one (.int .u16 (i : Int)))], [(101, .box 1 4 [(.i n), (.i s), (.i t), (.ro (.arcs es))])]⟩ hT (by kernel_rfl) ⟨(by omega), (by omega), (by omega), (by omega), trivial⟩ ?_
          refine awp_run [1, 5, 6, 7, 12, 13] [101] [(0 ≤ (((i + 1) : Nat) : Int) ∧ (((i + 1) : Nat) : Int) ≤ 65535)] ⟨58, [(1, .p 101), (5, .i b), (6, .one (.int .u16 (iand l (i : Int)))), (7, .one (.int .u16 (ior m (i : Int)))), (12, .one (.int .u16 (((2 ^ n.toNat) : Nat) : Int))), (13, .one (.int .u16 (((i + 1) : Nat) : Int)))], [(101, .box 1 4 [(.i n), (.i s), (.i t), (.ro (.arcs es))])]⟩ hT (by kernel_rfl) ⟨(by omega), trivial⟩ ?_
          refine loop_end _ ?_ ⟨(i + 1), b, (iand l (i : Int)), (ior m (i : Int)), ⟨(by omega), (by rw [List.range_succ, List.foldl_append, ← hp]; simp only [List.foldl_cons, List.foldl_nil]; exact hps), (by omega), (by first | omega | exact iand_in hl.1 hl.2 hi0 hi1), (by first | omega | exact ior_in hm.1 hm.2 hi0 hi1), rfl⟩, (by kernel_rfl)⟩
          omega
        ·
          try simp only [bs] at c10
          have hps : (b, l, m) = pstep s t es (b, l, m) (i : Int) := by
            rw [pstep, if_neg (by simp only [bit]; omega)]; simp only; rw [if_neg (by omega), if_neg c10]
          refine awp_skip ?_
          refine awp_run [1, 5, 6, 7, 12, 13] [101] [(0 ≤ (((i + 1) : Nat) : Int) ∧ (((i + 1) : Nat) : Int) ≤ 65535)] ⟨58, [(1, .p 101), (5, .i b), (6, .one (.int .u16 l)), (7, .one (.int .u16 m)), (12, .one (.int .u16 (((2 ^ n.toNat) : Nat) : Int))), (13, .one (.int .u16 (((i + 1) : Nat) : Int)))], [(101, .box 1 4 [(.i n), (.i s), (.i t), (.ro (.arcs es))])]⟩ hT (by kernel_rfl) ⟨(by omega), trivial⟩ ?_
          refine loop_end _ ?_ ⟨(i + 1), b, l, m, ⟨(by omega), (by rw [List.range_succ, List.foldl_append, ← hp]; simp only [List.foldl_cons, List.foldl_nil]; exact hps), (by omega), (by first | omega | exact iand_in hl.1 hl.2 hi0 hi1), (by first | omega | exact ior_in hm.1 hm.2 hi0 hi1), rfl⟩, (by kernel_rfl)⟩
          omega
  ·
    try simp only [bs] at c4
    refine awp_exit ?_
    refine awp_run_seq [2, 3, 4] [] [] ⟨58, [(2, .i b), (3, .one (.int .u16 l)), (4, .one (.int .u16 m))], []⟩ hT (by kernel_rfl) trivial ?_
    refine awp_ret ?_
    have hfin : (b, l, m) = parted n s t es := by rw [hp, parted, show i = 2 ^ n.toNat by omega]
    refine kRet.ret _ [] [] (.tup [(false, [(.i b)]), (false, [(.int .u16 l)]), (false, [(.int .u16 m)])]) [] (by kernel_rfl) trivial ?_
    exact ⟨by first | rw [show (parted n s t es).1 = b from Eq.symm (by rw [← hfin]), show (parted n s t es).2.1 = l from Eq.symm (by rw [← hfin]), show (parted n s t es).2.2 = m from Eq.symm (by rw [← hfin])] | rw [show (parted n s t es).1 = b from Eq.symm (by rw [← hfin])] | rw [show (parted n s t es).2.1 = l from Eq.symm (by rw [← hfin])] | rw [show (parted n s t es).2.2 = m from Eq.symm (by rw [← hfin])], rfl⟩
theorem ref_value (n s t : Int) (es : List Arc) (hok : NOk n s t es) : ACall Try.prog 8 [.agg [(.i n), (.i s), (.i t), (.ro (.arcs es))]] [] (fun ov oh => ov = .i ((parted n s t es).1) ∧ oh = []) := by
  refine acall_intro hT Try.func8 rfl (by kernel_rfl) rfl (by kernel_rfl) ?_
  refine awp_run_seq [1] [101] [] ⟨13, [(1, .p 101)], [(101, .box 1 4 [(.i n), (.i s), (.i t), (.ro (.arcs es))])]⟩ hT (by kernel_rfl) trivial ?_
  refine awp_seq (awp_region ?_)
  refine aops_run 1 [7] [] [(0 < 1)] ⟨13, [(7, .agg [(.i n), (.i s), (.i t), (.ro (.arcs es))])], []⟩ hT (by kernel_rfl) (by kernel_rfl) ⟨(by decide), trivial⟩ ?_
  refine aops_pure false ⟨true, [], 32, [.agg [(.i n), (.i s), (.i t), (.ro (.arcs es))]], []⟩ [.agg [(.i n), (.i s), (.i t), (.ro (.arcs es))]] (.tup [(false, [(.i ((parted n s t es).1))]), (false, [(.int .u16 ((parted n s t es).2.1))]), (false, [(.int .u16 ((parted n s t es).2.2))])]) ⟨13, [(7, .agg [(.i n), (.i s), (.i t), (.ro (.arcs es))]), (8, .tup [(false, [(.i ((parted n s t es).1))]), (false, [(.int .u16 ((parted n s t es).2.1))]), (false, [(.int .u16 ((parted n s t es).2.2))])])], []⟩ (by kernel_rfl) (by kernel_rfl) (fun _ => trivial) rfl (fun _ => ref_parted n s t es (by assumption)) ?_
  refine aops_run 7 [3] [] [] ⟨13, [(3, .i ((parted n s t es).1))], []⟩ hT (by kernel_rfl) (by kernel_rfl) trivial ?_
  refine aops_end_seq (by kernel_rfl) ?_
  refine awp_run_seq [2] [] [] ⟨13, [(2, .i ((parted n s t es).1))], []⟩ hT (by kernel_rfl) trivial ?_
  refine awp_ret ?_
  refine kRet.ret _ [] [] (.i ((parted n s t es).1)) [] (by kernel_rfl) trivial ?_
  exact ⟨rfl, rfl⟩
end Go.Ab
