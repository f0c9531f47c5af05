/- Of pairs of two sides: how many, in the reference. -/
import Derived.Test.YtakfbagokponeaaTab
import Derived.Test.YtakfbagokponeaaPlKuhn4
set_option maxRecDepth 100000
namespace Go.Ab
open Go Go.Proofs
theorem ones_k (z : Int) (h0 : 0 ≤ z) (h1 : z ≤ 65535) : ACall Try.prog 45 [.one (.int .i64 z)] [] (fun ov oh => ov = .one (.int .i64 (((many z 16) : Nat) : Int)) ∧ oh = []) := by
  refine acall_intro hT Try.func45 rfl (by kernel_rfl) rfl (by kernel_rfl) ?_
  refine awp_run_seq [0] [] [] ⟨16, [(0, .one (.int .i64 z))], []⟩ hT (by kernel_rfl) trivial ?_
  refine awp_run_seq [0, 3] [] [] ⟨16, [(0, .one (.int .i64 z)), (3, .one (.int .i64 0))], []⟩ hT (by kernel_rfl) trivial ?_
  refine awp_seq ?_
  refine awp_run_seq [0, 3, 5] [] [] ⟨16, [(0, .one (.int .i64 z)), (3, .one (.int .i64 0)), (5, .one (.int .i64 0))], []⟩ hT (by kernel_rfl) trivial ?_
  refine awp_block ?_
  refine awp_loop (I := fun κ σ => ∃ (k : Nat) (o : Int), ((k ≤ 16) ∧ (o = ((many z k : Nat) : Int)) ∧ 16 - k = κ) ∧ σ = ⟨16, [(0, .one (.int .i64 z)), (3, .one (.int .i64 o)), (5, .one (.int .i64 ((k : Nat) : Int)))], []⟩) _ ⟨0, 0, ⟨(by omega), (by rfl), rfl⟩, (by kernel_rfl)⟩ ?_
  rintro κ _ ⟨k, o, ⟨hk, ho, rfl⟩, rfl⟩
  have hml := many_le z k
  refine awp_run_seq [0, 3, 5, 6] [] [] ⟨16, [(0, .one (.int .i64 z)), (3, .one (.int .i64 o)), (5, .one (.int .i64 ((k : Nat) : Int))), (6, .one (.bool (decide (((k : Nat) : Int) < 16))))], []⟩ hT (by kernel_rfl) trivial ?_
  refine awp_seq ?_
  refine awp_cond (b := (decide (((k : Nat) : Int) < 16))) (by kernel_rfl) (fun c3 => ?_) (fun c3 => ?_)
  · -- yes 3
    try simp only [bs] at c3
    have hst := many_stepK h0 k
    have hm2 := many_le z (k + 1)
    have hq := shr_in (k : Int) h0 h1
    rw [Int.toNat_natCast] at hq
    refine awp_skip ?_
    refine awp_seq ?_
    refine awp_block ?_
    refine awp_run_seq [0, 3, 4, 5] [] [] ⟨16, [(0, .one (.int .i64 z)), (3, .one (.int .i64 o)), (4, .one (.int .i64 ((k : Nat) : Int))), (5, .one (.int .i64 ((k : Nat) : Int)))], []⟩ hT (by kernel_rfl) trivial ?_
    refine awp_run [0, 3, 5] [] [((0 : Int) ≤ ((k : Nat) : Int)), (((k : Nat) : Int) ≤ 64), ((0 : Int) ≤ (z / 2 ^ k) ∧ (-9223372036854775808 ≤ (z / 2 ^ k) ∧ (z / 2 ^ k) ≤ 9223372036854775807)), ((0 : Int) ≤ 1 ∧ (-9223372036854775808 ≤ (1 : Int) ∧ (1 : Int) ≤ 9223372036854775807)), (-9223372036854775808 ≤ (o + (iand (z / 2 ^ k) 1)) ∧ (o + (iand (z / 2 ^ k) 1)) ≤ 9223372036854775807)] ⟨16, [(0, .one (.int .i64 z)), (3, .one (.int .i64 (o + (iand (z / 2 ^ k) 1)))), (5, .one (.int .i64 ((k : Nat) : Int)))], []⟩ hT (by kernel_rfl) ⟨(by first | omega | (simp only [lens]; omega) | (simp only [Bool.cond_decide]; omega) | (simp only [nadd_eq]; omega)), (by first | omega | (simp only [lens]; omega) | (simp only [Bool.cond_decide]; omega) | (simp only [nadd_eq]; omega)), (by first | omega | (simp only [lens]; omega) | (simp only [Bool.cond_decide]; omega) | (simp only [nadd_eq]; omega)), (by first | omega | (simp only [lens]; omega) | (simp only [Bool.cond_decide]; omega) | (simp only [nadd_eq]; omega)), (by first | omega | (simp only [lens]; omega) | (simp only [Bool.cond_decide]; omega) | (simp only [nadd_eq]; omega)), trivial⟩ ?_
    refine awp_run [0, 3, 5] [] [(-9223372036854775808 ≤ (((k + 1) : Nat) : Int) ∧ (((k + 1) : Nat) : Int) ≤ 9223372036854775807)] ⟨16, [(0, .one (.int .i64 z)), (3, .one (.int .i64 (o + (iand (z / 2 ^ k) 1)))), (5, .one (.int .i64 (((k + 1) : Nat) : Int)))], []⟩ hT (by kernel_rfl) ⟨(by first | omega | (simp only [lens]; omega) | (simp only [Bool.cond_decide]; omega) | (simp only [nadd_eq]; omega)), trivial⟩ ?_
    refine loop_end _ ?_ ⟨(k + 1), (o + (iand (z / 2 ^ k) 1)), ⟨(by omega), (by rw [hst, ho]), rfl⟩, (by kernel_rfl)⟩
    omega
  · -- no 3
    try simp only [bs] at c3
    refine awp_exit ?_
    refine awp_run_seq [2] [] [] ⟨16, [(2, .one (.int .i64 o))], []⟩ hT (by kernel_rfl) trivial ?_
    refine awp_ret ?_
    refine kRet.ret _ [] [] (.one (.int .i64 o)) [] (by kernel_rfl) trivial ?_
    exact ⟨congrArg (fun x1 => (.one (.int .i64 x1) : AV)) (show o = (((many z 16) : Nat) : Int) from by rw [ho, show k = 16 by omega]), rfl⟩

theorem ref_mostPairs (m n : Int) (l : List Arc) (hOk : MatchOk m n l) : ACall Try.prog 44 [.one (.int .i64 m), .one (.int .i64 n), .one (.ro (.arcs l))] [] (fun ov oh => ov = .one (.int .i64 (((cntM (matesP l n.toNat m.toNat)) : Nat) : Int)) ∧ oh = []) := by
  refine acall_intro hT Try.func44 rfl (by kernel_rfl) rfl (by kernel_rfl) ?_
  have h1 := hOk.m0
  have h2 := hOk.m12
  have h3 := hOk.n0
  have h4 := hOk.n12
  have hd := hOk.dstIn
  have hll := hOk.len
  have hsr : ∀ k, k < l.length → 0 ≤ (l.getD k default).src := fun k hk => (hOk.src k hk).1
  have hp := pow16 (k := n.toNat) (by omega)
  have hpn : ((2 ^ n.toNat : Nat) : Int) = 1 * 2 ^ n.toNat := by rw [pow_nat]; omega
  have hpt : Int.toNat ((1 : Int) * 2 ^ n.toNat) = 2 ^ n.toNat := by rw [← hpn, Int.toNat_natCast]
  refine awp_run_seq [0, 1, 2] [] [] ⟨77, [(0, .one (.int .i64 m)), (1, .one (.int .i64 n)), (2, .one (.ro (.arcs l)))], []⟩ hT (by kernel_rfl) trivial ?_
  refine awp_run_seq [0, 2, 7] [117] [((0 : Int) ≤ n), (n ≤ 64), (-9223372036854775808 ≤ ((1 : Int) * 2 ^ (Int.toNat n)) ∧ ((1 : Int) * 2 ^ (Int.toNat n)) ≤ 9223372036854775807), ((0 : Int) ≤ ((1 : Int) * 2 ^ (Int.toNat n))), (((1 : Int) * 2 ^ (Int.toNat n)) ≤ ((1 : Int) * 2 ^ (Int.toNat n))), ((1 : Int) * ((1 : Int) * 2 ^ (Int.toNat n)) ≤ 281474976710656), (((1 : Int) * 2 ^ (Int.toNat n)) ≤ 9223372036854775807)] ⟨77, [(0, .one (.int .i64 m)), (2, .one (.ro (.arcs l))), (7, .one (.rw 117 0 (Int.toNat ((1 : Int) * 2 ^ (Int.toNat n)))))], [(117, .flat (.bools (List.replicate (Int.toNat ((1 : Int) * 2 ^ (Int.toNat n))) false)))]⟩ hT (by kernel_rfl) ⟨(by first | omega | (simp only [lens]; omega) | (simp only [Bool.cond_decide]; omega) | (simp only [nadd_eq]; omega)), (by first | omega | (simp only [lens]; omega) | (simp only [Bool.cond_decide]; omega) | (simp only [nadd_eq]; omega)), (by first | omega | (simp only [lens]; omega) | (simp only [Bool.cond_decide]; omega) | (simp only [nadd_eq]; omega)), (by first | omega | (simp only [lens]; omega) | (simp only [Bool.cond_decide]; omega) | (simp only [nadd_eq]; omega)), (by first | omega | (simp only [lens]; omega) | (simp only [Bool.cond_decide]; omega) | (simp only [nadd_eq]; omega)), (by first | omega | (simp only [lens]; omega) | (simp only [Bool.cond_decide]; omega) | (simp only [nadd_eq]; omega)), (by first | omega | (simp only [lens]; omega) | (simp only [Bool.cond_decide]; omega) | (simp only [nadd_eq]; omega)), trivial⟩ ?_
  refine awp_run_seq [0, 2, 7] [117] [((0 : Int) ≤ (0 : Int)), ((0 : Int) < (((Int.toNat ((1 : Int) * 2 ^ (Int.toNat n))) : Nat) : Int)), (0 < (List.length (List.replicate (Int.toNat ((1 : Int) * 2 ^ (Int.toNat n))) false)))] ⟨77, [(0, .one (.int .i64 m)), (2, .one (.ro (.arcs l))), (7, .one (.rw 117 0 (Int.toNat ((1 : Int) * 2 ^ (Int.toNat n)))))], [(117, .flat (.bools (List.set (List.replicate (Int.toNat ((1 : Int) * 2 ^ (Int.toNat n))) false) 0 true)))]⟩ hT (by kernel_rfl) ⟨(by first | omega | (simp only [lens]; omega) | (simp only [Bool.cond_decide]; omega) | (simp only [nadd_eq]; omega)), (by first | omega | (simp only [lens]; omega) | (simp only [Bool.cond_decide]; omega) | (simp only [nadd_eq]; omega)), (by first | omega | (simp only [lens]; omega) | (simp only [Bool.cond_decide]; omega) | (simp only [nadd_eq]; omega)), trivial⟩ ?_
  refine awp_seq ?_
  refine awp_run_seq [2, 7, 20, 21] [117] [] ⟨77, [(2, .one (.ro (.arcs l))), (7, .one (.rw 117 0 (Int.toNat ((1 : Int) * 2 ^ (Int.toNat n))))), (20, .one (.int .i64 m)), (21, .one (.int .i64 0))], [(117, .flat (.bools (List.set (List.replicate (Int.toNat ((1 : Int) * 2 ^ (Int.toNat n))) false) 0 true)))]⟩ hT (by kernel_rfl) trivial ?_
  refine awp_block ?_
  refine awp_loop (I := fun κ σ => ∃ (i : Nat) (R : List Bool), ((i ≤ m.toNat) ∧ (TabI l n.toNat i R) ∧ m.toNat - i = κ) ∧ σ = ⟨77, [(2, .one (.ro (.arcs l))), (7, .one (.rw 117 0 (Int.toNat ((1 : Int) * 2 ^ (Int.toNat n))))), (20, .one (.int .i64 m)), (21, .one (.int .i64 ((i : Nat) : Int)))], [(117, .flat (.bools R))]⟩) _ ⟨0, (List.set (List.replicate (Int.toNat ((1 : Int) * 2 ^ (Int.toNat n))) false) 0 true), ⟨(by omega), (by rw [hpt]; exact tab_start hsr), rfl⟩, (by kernel_rfl)⟩ ?_
  rintro κ _ ⟨i, R, ⟨hi, hT1, rfl⟩, rfl⟩
  refine awp_run_seq [2, 7, 20, 21, 22] [117] [] ⟨77, [(2, .one (.ro (.arcs l))), (7, .one (.rw 117 0 (Int.toNat ((1 : Int) * 2 ^ (Int.toNat n))))), (20, .one (.int .i64 m)), (21, .one (.int .i64 ((i : Nat) : Int))), (22, .one (.bool (decide (((i : Nat) : Int) < m))))], [(117, .flat (.bools R))]⟩ hT (by kernel_rfl) trivial ?_
  refine awp_seq ?_
  refine awp_cond (b := (decide (((i : Nat) : Int) < m))) (by kernel_rfl) (fun c4 => ?_) (fun c4 => ?_)
  · -- yes 4
    try simp only [bs] at c4
    refine awp_skip ?_
    refine awp_seq ?_
    refine awp_block ?_
    refine awp_run_seq [2, 7, 8, 20, 21] [117] [] ⟨77, [(2, .one (.ro (.arcs l))), (7, .one (.rw 117 0 (Int.toNat ((1 : Int) * 2 ^ (Int.toNat n))))), (8, .one (.int .i64 ((i : Nat) : Int))), (20, .one (.int .i64 m)), (21, .one (.int .i64 ((i : Nat) : Int)))], [(117, .flat (.bools R))]⟩ hT (by kernel_rfl) trivial ?_
    refine awp_run_seq [2, 7, 8, 9, 20, 21] [117] [(-9223372036854775808 ≤ ((((Int.toNat ((1 : Int) * 2 ^ (Int.toNat n))) : Nat) : Int) - 1) ∧ ((((Int.toNat ((1 : Int) * 2 ^ (Int.toNat n))) : Nat) : Int) - 1) ≤ 9223372036854775807)] ⟨77, [(2, .one (.ro (.arcs l))), (7, .one (.rw 117 0 (Int.toNat ((1 : Int) * 2 ^ (Int.toNat n))))), (8, .one (.int .i64 ((i : Nat) : Int))), (9, .one (.int .i64 ((((Int.toNat ((1 : Int) * 2 ^ (Int.toNat n))) : Nat) : Int) - 1))), (20, .one (.int .i64 m)), (21, .one (.int .i64 ((i : Nat) : Int)))], [(117, .flat (.bools R))]⟩ hT (by kernel_rfl) ⟨(by first | omega | (simp only [lens]; omega) | (simp only [Bool.cond_decide]; omega) | (simp only [nadd_eq]; omega)), trivial⟩ ?_
    refine awp_block ?_
    refine awp_loop (I := fun κ σ => ∃ (s : Int) (R2 : List Bool), ((-1 ≤ s ∧ s < 2 ^ n.toNat) ∧ (RowI l n.toNat i s R2) ∧ (s + 1).toNat = κ) ∧ σ = ⟨77, [(2, .one (.ro (.arcs l))), (7, .one (.rw 117 0 (Int.toNat ((1 : Int) * 2 ^ (Int.toNat n))))), (8, .one (.int .i64 ((i : Nat) : Int))), (9, .one (.int .i64 s)), (20, .one (.int .i64 m)), (21, .one (.int .i64 ((i : Nat) : Int)))], [(117, .flat (.bools R2))]⟩) _ ⟨((((Int.toNat ((1 : Int) * 2 ^ (Int.toNat n))) : Nat) : Int) - 1), R, ⟨(by omega), (by exact hT1.row (by omega)), rfl⟩, (by kernel_rfl)⟩ ?_
    rintro κ _ ⟨s, R2, ⟨hs, hT2, rfl⟩, rfl⟩
    refine awp_seq ?_
    refine awp_run_seq [2, 7, 8, 9, 20, 21, 28] [117] [] ⟨77, [(2, .one (.ro (.arcs l))), (7, .one (.rw 117 0 (Int.toNat ((1 : Int) * 2 ^ (Int.toNat n))))), (8, .one (.int .i64 ((i : Nat) : Int))), (9, .one (.int .i64 s)), (20, .one (.int .i64 m)), (21, .one (.int .i64 ((i : Nat) : Int))), (28, .one (.bool (decide ((0 : Int) ≤ s))))], [(117, .flat (.bools R2))]⟩ hT (by kernel_rfl) trivial ?_
    refine awp_cond (b := (decide ((0 : Int) ≤ s))) (by kernel_rfl) (fun c7 => ?_) (fun c7 => ?_)
    · -- yes 7
      try simp only [bs] at c7
      have hRl := hT2.1
      have hs0 : 0 ≤ s := by omega
      have hst : ((s.toNat : Nat) : Int) = s := by omega
      have hsl : s.toNat < 2 ^ n.toNat := by omega
      have hT2s : RowI l n.toNat i ((s.toNat : Nat) : Int) R2 := by rw [hst]; exact hT2
      refine awp_skip ?_
      refine awp_seq ?_
      refine awp_block ?_
      refine awp_seq ?_
      refine awp_run_seq [2, 7, 8, 9, 20, 21, 35] [117] [((0 : Int) ≤ s), (s < (((Int.toNat ((1 : Int) * 2 ^ (Int.toNat n))) : Nat) : Int)), ((Int.toNat s) < R2.length)] ⟨77, [(2, .one (.ro (.arcs l))), (7, .one (.rw 117 0 (Int.toNat ((1 : Int) * 2 ^ (Int.toNat n))))), (8, .one (.int .i64 ((i : Nat) : Int))), (9, .one (.int .i64 s)), (20, .one (.int .i64 m)), (21, .one (.int .i64 ((i : Nat) : Int))), (35, .one (.bool (!(List.getD R2 (Int.toNat s) false))))], [(117, .flat (.bools R2))]⟩ hT (by kernel_rfl) ⟨(by first | omega | (simp only [lens]; omega) | (simp only [Bool.cond_decide]; omega) | (simp only [nadd_eq]; omega)), (by first | omega | (simp only [lens]; omega) | (simp only [Bool.cond_decide]; omega) | (simp only [nadd_eq]; omega)), (by first | omega | (simp only [lens]; omega) | (simp only [Bool.cond_decide]; omega) | (simp only [nadd_eq]; omega)), trivial⟩ ?_
      refine awp_cond (b := (!(List.getD R2 (Int.toNat s) false))) (by kernel_rfl) (fun c9 => ?_) (fun c9 => ?_)
      · -- yes 9
        try simp only [bs] at c9
        have hT4 : RowI l n.toNat i (s - 1) R2 := hT2s.skip hsl c9 (by omega)
        refine awp_exit ?_
        refine awp_run [2, 7, 8, 9, 20, 21] [117] [(-9223372036854775808 ≤ (s - 1) ∧ (s - 1) ≤ 9223372036854775807)] ⟨77, [(2, .one (.ro (.arcs l))), (7, .one (.rw 117 0 (Int.toNat ((1 : Int) * 2 ^ (Int.toNat n))))), (8, .one (.int .i64 ((i : Nat) : Int))), (9, .one (.int .i64 (s - 1))), (20, .one (.int .i64 m)), (21, .one (.int .i64 ((i : Nat) : Int)))], [(117, .flat (.bools R2))]⟩ hT (by kernel_rfl) ⟨(by first | omega | (simp only [lens]; omega) | (simp only [Bool.cond_decide]; omega) | (simp only [nadd_eq]; omega)), trivial⟩ ?_
        refine loop_end _ ?_ ⟨(s - 1), R2, ⟨(by omega), (by exact hT4), rfl⟩, (by kernel_rfl)⟩
        omega
      · -- no 9
        try simp only [bs] at c9
        have hme := (hT2s.here hsl).1 c9
        refine awp_skip ?_
        refine awp_run_seq [2, 7, 8, 9, 20, 21, 36, 37, 38] [117] [] ⟨77, [(2, .one (.ro (.arcs l))), (7, .one (.rw 117 0 (Int.toNat ((1 : Int) * 2 ^ (Int.toNat n))))), (8, .one (.int .i64 ((i : Nat) : Int))), (9, .one (.int .i64 s)), (20, .one (.int .i64 m)), (21, .one (.int .i64 ((i : Nat) : Int))), (36, .one (.ro (.arcs l))), (37, .one (.int .i64 ((l.length : Nat) : Int))), (38, .one (.int .i64 0))], [(117, .flat (.bools R2))]⟩ hT (by kernel_rfl) trivial ?_
        refine awp_block ?_
        refine awp_loop (I := fun κ σ => ∃ (j : Nat) (R3 : List Bool), ((j ≤ l.length) ∧ (ArcI l n.toNat i s.toNat j R3) ∧ l.length - j = κ) ∧ σ = ⟨77, [(2, .one (.ro (.arcs l))), (7, .one (.rw 117 0 (Int.toNat ((1 : Int) * 2 ^ (Int.toNat n))))), (8, .one (.int .i64 ((i : Nat) : Int))), (9, .one (.int .i64 s)), (20, .one (.int .i64 m)), (21, .one (.int .i64 ((i : Nat) : Int))), (36, .one (.ro (.arcs l))), (37, .one (.int .i64 ((l.length : Nat) : Int))), (38, .one (.int .i64 ((j : Nat) : Int)))], [(117, .flat (.bools R3))]⟩) _ ⟨0, R2, ⟨(by omega), (by exact hT2s.arc), rfl⟩, (by kernel_rfl)⟩ ?_
        rintro κ _ ⟨j, R3, ⟨hj, hT3, rfl⟩, rfl⟩
        refine awp_run_seq [2, 7, 8, 9, 20, 21, 36, 37, 38, 39] [117] [] ⟨77, [(2, .one (.ro (.arcs l))), (7, .one (.rw 117 0 (Int.toNat ((1 : Int) * 2 ^ (Int.toNat n))))), (8, .one (.int .i64 ((i : Nat) : Int))), (9, .one (.int .i64 s)), (20, .one (.int .i64 m)), (21, .one (.int .i64 ((i : Nat) : Int))), (36, .one (.ro (.arcs l))), (37, .one (.int .i64 ((l.length : Nat) : Int))), (38, .one (.int .i64 ((j : Nat) : Int))), (39, .one (.bool (decide (((j : Nat) : Int) < ((l.length : Nat) : Int)))))], [(117, .flat (.bools R3))]⟩ hT (by kernel_rfl) trivial ?_
        refine awp_seq ?_
        refine awp_cond (b := (decide (((j : Nat) : Int) < ((l.length : Nat) : Int)))) (by kernel_rfl) (fun c11 => ?_) (fun c11 => ?_)
        · -- yes 11
          try simp only [bs] at c11
          have hjl : j < l.length := by omega
          have hsk := hOk.src j hjl
          have hdk := hOk.dst j hjl
          have hR3l := hT3.1
          have hq := shr_in (List.getD l j default).dst hs0 (by omega)
          have hp3 := pow16 (k := (List.getD l j default).dst.toNat) (by omega)
          have hio : Int.toNat (ior s ((1 : Int) * 2 ^ (List.getD l j default).dst.toNat)) = s.toNat ||| 2 ^ dK l j := by
            unfold ior dK
            rw [Int.toNat_natCast, show Int.toNat ((1 : Int) * 2 ^ (List.getD l j default).dst.toNat) = 2 ^ (List.getD l j default).dst.toNat from by rw [pow_nat, Int.one_mul, Int.toNat_natCast]]
          have hlt : s.toNat ||| 2 ^ dK l j < 2 ^ n.toNat := Nat.or_lt_two_pow hsl (Nat.pow_lt_pow_right (by omega) (by unfold dK; omega))
          have hio0 := ior0 s ((1 : Int) * 2 ^ (List.getD l j default).dst.toNat)
          refine awp_skip ?_
          refine awp_seq ?_
          refine awp_block ?_
          refine awp_run_seq [2, 7, 8, 9, 11, 20, 21, 36, 37, 38] [111, 117] [((0 : Int) ≤ ((j : Nat) : Int)), (((j : Nat) : Int) < ((l.length : Nat) : Int)), (0 < 1)] ⟨77, [(2, .one (.ro (.arcs l))), (7, .one (.rw 117 0 (Int.toNat ((1 : Int) * 2 ^ (Int.toNat n))))), (8, .one (.int .i64 ((i : Nat) : Int))), (9, .one (.int .i64 s)), (11, .one (.ptr 111 0 0)), (20, .one (.int .i64 m)), (21, .one (.int .i64 ((i : Nat) : Int))), (36, .one (.ro (.arcs l))), (37, .one (.int .i64 ((l.length : Nat) : Int))), (38, .one (.int .i64 ((j : Nat) : Int)))], [(111, .box 1 3 [(.int .i64 ((List.getD l j default).src)), (.int .i64 ((List.getD l j default).dst)), (.int .i64 ((List.getD l j default).cap))]), (117, .flat (.bools R3))]⟩ hT (by kernel_rfl) ⟨(by first | omega | (simp only [lens]; omega) | (simp only [Bool.cond_decide]; omega) | (simp only [nadd_eq]; omega)), (by first | omega | (simp only [lens]; omega) | (simp only [Bool.cond_decide]; omega) | (simp only [nadd_eq]; omega)), (by decide), trivial⟩ ?_
          refine awp_run_seq [2, 7, 8, 9, 11, 20, 21, 36, 37, 38, 53] [111, 117] [(0 < 1), ((decide (((List.getD l j default).src) = ((i : Nat) : Int))) = true → ((decide (((List.getD l j default).src) = ((i : Nat) : Int))) = true → (decide (((List.getD l j default).src) = ((i : Nat) : Int))) = true)), ((decide (((List.getD l j default).src) = ((i : Nat) : Int))) = true → (0 < 1)), ((decide (((List.getD l j default).src) = ((i : Nat) : Int))) = true → ((decide (((List.getD l j default).src) = ((i : Nat) : Int))) = true → (decide (((List.getD l j default).src) = ((i : Nat) : Int))) = true)), ((decide (((List.getD l j default).src) = ((i : Nat) : Int))) = true → ((decide (((List.getD l j default).src) = ((i : Nat) : Int))) = true → (decide (((List.getD l j default).src) = ((i : Nat) : Int))) = true)), ((decide (((List.getD l j default).src) = ((i : Nat) : Int))) = true → ((0 : Int) ≤ ((List.getD l j default).dst))), ((decide (((List.getD l j default).src) = ((i : Nat) : Int))) = true → (((List.getD l j default).dst) ≤ 64)), ((decide (((List.getD l j default).src) = ((i : Nat) : Int))) = true → ((decide (((List.getD l j default).src) = ((i : Nat) : Int))) = true → (decide (((List.getD l j default).src) = ((i : Nat) : Int))) = true)), ((decide (((List.getD l j default).src) = ((i : Nat) : Int))) = true → ((0 : Int) ≤ (s / 2 ^ (Int.toNat ((List.getD l j default).dst))) ∧ (-9223372036854775808 ≤ (s / 2 ^ (Int.toNat ((List.getD l j default).dst))) ∧ (s / 2 ^ (Int.toNat ((List.getD l j default).dst))) ≤ 9223372036854775807))), ((decide (((List.getD l j default).src) = ((i : Nat) : Int))) = true → ((0 : Int) ≤ 1 ∧ (-9223372036854775808 ≤ (1 : Int) ∧ (1 : Int) ≤ 9223372036854775807))), ((decide (((List.getD l j default).src) = ((i : Nat) : Int))) = true → ((decide (((List.getD l j default).src) = ((i : Nat) : Int))) = true → (decide (((List.getD l j default).src) = ((i : Nat) : Int))) = true)), ((decide (((List.getD l j default).src) = ((i : Nat) : Int))) = true → (decide (((List.getD l j default).src) = ((i : Nat) : Int))) = true)] ⟨77, [(2, .one (.ro (.arcs l))), (7, .one (.rw 117 0 (Int.toNat ((1 : Int) * 2 ^ (Int.toNat n))))), (8, .one (.int .i64 ((i : Nat) : Int))), (9, .one (.int .i64 s)), (11, .one (.ptr 111 0 0)), (20, .one (.int .i64 m)), (21, .one (.int .i64 ((i : Nat) : Int))), (36, .one (.ro (.arcs l))), (37, .one (.int .i64 ((l.length : Nat) : Int))), (38, .one (.int .i64 ((j : Nat) : Int))), (53, .one (.bool ((decide (((List.getD l j default).src) = ((i : Nat) : Int))) && (decide ((iand (s / 2 ^ (Int.toNat ((List.getD l j default).dst))) 1) = 0)))))], [(111, .box 1 3 [(.int .i64 ((List.getD l j default).src)), (.int .i64 ((List.getD l j default).dst)), (.int .i64 ((List.getD l j default).cap))]), (117, .flat (.bools R3))]⟩ hT (by kernel_rfl) ⟨(by decide), (by intro hg; first | exact hg | skip; (try simp only [bs] at hg ⊢); first | exact hg | first | omega | (simp only [lens]; omega) | (simp only [Bool.cond_decide]; omega) | (simp only [nadd_eq]; omega) | grind), (by intro hg; first | exact hg | skip; (try simp only [bs] at hg); first | exact hg | first | omega | (simp only [lens]; omega) | (simp only [Bool.cond_decide]; omega) | (simp only [nadd_eq]; omega) | grind), (by intro hg; first | exact hg | skip; (try simp only [bs] at hg ⊢); first | exact hg | first | omega | (simp only [lens]; omega) | (simp only [Bool.cond_decide]; omega) | (simp only [nadd_eq]; omega) | grind), (by intro hg; first | exact hg | skip; (try simp only [bs] at hg ⊢); first | exact hg | first | omega | (simp only [lens]; omega) | (simp only [Bool.cond_decide]; omega) | (simp only [nadd_eq]; omega) | grind), (by intro hg; first | exact hg | skip; (try simp only [bs] at hg); first | exact hg | first | omega | (simp only [lens]; omega) | (simp only [Bool.cond_decide]; omega) | (simp only [nadd_eq]; omega) | grind), (by intro hg; first | exact hg | skip; (try simp only [bs] at hg); first | exact hg | first | omega | (simp only [lens]; omega) | (simp only [Bool.cond_decide]; omega) | (simp only [nadd_eq]; omega) | grind), (by intro hg; first | exact hg | skip; (try simp only [bs] at hg ⊢); first | exact hg | first | omega | (simp only [lens]; omega) | (simp only [Bool.cond_decide]; omega) | (simp only [nadd_eq]; omega) | grind), (by intro hg; first | exact hg | skip; (try simp only [bs] at hg); first | exact hg | first | omega | (simp only [lens]; omega) | (simp only [Bool.cond_decide]; omega) | (simp only [nadd_eq]; omega) | grind), (by intro hg; first | exact hg | skip; (try simp only [bs] at hg); first | exact hg | first | omega | (simp only [lens]; omega) | (simp only [Bool.cond_decide]; omega) | (simp only [nadd_eq]; omega) | grind), (by intro hg; first | exact hg | skip; (try simp only [bs] at hg ⊢); first | exact hg | first | omega | (simp only [lens]; omega) | (simp only [Bool.cond_decide]; omega) | (simp only [nadd_eq]; omega) | grind), (fun h => h), trivial⟩ ?_
          refine awp_cond (b := ((decide (((List.getD l j default).src) = ((i : Nat) : Int))) && (decide ((iand (s / 2 ^ (Int.toNat ((List.getD l j default).dst))) 1) = 0)))) (by kernel_rfl) (fun c13 => ?_) (fun c13 => ?_)
          · -- yes 13
            try simp only [bs] at c13
            have hb0 : s.toNat.testBit (dK l j) = false := (bit_no (v := (List.getD l j default).dst) hs0).1 c13.2
            have hT5 := hT3.yes hjl hme hd c13.1 hb0
            rw [← hio] at hT5
            refine awp_run [2, 7, 8, 9, 20, 21, 36, 37, 38] [117] [(0 < 1), ((0 : Int) ≤ ((List.getD l j default).dst)), (((List.getD l j default).dst) ≤ 64), (-9223372036854775808 ≤ ((1 : Int) * 2 ^ (Int.toNat ((List.getD l j default).dst))) ∧ ((1 : Int) * 2 ^ (Int.toNat ((List.getD l j default).dst))) ≤ 9223372036854775807), ((0 : Int) ≤ s ∧ (-9223372036854775808 ≤ s ∧ s ≤ 9223372036854775807)), ((0 : Int) ≤ ((1 : Int) * 2 ^ (Int.toNat ((List.getD l j default).dst))) ∧ (-9223372036854775808 ≤ ((1 : Int) * 2 ^ (Int.toNat ((List.getD l j default).dst))) ∧ ((1 : Int) * 2 ^ (Int.toNat ((List.getD l j default).dst))) ≤ 9223372036854775807)), ((0 : Int) ≤ (ior s ((1 : Int) * 2 ^ (Int.toNat ((List.getD l j default).dst))))), ((ior s ((1 : Int) * 2 ^ (Int.toNat ((List.getD l j default).dst)))) < (((Int.toNat ((1 : Int) * 2 ^ (Int.toNat n))) : Nat) : Int)), ((Int.toNat (ior s ((1 : Int) * 2 ^ (Int.toNat ((List.getD l j default).dst))))) < R3.length)] ⟨77, [(2, .one (.ro (.arcs l))), (7, .one (.rw 117 0 (Int.toNat ((1 : Int) * 2 ^ (Int.toNat n))))), (8, .one (.int .i64 ((i : Nat) : Int))), (9, .one (.int .i64 s)), (20, .one (.int .i64 m)), (21, .one (.int .i64 ((i : Nat) : Int))), (36, .one (.ro (.arcs l))), (37, .one (.int .i64 ((l.length : Nat) : Int))), (38, .one (.int .i64 ((j : Nat) : Int)))], [(117, .flat (.bools (List.set R3 (Int.toNat (ior s ((1 : Int) * 2 ^ (Int.toNat ((List.getD l j default).dst))))) true)))]⟩ hT (by kernel_rfl) ⟨(by decide), (by first | omega | (simp only [lens]; omega) | (simp only [Bool.cond_decide]; omega) | (simp only [nadd_eq]; omega)), (by first | omega | (simp only [lens]; omega) | (simp only [Bool.cond_decide]; omega) | (simp only [nadd_eq]; omega)), (by first | omega | (simp only [lens]; omega) | (simp only [Bool.cond_decide]; omega) | (simp only [nadd_eq]; omega)), (by first | omega | (simp only [lens]; omega) | (simp only [Bool.cond_decide]; omega) | (simp only [nadd_eq]; omega)), (by first | omega | (simp only [lens]; omega) | (simp only [Bool.cond_decide]; omega) | (simp only [nadd_eq]; omega)), (by first | omega | (simp only [lens]; omega) | (simp only [Bool.cond_decide]; omega) | (simp only [nadd_eq]; omega)), (by first | omega | (simp only [lens]; omega) | (simp only [Bool.cond_decide]; omega) | (simp only [nadd_eq]; omega)), (by first | omega | (simp only [lens]; omega) | (simp only [Bool.cond_decide]; omega) | (simp only [nadd_eq]; omega)), trivial⟩ ?_
            refine awp_run [2, 7, 8, 9, 20, 21, 36, 37, 38] [117] [(-9223372036854775808 ≤ (((j + 1) : Nat) : Int) ∧ (((j + 1) : Nat) : Int) ≤ 9223372036854775807)] ⟨77, [(2, .one (.ro (.arcs l))), (7, .one (.rw 117 0 (Int.toNat ((1 : Int) * 2 ^ (Int.toNat n))))), (8, .one (.int .i64 ((i : Nat) : Int))), (9, .one (.int .i64 s)), (20, .one (.int .i64 m)), (21, .one (.int .i64 ((i : Nat) : Int))), (36, .one (.ro (.arcs l))), (37, .one (.int .i64 ((l.length : Nat) : Int))), (38, .one (.int .i64 (((j + 1) : Nat) : Int)))], [(117, .flat (.bools (List.set R3 (Int.toNat (ior s ((1 : Int) * 2 ^ (Int.toNat ((List.getD l j default).dst))))) true)))]⟩ hT (by kernel_rfl) ⟨(by first | omega | (simp only [lens]; omega) | (simp only [Bool.cond_decide]; omega) | (simp only [nadd_eq]; omega)), trivial⟩ ?_
            refine loop_end _ ?_ ⟨(j + 1), (List.set R3 (Int.toNat (ior s ((1 : Int) * 2 ^ (Int.toNat ((List.getD l j default).dst))))) true), ⟨(by omega), (by exact hT5), rfl⟩, (by kernel_rfl)⟩
            omega
          · -- no 13
            try simp only [bs] at c13
            have hT5 := hT3.no (fun q => c13.elim (fun h => h q.1) (fun h => h ((bit_no (v := (List.getD l j default).dst) hs0).2 q.2)))
            refine awp_skip ?_
            refine awp_run [2, 7, 8, 9, 20, 21, 36, 37, 38] [117] [(-9223372036854775808 ≤ (((j + 1) : Nat) : Int) ∧ (((j + 1) : Nat) : Int) ≤ 9223372036854775807)] ⟨77, [(2, .one (.ro (.arcs l))), (7, .one (.rw 117 0 (Int.toNat ((1 : Int) * 2 ^ (Int.toNat n))))), (8, .one (.int .i64 ((i : Nat) : Int))), (9, .one (.int .i64 s)), (20, .one (.int .i64 m)), (21, .one (.int .i64 ((i : Nat) : Int))), (36, .one (.ro (.arcs l))), (37, .one (.int .i64 ((l.length : Nat) : Int))), (38, .one (.int .i64 (((j + 1) : Nat) : Int)))], [(117, .flat (.bools R3))]⟩ hT (by kernel_rfl) ⟨(by first | omega | (simp only [lens]; omega) | (simp only [Bool.cond_decide]; omega) | (simp only [nadd_eq]; omega)), trivial⟩ ?_
            refine loop_end _ ?_ ⟨(j + 1), R3, ⟨(by omega), (by exact hT5), rfl⟩, (by kernel_rfl)⟩
            omega
        · -- no 11
          try simp only [bs] at c11
          have hT4 : RowI l n.toNat i (s - 1) R3 := hT3.row (by omega) (by omega)
          refine awp_exit ?_
          refine awp_run [2, 7, 8, 9, 20, 21] [117] [(-9223372036854775808 ≤ (s - 1) ∧ (s - 1) ≤ 9223372036854775807)] ⟨77, [(2, .one (.ro (.arcs l))), (7, .one (.rw 117 0 (Int.toNat ((1 : Int) * 2 ^ (Int.toNat n))))), (8, .one (.int .i64 ((i : Nat) : Int))), (9, .one (.int .i64 (s - 1))), (20, .one (.int .i64 m)), (21, .one (.int .i64 ((i : Nat) : Int)))], [(117, .flat (.bools R3))]⟩ hT (by kernel_rfl) ⟨(by first | omega | (simp only [lens]; omega) | (simp only [Bool.cond_decide]; omega) | (simp only [nadd_eq]; omega)), trivial⟩ ?_
          refine loop_end _ ?_ ⟨(s - 1), R3, ⟨(by omega), (by exact hT4), rfl⟩, (by kernel_rfl)⟩
          omega
    · -- no 7
      try simp only [bs] at c7
      have hT6 := hT2.tab (by omega) hd
      refine awp_exit ?_
      refine awp_run [2, 7, 20, 21] [117] [(-9223372036854775808 ≤ (((i + 1) : Nat) : Int) ∧ (((i + 1) : Nat) : Int) ≤ 9223372036854775807)] ⟨77, [(2, .one (.ro (.arcs l))), (7, .one (.rw 117 0 (Int.toNat ((1 : Int) * 2 ^ (Int.toNat n))))), (20, .one (.int .i64 m)), (21, .one (.int .i64 (((i + 1) : Nat) : Int)))], [(117, .flat (.bools R2))]⟩ hT (by kernel_rfl) ⟨(by first | omega | (simp only [lens]; omega) | (simp only [Bool.cond_decide]; omega) | (simp only [nadd_eq]; omega)), trivial⟩ ?_
      refine loop_end _ ?_ ⟨(i + 1), R2, ⟨(by omega), (by exact hT6), rfl⟩, (by kernel_rfl)⟩
      omega
  · -- no 4
    try simp only [bs] at c4
    have hTm : TabI l n.toNat m.toNat R := by rw [show m.toNat = i by omega]; exact hT1
    refine awp_exit ?_
    refine awp_run_seq [7, 12] [117] [] ⟨77, [(7, .one (.rw 117 0 (Int.toNat ((1 : Int) * 2 ^ (Int.toNat n))))), (12, .one (.int .i64 0))], [(117, .flat (.bools R))]⟩ hT (by kernel_rfl) trivial ?_
    refine awp_seq ?_
    refine awp_run_seq [12, 63, 64, 65] [117] [] ⟨77, [(12, .one (.int .i64 0)), (63, .one (.rw 117 0 (Int.toNat ((1 : Int) * 2 ^ (Int.toNat n))))), (64, .one (.int .i64 (((Int.toNat ((1 : Int) * 2 ^ (Int.toNat n))) : Nat) : Int))), (65, .one (.int .i64 0))], [(117, .flat (.bools R))]⟩ hT (by kernel_rfl) trivial ?_
    refine awp_block ?_
    refine awp_loop (I := fun κ σ => ∃ (z : Nat) (b : Int), ((z ≤ 2 ^ n.toNat) ∧ (BestK l n.toNat ((m.toNat : Nat) : Int) z b) ∧ 2 ^ n.toNat - z = κ) ∧ σ = ⟨77, [(12, .one (.int .i64 b)), (63, .one (.rw 117 0 (Int.toNat ((1 : Int) * 2 ^ (Int.toNat n))))), (64, .one (.int .i64 (((Int.toNat ((1 : Int) * 2 ^ (Int.toNat n))) : Nat) : Int))), (65, .one (.int .i64 ((z : Nat) : Int)))], [(117, .flat (.bools R))]⟩) _ ⟨0, 0, ⟨(by omega), (by exact BestK.start), rfl⟩, (by kernel_rfl)⟩ ?_
    rintro κ _ ⟨z, b, ⟨hz, hb, rfl⟩, rfl⟩
    refine awp_run_seq [12, 63, 64, 65, 66] [117] [] ⟨77, [(12, .one (.int .i64 b)), (63, .one (.rw 117 0 (Int.toNat ((1 : Int) * 2 ^ (Int.toNat n))))), (64, .one (.int .i64 (((Int.toNat ((1 : Int) * 2 ^ (Int.toNat n))) : Nat) : Int))), (65, .one (.int .i64 ((z : Nat) : Int))), (66, .one (.bool (decide (((z : Nat) : Int) < (((Int.toNat ((1 : Int) * 2 ^ (Int.toNat n))) : Nat) : Int)))))], [(117, .flat (.bools R))]⟩ hT (by kernel_rfl) trivial ?_
    refine awp_seq ?_
    refine awp_cond (b := (decide (((z : Nat) : Int) < (((Int.toNat ((1 : Int) * 2 ^ (Int.toNat n))) : Nat) : Int)))) (by kernel_rfl) (fun c19 => ?_) (fun c19 => ?_)
    · -- yes 19
      try simp only [bs] at c19
      have hRl := hTm.1
      have hzz : z < 2 ^ n.toNat := by omega
      refine awp_skip ?_
      refine awp_seq ?_
      refine awp_block ?_
      refine awp_run_seq [12, 13, 14, 63, 64, 65] [117] [((0 : Int) ≤ ((z : Nat) : Int)), (((z : Nat) : Int) < (((Int.toNat ((1 : Int) * 2 ^ (Int.toNat n))) : Nat) : Int)), (z < R.length)] ⟨77, [(12, .one (.int .i64 b)), (13, .one (.int .i64 ((z : Nat) : Int))), (14, .one (.bool (List.getD R z false))), (63, .one (.rw 117 0 (Int.toNat ((1 : Int) * 2 ^ (Int.toNat n))))), (64, .one (.int .i64 (((Int.toNat ((1 : Int) * 2 ^ (Int.toNat n))) : Nat) : Int))), (65, .one (.int .i64 ((z : Nat) : Int)))], [(117, .flat (.bools R))]⟩ hT (by kernel_rfl) ⟨(by first | omega | (simp only [lens]; omega) | (simp only [Bool.cond_decide]; omega) | (simp only [nadd_eq]; omega)), (by first | omega | (simp only [lens]; omega) | (simp only [Bool.cond_decide]; omega) | (simp only [nadd_eq]; omega)), (by first | omega | (simp only [lens]; omega) | (simp only [Bool.cond_decide]; omega) | (simp only [nadd_eq]; omega)), trivial⟩ ?_
      refine awp_run_seq [12, 13, 63, 64, 65, 70] [117] [] ⟨77, [(12, .one (.int .i64 b)), (13, .one (.int .i64 ((z : Nat) : Int))), (63, .one (.rw 117 0 (Int.toNat ((1 : Int) * 2 ^ (Int.toNat n))))), (64, .one (.int .i64 (((Int.toNat ((1 : Int) * 2 ^ (Int.toNat n))) : Nat) : Int))), (65, .one (.int .i64 ((z : Nat) : Int))), (70, .one (.bool (List.getD R z false)))], [(117, .flat (.bools R))]⟩ hT (by kernel_rfl) trivial ?_
      refine awp_cond (b := (List.getD R z false)) (by kernel_rfl) (fun c21 => ?_) (fun c21 => ?_)
      · -- yes 21
        try simp only [bs] at c21
        have hb2 := hb.yes ((hTm.2 z hzz).1 c21)
        refine awp_region ?_
        refine aops_run 2 [63, 64, 65, 71, 72] [117] [] ⟨77, [(63, .one (.rw 117 0 (Int.toNat ((1 : Int) * 2 ^ (Int.toNat n))))), (64, .one (.int .i64 (((Int.toNat ((1 : Int) * 2 ^ (Int.toNat n))) : Nat) : Int))), (65, .one (.int .i64 ((z : Nat) : Int))), (71, .one (.int .i64 b)), (72, .one (.int .i64 ((z : Nat) : Int)))], [(117, .flat (.bools R))]⟩ hT (by kernel_rfl) (by kernel_rfl) trivial ?_
        refine aops_pure false ⟨true, [], 45, [.one (.int .i64 ((z : Nat) : Int))], []⟩ [.one (.int .i64 ((z : Nat) : Int))] (.one (.int .i64 (((many ((z : Nat) : Int) 16) : Nat) : Int))) ⟨77, [(63, .one (.rw 117 0 (Int.toNat ((1 : Int) * 2 ^ (Int.toNat n))))), (64, .one (.int .i64 (((Int.toNat ((1 : Int) * 2 ^ (Int.toNat n))) : Nat) : Int))), (65, .one (.int .i64 ((z : Nat) : Int))), (71, .one (.int .i64 b)), (72, .one (.int .i64 ((z : Nat) : Int))), (73, .one (.int .i64 (((many ((z : Nat) : Int) 16) : Nat) : Int)))], [(117, .flat (.bools R))]⟩ (by kernel_rfl) (by kernel_rfl) (fun _ => trivial) rfl (fun _ => ones_k ((z : Nat) : Int) (by omega) (by omega)) ?_
        refine aops_run 2 [12, 63, 64, 65] [117] [] ⟨77, [(12, .one (.int .i64 (max b (((many ((z : Nat) : Int) 16) : Nat) : Int)))), (63, .one (.rw 117 0 (Int.toNat ((1 : Int) * 2 ^ (Int.toNat n))))), (64, .one (.int .i64 (((Int.toNat ((1 : Int) * 2 ^ (Int.toNat n))) : Nat) : Int))), (65, .one (.int .i64 ((z : Nat) : Int)))], [(117, .flat (.bools R))]⟩ hT (by kernel_rfl) (by kernel_rfl) trivial ?_
        refine aops_end (by kernel_rfl) ?_
        refine awp_run [12, 63, 64, 65] [117] [(-9223372036854775808 ≤ (((z + 1) : Nat) : Int) ∧ (((z + 1) : Nat) : Int) ≤ 9223372036854775807)] ⟨77, [(12, .one (.int .i64 (max b (((many ((z : Nat) : Int) 16) : Nat) : Int)))), (63, .one (.rw 117 0 (Int.toNat ((1 : Int) * 2 ^ (Int.toNat n))))), (64, .one (.int .i64 (((Int.toNat ((1 : Int) * 2 ^ (Int.toNat n))) : Nat) : Int))), (65, .one (.int .i64 (((z + 1) : Nat) : Int)))], [(117, .flat (.bools R))]⟩ hT (by kernel_rfl) ⟨(by first | omega | (simp only [lens]; omega) | (simp only [Bool.cond_decide]; omega) | (simp only [nadd_eq]; omega)), trivial⟩ ?_
        refine loop_end _ ?_ ⟨(z + 1), (max b (((many ((z : Nat) : Int) 16) : Nat) : Int)), ⟨(by omega), (by exact hb2), rfl⟩, (by kernel_rfl)⟩
        omega
      · -- no 21
        try simp only [bs] at c21
        have hb2 := hb.no (fun q => by rw [(hTm.2 z hzz).2 q] at c21; cases c21)
        refine awp_skip ?_
        refine awp_run [12, 63, 64, 65] [117] [(-9223372036854775808 ≤ (((z + 1) : Nat) : Int) ∧ (((z + 1) : Nat) : Int) ≤ 9223372036854775807)] ⟨77, [(12, .one (.int .i64 b)), (63, .one (.rw 117 0 (Int.toNat ((1 : Int) * 2 ^ (Int.toNat n))))), (64, .one (.int .i64 (((Int.toNat ((1 : Int) * 2 ^ (Int.toNat n))) : Nat) : Int))), (65, .one (.int .i64 (((z + 1) : Nat) : Int)))], [(117, .flat (.bools R))]⟩ hT (by kernel_rfl) ⟨(by first | omega | (simp only [lens]; omega) | (simp only [Bool.cond_decide]; omega) | (simp only [nadd_eq]; omega)), trivial⟩ ?_
        refine loop_end _ ?_ ⟨(z + 1), b, ⟨(by omega), (by exact hb2), rfl⟩, (by kernel_rfl)⟩
        omega
    · -- no 19
      try simp only [bs] at c19
      have hfin := hb.all (by omega) (by omega) hd hsr
      refine awp_exit ?_
      refine awp_run_seq [6] [] [] ⟨77, [(6, .one (.int .i64 b))], []⟩ hT (by kernel_rfl) trivial ?_
      refine awp_ret ?_
      refine kRet.ret _ [] [] (.one (.int .i64 b)) [] (by kernel_rfl) trivial ?_
      exact ⟨congrArg (fun x1 => (.one (.int .i64 x1) : AV)) (show b = (((cntM (matesP l n.toNat m.toNat)) : Nat) : Int) from by exact hfin), rfl⟩

end Go.Ab
