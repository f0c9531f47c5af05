/- Of pairs that stay: both. -/
import Derived.Test.YtoghkabjfpolbaaTab
import Derived.Test.YtoghkabjfpolbaaStab2
import Derived.Test.YtoghkabjfpolbaaPlPush
set_option maxRecDepth 100000
namespace Go.Ab
open Go Go.Proofs
theorem ref_parts (a b : List (List Int)) (p : List Int) (hls : Lists a b) (hfp : isFull a.length p) : ACall Try.prog 46 [.one (.rs (.rows a)), .one (.rs (.rows b)), .one (.ro (.ints .i64 p))] [] (fun ov oh => ov = .tup [(false, [(.int .i64 (po1 (partOf a b p)))]), (false, [(.int .i64 (po2 (partOf a b p)))]), (false, [(.bool (Option.isSome (partOf a b p)))])] ∧ oh = []) := by
  refine acall_intro hT Try.func46 rfl (by kernel_rfl) rfl (by kernel_rfl) ?_
  have h6 := hls.small
  have hlb := hls.len
  have hpl := hfp.1
  refine awp_run_seq [0, 1, 2] [] [] ⟨51, [(0, .one (.rs (.rows a))), (1, .one (.rs (.rows b))), (2, .one (.ro (.ints .i64 p)))], []⟩ hT (by kernel_rfl) trivial ?_
  refine awp_seq ?_
  refine awp_run_seq [0, 1, 2, 13, 14] [] [] ⟨51, [(0, .one (.rs (.rows a))), (1, .one (.rs (.rows b))), (2, .one (.ro (.ints .i64 p))), (13, .one (.int .i64 ((a.length : Nat) : Int))), (14, .one (.int .i64 0))], []⟩ hT (by kernel_rfl) trivial ?_
  refine awp_block ?_
  refine awp_loop (I := fun κ σ => ∃ (i : Nat), ((i ≤ a.length) ∧ (partFrom b p i (a.drop i) = partOf a b p) ∧ a.length - i = κ) ∧ σ = ⟨51, [(0, .one (.rs (.rows a))), (1, .one (.rs (.rows b))), (2, .one (.ro (.ints .i64 p))), (13, .one (.int .i64 ((a.length : Nat) : Int))), (14, .one (.int .i64 ((i : Nat) : Int)))], []⟩) _ ⟨0, ⟨(by omega), (by rfl), rfl⟩, (by kernel_rfl)⟩ ?_
  rintro κ _ ⟨i, ⟨hi, hP, rfl⟩, rfl⟩
  refine awp_run_seq [0, 1, 2, 13, 14, 15] [] [] ⟨51, [(0, .one (.rs (.rows a))), (1, .one (.rs (.rows b))), (2, .one (.ro (.ints .i64 p))), (13, .one (.int .i64 ((a.length : Nat) : Int))), (14, .one (.int .i64 ((i : Nat) : Int))), (15, .one (.bool (decide (((i : Nat) : Int) < ((a.length : Nat) : Int)))))], []⟩ hT (by kernel_rfl) trivial ?_
  refine awp_seq ?_
  refine awp_cond (b := (decide (((i : Nat) : Int) < ((a.length : Nat) : Int)))) (by kernel_rfl) (fun c2 => ?_) (fun c2 => ?_)
  · -- yes 2
    try simp only [bs] at c2
    have hil : i < a.length := by omega
    have hfr := hls.ra i hil
    have hrl := hfr.1
    have hpi := hfp.at_ hil
    obtain ⟨r1, r2, r3⟩ := rk_in (isFull.mem_ hfr hpi.1 hpi.2)
    have hprl : (List.take (Int.toNat (rk (List.getD a i []) (List.getD p i 0))) (List.getD a i [])).length = Int.toNat (rk (List.getD a i []) (List.getD p i 0)) := by rw [List.length_take]; omega
    refine awp_skip ?_
    refine awp_seq ?_
    refine awp_block ?_
    refine awp_run_seq [0, 1, 2, 9, 13, 14] [] [] ⟨51, [(0, .one (.rs (.rows a))), (1, .one (.rs (.rows b))), (2, .one (.ro (.ints .i64 p))), (9, .one (.int .i64 ((i : Nat) : Int))), (13, .one (.int .i64 ((a.length : Nat) : Int))), (14, .one (.int .i64 ((i : Nat) : Int)))], []⟩ hT (by kernel_rfl) trivial ?_
    refine awp_run_seq [0, 1, 2, 9, 13, 14, 20, 21, 22] [] [((0 : Int) ≤ ((i : Nat) : Int)), (((i : Nat) : Int) < ((a.length : Nat) : Int))] ⟨51, [(0, .one (.rs (.rows a))), (1, .one (.rs (.rows b))), (2, .one (.ro (.ints .i64 p))), (9, .one (.int .i64 ((i : Nat) : Int))), (13, .one (.int .i64 ((a.length : Nat) : Int))), (14, .one (.int .i64 ((i : Nat) : Int))), (20, .one (.ro (.ints .i64 (List.getD a i [])))), (21, .one (.int .i64 (((List.length (List.getD a i [])) : Nat) : Int))), (22, .one (.int .i64 0))], []⟩ hT (by kernel_rfl) ⟨(by first | omega | (simp only [lens]; omega) | (simp only [Bool.cond_decide]; omega)), (by first | omega | (simp only [lens]; omega) | (simp only [Bool.cond_decide]; omega)), trivial⟩ ?_
    refine awp_block ?_
    refine awp_loop (I := fun κ σ => ∃ (j : Nat), (((j : Int) ≤ rk (List.getD a i []) (List.getD p i 0)) ∧ (rowFind b p (i : Int) (List.drop j (List.take (Int.toNat (rk (List.getD a i []) (List.getD p i 0))) (List.getD a i []))) = rowFind b p (i : Int) (List.take (Int.toNat (rk (List.getD a i []) (List.getD p i 0))) (List.getD a i []))) ∧ (List.getD a i []).length - j = κ) ∧ σ = ⟨51, [(0, .one (.rs (.rows a))), (1, .one (.rs (.rows b))), (2, .one (.ro (.ints .i64 p))), (9, .one (.int .i64 ((i : Nat) : Int))), (13, .one (.int .i64 ((a.length : Nat) : Int))), (14, .one (.int .i64 ((i : Nat) : Int))), (20, .one (.ro (.ints .i64 (List.getD a i [])))), (21, .one (.int .i64 (((List.length (List.getD a i [])) : Nat) : Int))), (22, .one (.int .i64 ((j : Nat) : Int)))], []⟩) _ ⟨0, ⟨(by omega), (by rfl), rfl⟩, (by kernel_rfl)⟩ ?_
    rintro κ _ ⟨j, ⟨hj, hq, rfl⟩, rfl⟩
    refine awp_run_seq [0, 1, 2, 9, 13, 14, 20, 21, 22, 23] [] [] ⟨51, [(0, .one (.rs (.rows a))), (1, .one (.rs (.rows b))), (2, .one (.ro (.ints .i64 p))), (9, .one (.int .i64 ((i : Nat) : Int))), (13, .one (.int .i64 ((a.length : Nat) : Int))), (14, .one (.int .i64 ((i : Nat) : Int))), (20, .one (.ro (.ints .i64 (List.getD a i [])))), (21, .one (.int .i64 (((List.length (List.getD a i [])) : Nat) : Int))), (22, .one (.int .i64 ((j : Nat) : Int))), (23, .one (.bool (decide (((j : Nat) : Int) < (((List.length (List.getD a i [])) : Nat) : Int)))))], []⟩ hT (by kernel_rfl) trivial ?_
    refine awp_seq ?_
    refine awp_cond (b := (decide (((j : Nat) : Int) < (((List.length (List.getD a i [])) : Nat) : Int)))) (by kernel_rfl) (fun c5 => ?_) (fun c5 => ?_)
    · -- yes 5
      try simp only [bs] at c5
      have hjr2 : j < (List.getD a i []).length := by omega
      have hkin := hfr.at_ (i := j) (by omega)
      have hfb := hls.rb (Int.toNat (List.getD (List.getD a i []) j 0)) (by omega)
      have hfbl := hfb.1
      refine awp_skip ?_
      refine awp_seq ?_
      refine awp_block ?_
      refine awp_run_seq [0, 1, 2, 9, 11, 13, 14, 20, 21, 22] [] [((0 : Int) ≤ ((j : Nat) : Int)), (((j : Nat) : Int) < (((List.length (List.getD a i [])) : Nat) : Int))] ⟨51, [(0, .one (.rs (.rows a))), (1, .one (.rs (.rows b))), (2, .one (.ro (.ints .i64 p))), (9, .one (.int .i64 ((i : Nat) : Int))), (11, .one (.int .i64 (List.getD (List.getD a i []) j 0))), (13, .one (.int .i64 ((a.length : Nat) : Int))), (14, .one (.int .i64 ((i : Nat) : Int))), (20, .one (.ro (.ints .i64 (List.getD a i [])))), (21, .one (.int .i64 (((List.length (List.getD a i [])) : Nat) : Int))), (22, .one (.int .i64 ((j : Nat) : Int)))], []⟩ hT (by kernel_rfl) ⟨(by first | omega | (simp only [lens]; omega) | (simp only [Bool.cond_decide]; omega)), (by first | omega | (simp only [lens]; omega) | (simp only [Bool.cond_decide]; omega)), trivial⟩ ?_
      refine awp_seq ?_
      refine awp_run_seq [0, 1, 2, 9, 11, 13, 14, 20, 21, 22, 31] [] [((0 : Int) ≤ ((i : Nat) : Int)), (((i : Nat) : Int) < ((p.length : Nat) : Int))] ⟨51, [(0, .one (.rs (.rows a))), (1, .one (.rs (.rows b))), (2, .one (.ro (.ints .i64 p))), (9, .one (.int .i64 ((i : Nat) : Int))), (11, .one (.int .i64 (List.getD (List.getD a i []) j 0))), (13, .one (.int .i64 ((a.length : Nat) : Int))), (14, .one (.int .i64 ((i : Nat) : Int))), (20, .one (.ro (.ints .i64 (List.getD a i [])))), (21, .one (.int .i64 (((List.length (List.getD a i [])) : Nat) : Int))), (22, .one (.int .i64 ((j : Nat) : Int))), (31, .one (.bool (decide ((List.getD (List.getD a i []) j 0) = (List.getD p i 0)))))], []⟩ hT (by kernel_rfl) ⟨(by first | omega | (simp only [lens]; omega) | (simp only [Bool.cond_decide]; omega)), (by first | omega | (simp only [lens]; omega) | (simp only [Bool.cond_decide]; omega)), trivial⟩ ?_
      refine awp_cond (b := (decide ((List.getD (List.getD a i []) j 0) = (List.getD p i 0)))) (by kernel_rfl) (fun c7 => ?_) (fun c7 => ?_)
      · -- yes 7
        try simp only [bs] at c7
        have hjeq : Int.toNat (rk (List.getD a i []) (List.getD p i 0)) ≤ j := by rcases Nat.lt_or_ge j (Int.toNat (rk (List.getD a i []) (List.getD p i 0))) with q | q; exact absurd c7 (rk_before (isFull.mem_ hfr hpi.1 hpi.2) (by omega)); exact q
        have hnone : rowFind b p (i : Int) (List.take (Int.toNat (rk (List.getD a i []) (List.getD p i 0))) (List.getD a i [])) = none := by rw [← hq]; exact rowFind_end (by omega)
        have hpn := partFrom_none (b := b) (p := p) hil hnone
        refine awp_exit ?_
        refine awp_run [0, 1, 2, 13, 14] [] [(-9223372036854775808 ≤ (((i + 1) : Nat) : Int) ∧ (((i + 1) : Nat) : Int) ≤ 9223372036854775807)] ⟨51, [(0, .one (.rs (.rows a))), (1, .one (.rs (.rows b))), (2, .one (.ro (.ints .i64 p))), (13, .one (.int .i64 ((a.length : Nat) : Int))), (14, .one (.int .i64 (((i + 1) : Nat) : Int)))], []⟩ hT (by kernel_rfl) ⟨(by first | omega | (simp only [lens]; omega) | (simp only [Bool.cond_decide]; omega)), trivial⟩ ?_
        refine loop_end _ ?_ ⟨(i + 1), ⟨(by omega), (by rw [← hP, hpn]), rfl⟩, (by kernel_rfl)⟩
        omega
      · -- no 7
        try simp only [bs] at c7
        have hjne : j ≠ Int.toNat (rk (List.getD a i []) (List.getD p i 0)) := fun q => c7 (by rw [q]; exact r3)
        have hjl : j < (List.take (Int.toNat (rk (List.getD a i []) (List.getD p i 0))) (List.getD a i [])).length := by omega
        have hpj : List.getD (List.take (Int.toNat (rk (List.getD a i []) (List.getD p i 0))) (List.getD a i [])) j 0 = List.getD (List.getD a i []) j 0 := getD_take _ _ _ (by omega)
        have hrd := rowFind_drop (b := b) (p := p) (i := (i : Int)) hjl
        rw [hpj] at hrd
        refine awp_skip ?_
        -- 15 of 15 operations in any order; 1 orders of the rest
        refine awp_seq (awp_calm2 [(5, ⟨[.one (.ro (.ints .i64 (List.getD b (Int.toNat (List.getD (List.getD a i []) j 0)) []))), .one (.int .i64 ((i : Nat) : Int))], .one (.int .i64 (rk (List.getD b (Int.toNat (List.getD (List.getD a i []) j 0)) []) ((i : Nat) : Int))), [], []⟩), (12, ⟨[.one (.ro (.ints .i64 p)), .one (.int .i64 (List.getD (List.getD a i []) j 0))], .one (.int .i64 (rk p (List.getD (List.getD a i []) j 0))), [], []⟩), (13, ⟨[.one (.ro (.ints .i64 (List.getD b (Int.toNat (List.getD (List.getD a i []) j 0)) []))), .one (.int .i64 (rk p (List.getD (List.getD a i []) j 0)))], .one (.int .i64 (rk (List.getD b (Int.toNat (List.getD (List.getD a i []) j 0)) []) (rk p (List.getD (List.getD a i []) j 0)))), [], []⟩)] false [[], [], [0, 1], [0, 1, 2], [], [0, 1, 2, 3, 4], [], [], [6, 7], [6, 7, 8], [], [], [0, 1, 2, 3, 4, 5, 10, 11], [0, 1, 2, 3, 4, 5, 6, 7, 8, 9, 10, 11, 12], [0, 1, 2, 3, 4, 5, 6, 7, 8, 9, 10, 11, 12, 13]] 15 [0, 1, 2, 9, 11, 13, 14, 20, 21, 22, 46] [] [(0, []), (1, []), (2, [((0 : Int) ≤ (List.getD (List.getD a i []) j 0)), ((List.getD (List.getD a i []) j 0) < ((b.length : Nat) : Int))]), (3, []), (4, []), (5, [(true = true → (AllP [] ∧ [.one (.ro (.ints .i64 (List.getD b (Int.toNat (List.getD (List.getD a i []) j 0)) []))), .one (.int .i64 ((i : Nat) : Int))] = ([.one (.ro (.ints .i64 (List.getD b (Int.toNat (List.getD (List.getD a i []) j 0)) []))), .one (.int .i64 ((i : Nat) : Int))] : List AV) ∧ ACall Try.prog 47 [.one (.ro (.ints .i64 (List.getD b (Int.toNat (List.getD (List.getD a i []) j 0)) []))), .one (.int .i64 ((i : Nat) : Int))] [] (fun ov oh => ov = .one (.int .i64 (rk (List.getD b (Int.toNat (List.getD (List.getD a i []) j 0)) []) ((i : Nat) : Int))) ∧ oh = [])))]), (6, []), (7, []), (8, [((0 : Int) ≤ (List.getD (List.getD a i []) j 0)), ((List.getD (List.getD a i []) j 0) < ((b.length : Nat) : Int))]), (9, []), (10, []), (11, []), (12, [(true = true → (AllP [] ∧ [.one (.ro (.ints .i64 p)), .one (.int .i64 (List.getD (List.getD a i []) j 0))] = ([.one (.ro (.ints .i64 p)), .one (.int .i64 (List.getD (List.getD a i []) j 0))] : List AV) ∧ ACall Try.prog 47 [.one (.ro (.ints .i64 p)), .one (.int .i64 (List.getD (List.getD a i []) j 0))] [] (fun ov oh => ov = .one (.int .i64 (rk p (List.getD (List.getD a i []) j 0))) ∧ oh = [])))]), (13, [(true = true → (AllP [] ∧ [.one (.ro (.ints .i64 (List.getD b (Int.toNat (List.getD (List.getD a i []) j 0)) []))), .one (.int .i64 (rk p (List.getD (List.getD a i []) j 0)))] = ([.one (.ro (.ints .i64 (List.getD b (Int.toNat (List.getD (List.getD a i []) j 0)) []))), .one (.int .i64 (rk p (List.getD (List.getD a i []) j 0)))] : List AV) ∧ ACall Try.prog 47 [.one (.ro (.ints .i64 (List.getD b (Int.toNat (List.getD (List.getD a i []) j 0)) []))), .one (.int .i64 (rk p (List.getD (List.getD a i []) j 0)))] [] (fun ov oh => ov = .one (.int .i64 (rk (List.getD b (Int.toNat (List.getD (List.getD a i []) j 0)) []) (rk p (List.getD (List.getD a i []) j 0)))) ∧ oh = [])))]), (14, [])] [] 1 ⟨51, [(0, .one (.rs (.rows a))), (1, .one (.rs (.rows b))), (2, .one (.ro (.ints .i64 p))), (9, .one (.int .i64 ((i : Nat) : Int))), (11, .one (.int .i64 (List.getD (List.getD a i []) j 0))), (13, .one (.int .i64 ((a.length : Nat) : Int))), (14, .one (.int .i64 ((i : Nat) : Int))), (20, .one (.ro (.ints .i64 (List.getD a i [])))), (21, .one (.int .i64 (((List.length (List.getD a i [])) : Nat) : Int))), (22, .one (.int .i64 ((j : Nat) : Int))), (46, .one (.bool (decide ((rk (List.getD b (Int.toNat (List.getD (List.getD a i []) j 0)) []) ((i : Nat) : Int)) < (rk (List.getD b (Int.toNat (List.getD (List.getD a i []) j 0)) []) (rk p (List.getD (List.getD a i []) j 0)))))))], []⟩ (by kernel_rfl) (by kernel_rfl) hT (by kernel_rfl) (by kernel_rfl) ⟨trivial, trivial, ⟨(by first | omega | (simp only [lens]; omega) | (simp only [Bool.cond_decide]; omega)), (by first | omega | (simp only [lens]; omega) | (simp only [Bool.cond_decide]; omega)), trivial⟩, trivial, trivial, ⟨(fun _ => ⟨trivial, rfl, ref_rank (List.getD b (Int.toNat (List.getD (List.getD a i []) j 0)) []) ((i : Nat) : Int)⟩), trivial⟩, trivial, trivial, ⟨(by first | omega | (simp only [lens]; omega) | (simp only [Bool.cond_decide]; omega)), (by first | omega | (simp only [lens]; omega) | (simp only [Bool.cond_decide]; omega)), trivial⟩, trivial, trivial, trivial, ⟨(fun _ => ⟨trivial, rfl, ref_rank p (List.getD (List.getD a i []) j 0)⟩), trivial⟩, ⟨(fun _ => ⟨trivial, rfl, ref_rank (List.getD b (Int.toNat (List.getD (List.getD a i []) j 0)) []) (rk p (List.getD (List.getD a i []) j 0))⟩), trivial⟩, trivial, trivial⟩ trivial ?_)
        refine awp_cond (b := (decide ((rk (List.getD b (Int.toNat (List.getD (List.getD a i []) j 0)) []) ((i : Nat) : Int)) < (rk (List.getD b (Int.toNat (List.getD (List.getD a i []) j 0)) []) (rk p (List.getD (List.getD a i []) j 0)))))) (by kernel_rfl) (fun c8 => ?_) (fun c8 => ?_)
        · -- yes 8
          try simp only [bs] at c8
          have hbt : blockAt b p (i : Int) (List.getD (List.getD a i []) j 0) = true := decide_eq_true c8
          have hsome : partOf a b p = some ((i : Int), List.getD (List.getD a i []) j 0) := by rw [← hP]; refine partFrom_some hil ?_; show rowFind b p (i : Int) (List.take (Int.toNat (rk (List.getD a i []) (List.getD p i 0))) (List.getD a i [])) = _; rw [← hq, hrd, if_pos hbt]
          refine awp_run_seq [6, 7, 8] [] [] ⟨51, [(6, .one (.int .i64 ((i : Nat) : Int))), (7, .one (.int .i64 (List.getD (List.getD a i []) j 0))), (8, .one (.bool true))], []⟩ hT (by kernel_rfl) trivial ?_
          refine awp_ret ?_
          refine kRet.ret _ [] [] (.tup [(false, [(.int .i64 ((i : Nat) : Int))]), (false, [(.int .i64 (List.getD (List.getD a i []) j 0))]), (false, [(.bool true)])]) [] (by kernel_rfl) trivial ?_
          exact ⟨by first | rw [show (po1 (partOf a b p)) = ((i : Nat) : Int) from Eq.symm (by first | (rw [hsome]; rfl) | (rw [hsome])), show (po2 (partOf a b p)) = (List.getD (List.getD a i []) j 0) from Eq.symm (by first | (rw [hsome]; rfl) | (rw [hsome])), show (Option.isSome (partOf a b p)) = true from Eq.symm (by first | (rw [hsome]; rfl) | (rw [hsome]))] | rw [show (po1 (partOf a b p)) = ((i : Nat) : Int) from Eq.symm (by first | (rw [hsome]; rfl) | (rw [hsome]))] | rw [show (po2 (partOf a b p)) = (List.getD (List.getD a i []) j 0) from Eq.symm (by first | (rw [hsome]; rfl) | (rw [hsome]))] | rw [show (Option.isSome (partOf a b p)) = true from Eq.symm (by first | (rw [hsome]; rfl) | (rw [hsome]))], rfl⟩
        · -- no 8
          try simp only [bs] at c8
          have hqs : rowFind b p (i : Int) (List.drop (j + 1) (List.take (Int.toNat (rk (List.getD a i []) (List.getD p i 0))) (List.getD a i []))) = rowFind b p (i : Int) (List.take (Int.toNat (rk (List.getD a i []) (List.getD p i 0))) (List.getD a i [])) := by rw [← hq, hrd, if_neg (by rw [blockAt, decide_eq_true_eq]; exact c8)]
          refine awp_skip ?_
          refine awp_run [0, 1, 2, 9, 13, 14, 20, 21, 22] [] [(-9223372036854775808 ≤ (((j + 1) : Nat) : Int) ∧ (((j + 1) : Nat) : Int) ≤ 9223372036854775807)] ⟨51, [(0, .one (.rs (.rows a))), (1, .one (.rs (.rows b))), (2, .one (.ro (.ints .i64 p))), (9, .one (.int .i64 ((i : Nat) : Int))), (13, .one (.int .i64 ((a.length : Nat) : Int))), (14, .one (.int .i64 ((i : Nat) : Int))), (20, .one (.ro (.ints .i64 (List.getD a i [])))), (21, .one (.int .i64 (((List.length (List.getD a i [])) : Nat) : Int))), (22, .one (.int .i64 (((j + 1) : Nat) : Int)))], []⟩ hT (by kernel_rfl) ⟨(by first | omega | (simp only [lens]; omega) | (simp only [Bool.cond_decide]; omega)), trivial⟩ ?_
          refine loop_end _ ?_ ⟨(j + 1), ⟨(by omega), (by exact hqs), rfl⟩, (by kernel_rfl)⟩
          omega
    · -- no 5
      try simp only [bs] at c5
      exfalso; omega
  · -- no 2
    try simp only [bs] at c2
    have hn : partOf a b p = none := by rw [← hP]; exact partFrom_end (by omega)
    refine awp_exit ?_
    refine awp_run_seq [6, 7, 8] [] [] ⟨51, [(6, .one (.int .i64 0)), (7, .one (.int .i64 0)), (8, .one (.bool false))], []⟩ hT (by kernel_rfl) trivial ?_
    refine awp_ret ?_
    refine kRet.ret _ [] [] (.tup [(false, [(.int .i64 0)]), (false, [(.int .i64 0)]), (false, [(.bool false)])]) [] (by kernel_rfl) trivial ?_
    exact ⟨by first | rw [show (po1 (partOf a b p)) = 0 from Eq.symm (by first | (rw [hn]; rfl) | (rw [hn])), show (po2 (partOf a b p)) = 0 from Eq.symm (by first | (rw [hn]; rfl) | (rw [hn])), show (Option.isSome (partOf a b p)) = false from Eq.symm (by first | (rw [hn]; rfl) | (rw [hn]))] | rw [show (po1 (partOf a b p)) = 0 from Eq.symm (by first | (rw [hn]; rfl) | (rw [hn]))] | rw [show (po2 (partOf a b p)) = 0 from Eq.symm (by first | (rw [hn]; rfl) | (rw [hn]))] | rw [show (Option.isSome (partOf a b p)) = false from Eq.symm (by first | (rw [hn]; rfl) | (rw [hn]))], rfl⟩

theorem stable_refused (e : Int) : ACall Try.prog 113 [.one (.int .i64 e)] [] (fun ov oh => ov = .one (.int .i64 (refusedOf e)) ∧ oh = []) := by
  refine acall_intro hT Try.func113 rfl (by kernel_rfl) rfl (by kernel_rfl) ?_
  refine awp_run_seq [0] [] [] ⟨6, [(0, .one (.int .i64 e))], []⟩ hT (by kernel_rfl) trivial ?_
  refine awp_seq ?_
  refine awp_run_seq [0, 4] [] [] ⟨6, [(0, .one (.int .i64 e)), (4, .one (.bool (decide (e = 0))))], []⟩ hT (by kernel_rfl) trivial ?_
  refine awp_cond (b := (decide (e = 0))) (by kernel_rfl) (fun c1 => ?_) (fun c1 => ?_)
  · -- yes 1
    try simp only [bs] at c1
    refine awp_run_seq [2] [] [] ⟨6, [(2, .one (.int .i64 9))], []⟩ hT (by kernel_rfl) trivial ?_
    refine awp_ret ?_
    refine kRet.ret _ [] [] (.one (.int .i64 9)) [] (by kernel_rfl) trivial ?_
    exact ⟨congrArg (fun x1 => (.one (.int .i64 x1) : AV)) (show 9 = (refusedOf e) from by rw [refusedOf, if_pos (by omega)]), rfl⟩
  · -- no 1
    try simp only [bs] at c1
    refine awp_skip ?_
    refine awp_run_seq [2] [] [] ⟨6, [(2, .one (.int .i64 e))], []⟩ hT (by kernel_rfl) trivial ?_
    refine awp_ret ?_
    refine kRet.ret _ [] [] (.one (.int .i64 e)) [] (by kernel_rfl) trivial ?_
    exact ⟨congrArg (fun x1 => (.one (.int .i64 x1) : AV)) (show e = (refusedOf e) from by rw [refusedOf, if_neg (by omega)]), rfl⟩

theorem stable_both (a b : List (List Int)) (p q : List Int) : ACall Try.prog 43 [.one (.rs (.rows a)), .one (.rs (.rows b)), .one (.ro (.ints .i64 p)), .one (.ro (.ints .i64 q))] [] (fun ov oh => ov = .tup [(false, [(.ro (.ints .i64 (okL (bothErr2 a b p q) (betters a p q))))]), (false, [(.ro (.ints .i64 (okL (bothErr2 a b p q) (worses a p q))))]), (false, [(.int .i64 (bothErr2 a b p q))])] ∧ oh = []) := by
  refine acall_intro hT Try.func43 rfl (by kernel_rfl) rfl (by kernel_rfl) ?_
  refine awp_run_seq [0, 1, 2, 3] [] [] ⟨93, [(0, .one (.rs (.rows a))), (1, .one (.rs (.rows b))), (2, .one (.ro (.ints .i64 p))), (3, .one (.ro (.ints .i64 q)))], []⟩ hT (by kernel_rfl) trivial ?_
  refine awp_seq ?_
  refine awp_seq (awp_region ?_)
  refine aops_run 3 [0, 1, 2, 3, 24, 25, 26] [] [] ⟨93, [(0, .one (.rs (.rows a))), (1, .one (.rs (.rows b))), (2, .one (.ro (.ints .i64 p))), (3, .one (.ro (.ints .i64 q))), (24, .one (.rs (.rows a))), (25, .one (.rs (.rows b))), (26, .one (.ro (.ints .i64 p)))], []⟩ hT (by kernel_rfl) (by kernel_rfl) trivial ?_
  refine aops_pure false ⟨true, [], 64, [.one (.rs (.rows a)), .one (.rs (.rows b)), .one (.ro (.ints .i64 p))], []⟩ [.one (.rs (.rows a)), .one (.rs (.rows b)), .one (.ro (.ints .i64 p))] (.tup [(false, [(.int .i64 (pairI a b p))]), (false, [(.int .i64 (pairK a b p))]), (false, [(.int .i64 (pairErr a b p))])]) ⟨93, [(0, .one (.rs (.rows a))), (1, .one (.rs (.rows b))), (2, .one (.ro (.ints .i64 p))), (3, .one (.ro (.ints .i64 q))), (24, .one (.rs (.rows a))), (25, .one (.rs (.rows b))), (26, .one (.ro (.ints .i64 p))), (27, .tup [(false, [(.int .i64 (pairI a b p))]), (false, [(.int .i64 (pairK a b p))]), (false, [(.int .i64 (pairErr a b p))])])], []⟩ (by kernel_rfl) (by kernel_rfl) (fun _ => trivial) rfl (fun _ => stable_pair a b p) ?_
  refine aops_run 7 [0, 1, 2, 3, 13] [] [] ⟨93, [(0, .one (.rs (.rows a))), (1, .one (.rs (.rows b))), (2, .one (.ro (.ints .i64 p))), (3, .one (.ro (.ints .i64 q))), (13, .one (.int .i64 (pairErr a b p)))], []⟩ hT (by kernel_rfl) (by kernel_rfl) trivial ?_
  refine aops_end_seq (by kernel_rfl) ?_
  refine awp_run_seq [0, 1, 2, 3, 13, 32] [] [] ⟨93, [(0, .one (.rs (.rows a))), (1, .one (.rs (.rows b))), (2, .one (.ro (.ints .i64 p))), (3, .one (.ro (.ints .i64 q))), (13, .one (.int .i64 (pairErr a b p))), (32, .one (.bool (decide ((pairErr a b p) ≠ 5))))], []⟩ hT (by kernel_rfl) trivial ?_
  refine awp_cond (b := (decide ((pairErr a b p) ≠ 5))) (by kernel_rfl) (fun c2 => ?_) (fun c2 => ?_)
  · -- yes 2
    try simp only [bs] at c2
    obtain ⟨h1, h2⟩ := stay_ref (q := q) c2
    have hB0 : (bothErr2 a b p q) ≠ 0 := by omega
    refine awp_seq (awp_region ?_)
    refine aops_run 1 [33] [] [] ⟨93, [(33, .one (.int .i64 (pairErr a b p)))], []⟩ hT (by kernel_rfl) (by kernel_rfl) trivial ?_
    refine aops_pure false ⟨true, [], 113, [.one (.int .i64 (pairErr a b p))], []⟩ [.one (.int .i64 (pairErr a b p))] (.one (.int .i64 (refusedOf (pairErr a b p)))) ⟨93, [(33, .one (.int .i64 (pairErr a b p))), (34, .one (.int .i64 (refusedOf (pairErr a b p))))], []⟩ (by kernel_rfl) (by kernel_rfl) (fun _ => trivial) rfl (fun _ => stable_refused (pairErr a b p)) ?_
    refine aops_run 3 [8, 9, 10] [] [] ⟨93, [(8, .one .nils), (9, .one .nils), (10, .one (.int .i64 (refusedOf (pairErr a b p))))], []⟩ hT (by kernel_rfl) (by kernel_rfl) trivial ?_
    refine aops_end_seq (by kernel_rfl) ?_
    refine awp_weak (awk_slot 8 (.one .nils) (.one (.ro (.ints .i64 []))) _ (by kernel_rfl) (.one (wkv_nil0 rfl))) ?_
    refine awp_weak (awk_slot 9 (.one .nils) (.one (.ro (.ints .i64 []))) _ (by kernel_rfl) (.one (wkv_nil0 rfl))) ?_
    refine awp_ret ?_
    refine kRet.ret _ [] [] (.tup [(false, [(.ro (.ints .i64 []))]), (false, [(.ro (.ints .i64 []))]), (false, [(.int .i64 (refusedOf (pairErr a b p)))])]) [] (by kernel_rfl) trivial ?_
    exact ⟨by first | rw [show (okL (bothErr2 a b p q) (betters a p q)) = [] from Eq.symm (by first | exact okL_no _ hB0 | exact (okL_no _ hB0).symm), show (okL (bothErr2 a b p q) (worses a p q)) = [] from Eq.symm (by first | exact okL_no _ hB0 | exact (okL_no _ hB0).symm), show (bothErr2 a b p q) = (refusedOf (pairErr a b p)) from Eq.symm (by first | exact h1 | exact h1.symm)] | rw [show (okL (bothErr2 a b p q) (betters a p q)) = [] from Eq.symm (by first | exact okL_no _ hB0 | exact (okL_no _ hB0).symm)] | rw [show (okL (bothErr2 a b p q) (worses a p q)) = [] from Eq.symm (by first | exact okL_no _ hB0 | exact (okL_no _ hB0).symm)] | rw [show (bothErr2 a b p q) = (refusedOf (pairErr a b p)) from Eq.symm (by first | exact h1 | exact h1.symm)], rfl⟩
  · -- no 2
    try simp only [bs] at c2
    have hp5 : pairErr a b p = 5 := by omega
    obtain ⟨hls, hfp, hnp⟩ := pair_none hp5
    have hsp := stay_none hp5
    refine awp_skip ?_
    refine awp_seq ?_
    refine awp_seq (awp_region ?_)
    refine aops_run 3 [0, 2, 3, 36, 37, 38] [] [] ⟨93, [(0, .one (.rs (.rows a))), (2, .one (.ro (.ints .i64 p))), (3, .one (.ro (.ints .i64 q))), (36, .one (.rs (.rows a))), (37, .one (.rs (.rows b))), (38, .one (.ro (.ints .i64 q)))], []⟩ hT (by kernel_rfl) (by kernel_rfl) trivial ?_
    refine aops_pure false ⟨true, [], 64, [.one (.rs (.rows a)), .one (.rs (.rows b)), .one (.ro (.ints .i64 q))], []⟩ [.one (.rs (.rows a)), .one (.rs (.rows b)), .one (.ro (.ints .i64 q))] (.tup [(false, [(.int .i64 (pairI a b q))]), (false, [(.int .i64 (pairK a b q))]), (false, [(.int .i64 (pairErr a b q))])]) ⟨93, [(0, .one (.rs (.rows a))), (2, .one (.ro (.ints .i64 p))), (3, .one (.ro (.ints .i64 q))), (36, .one (.rs (.rows a))), (37, .one (.rs (.rows b))), (38, .one (.ro (.ints .i64 q))), (39, .tup [(false, [(.int .i64 (pairI a b q))]), (false, [(.int .i64 (pairK a b q))]), (false, [(.int .i64 (pairErr a b q))])])], []⟩ (by kernel_rfl) (by kernel_rfl) (fun _ => trivial) rfl (fun _ => stable_pair a b q) ?_
    refine aops_run 7 [0, 2, 3, 16] [] [] ⟨93, [(0, .one (.rs (.rows a))), (2, .one (.ro (.ints .i64 p))), (3, .one (.ro (.ints .i64 q))), (16, .one (.int .i64 (pairErr a b q)))], []⟩ hT (by kernel_rfl) (by kernel_rfl) trivial ?_
    refine aops_end_seq (by kernel_rfl) ?_
    refine awp_run_seq [0, 2, 3, 16, 44] [] [] ⟨93, [(0, .one (.rs (.rows a))), (2, .one (.ro (.ints .i64 p))), (3, .one (.ro (.ints .i64 q))), (16, .one (.int .i64 (pairErr a b q))), (44, .one (.bool (decide ((pairErr a b q) ≠ 5))))], []⟩ hT (by kernel_rfl) trivial ?_
    refine awp_cond (b := (decide ((pairErr a b q) ≠ 5))) (by kernel_rfl) (fun c5 => ?_) (fun c5 => ?_)
    · -- yes 5
      try simp only [bs] at c5
      obtain ⟨h1, h2⟩ := stay_ref2 hp5 c5
      have hB0 : (bothErr2 a b p q) ≠ 0 := by omega
      refine awp_seq (awp_region ?_)
      refine aops_run 1 [45] [] [] ⟨93, [(45, .one (.int .i64 (pairErr a b q)))], []⟩ hT (by kernel_rfl) (by kernel_rfl) trivial ?_
      refine aops_pure false ⟨true, [], 113, [.one (.int .i64 (pairErr a b q))], []⟩ [.one (.int .i64 (pairErr a b q))] (.one (.int .i64 (refusedOf (pairErr a b q)))) ⟨93, [(45, .one (.int .i64 (pairErr a b q))), (46, .one (.int .i64 (refusedOf (pairErr a b q))))], []⟩ (by kernel_rfl) (by kernel_rfl) (fun _ => trivial) rfl (fun _ => stable_refused (pairErr a b q)) ?_
      refine aops_run 3 [8, 9, 10] [] [] ⟨93, [(8, .one .nils), (9, .one .nils), (10, .one (.int .i64 (refusedOf (pairErr a b q))))], []⟩ hT (by kernel_rfl) (by kernel_rfl) trivial ?_
      refine aops_end_seq (by kernel_rfl) ?_
      refine awp_weak (awk_slot 8 (.one .nils) (.one (.ro (.ints .i64 []))) _ (by kernel_rfl) (.one (wkv_nil0 rfl))) ?_
      refine awp_weak (awk_slot 9 (.one .nils) (.one (.ro (.ints .i64 []))) _ (by kernel_rfl) (.one (wkv_nil0 rfl))) ?_
      refine awp_ret ?_
      refine kRet.ret _ [] [] (.tup [(false, [(.ro (.ints .i64 []))]), (false, [(.ro (.ints .i64 []))]), (false, [(.int .i64 (refusedOf (pairErr a b q)))])]) [] (by kernel_rfl) trivial ?_
      exact ⟨by first | rw [show (okL (bothErr2 a b p q) (betters a p q)) = [] from Eq.symm (by first | exact okL_no _ hB0 | exact (okL_no _ hB0).symm), show (okL (bothErr2 a b p q) (worses a p q)) = [] from Eq.symm (by first | exact okL_no _ hB0 | exact (okL_no _ hB0).symm), show (bothErr2 a b p q) = (refusedOf (pairErr a b q)) from Eq.symm (by first | exact h1 | exact h1.symm)] | rw [show (okL (bothErr2 a b p q) (betters a p q)) = [] from Eq.symm (by first | exact okL_no _ hB0 | exact (okL_no _ hB0).symm)] | rw [show (okL (bothErr2 a b p q) (worses a p q)) = [] from Eq.symm (by first | exact okL_no _ hB0 | exact (okL_no _ hB0).symm)] | rw [show (bothErr2 a b p q) = (refusedOf (pairErr a b q)) from Eq.symm (by first | exact h1 | exact h1.symm)], rfl⟩
    · -- no 5
      try simp only [bs] at c5
      have hq5 : pairErr a b q = 5 := by omega
      obtain ⟨_, hfq, hnq⟩ := pair_none hq5
      have hB : (bothErr2 a b p q) = 0 := both_none hp5 hq5
      have h6 := hls.small
      have hlb := hls.len
      have hpl := hfp.1
      have hql := hfq.1
      refine awp_skip ?_
      -- 8 of 8 operations in any order; 1 orders of the rest
      refine awp_seq (awp_calm2 [] false [[], [0], [0, 1], [], [3], [3, 4], [0, 1, 2], [0, 1, 2, 3, 4, 5, 6]] 8 [0, 2, 3, 17, 18] [149, 152] [(0, []), (1, []), (2, [((0 : Int) ≤ ((a.length : Nat) : Int)), (((a.length : Nat) : Int) ≤ ((a.length : Nat) : Int)), ((8 : Int) * ((a.length : Nat) : Int) ≤ 281474976710656), (((a.length : Nat) : Int) ≤ 9223372036854775807)]), (3, []), (4, []), (5, [((0 : Int) ≤ ((a.length : Nat) : Int)), (((a.length : Nat) : Int) ≤ ((a.length : Nat) : Int)), ((8 : Int) * ((a.length : Nat) : Int) ≤ 281474976710656), (((a.length : Nat) : Int) ≤ 9223372036854775807)]), (6, []), (7, [])] [] 1 ⟨93, [(0, .one (.rs (.rows a))), (2, .one (.ro (.ints .i64 p))), (3, .one (.ro (.ints .i64 q))), (17, .one (.rw 149 0 a.length)), (18, .one (.rw 152 0 a.length))], [(149, .flat (.ints .i64 (List.replicate a.length (0 : Int)))), (152, .flat (.ints .i64 (List.replicate a.length (0 : Int))))]⟩ (by kernel_rfl) (by kernel_rfl) hT (by kernel_rfl) (by kernel_rfl) ⟨trivial, trivial, ⟨(by first | omega | (simp only [lens]; omega) | (simp only [Bool.cond_decide]; omega)), (by first | omega | (simp only [lens]; omega) | (simp only [Bool.cond_decide]; omega)), (by first | omega | (simp only [lens]; omega) | (simp only [Bool.cond_decide]; omega)), (by first | omega | (simp only [lens]; omega) | (simp only [Bool.cond_decide]; omega)), trivial⟩, trivial, trivial, ⟨(by first | omega | (simp only [lens]; omega) | (simp only [Bool.cond_decide]; omega)), (by first | omega | (simp only [lens]; omega) | (simp only [Bool.cond_decide]; omega)), (by first | omega | (simp only [lens]; omega) | (simp only [Bool.cond_decide]; omega)), (by first | omega | (simp only [lens]; omega) | (simp only [Bool.cond_decide]; omega)), trivial⟩, trivial, trivial, trivial⟩ trivial ?_)
      refine awp_seq ?_
      refine awp_run_seq [2, 3, 17, 18, 53, 54, 55] [149, 152] [] ⟨93, [(2, .one (.ro (.ints .i64 p))), (3, .one (.ro (.ints .i64 q))), (17, .one (.rw 149 0 a.length)), (18, .one (.rw 152 0 a.length)), (53, .one (.rs (.rows a))), (54, .one (.int .i64 ((a.length : Nat) : Int))), (55, .one (.int .i64 0))], [(149, .flat (.ints .i64 (List.replicate a.length (0 : Int)))), (152, .flat (.ints .i64 (List.replicate a.length (0 : Int))))]⟩ hT (by kernel_rfl) trivial ?_
      refine awp_block ?_
      refine awp_loop (I := fun κ σ => ∃ (i : Nat) (x y : List Int), ((i ≤ a.length) ∧ (x.length = a.length ∧ ∀ j, j < i → x.getD j 0 = betterAt (a.getD j []) (p.getD j 0) (q.getD j 0)) ∧ (y.length = a.length ∧ ∀ j, j < i → y.getD j 0 = worseAt (a.getD j []) (p.getD j 0) (q.getD j 0)) ∧ a.length - i = κ) ∧ σ = ⟨93, [(2, .one (.ro (.ints .i64 p))), (3, .one (.ro (.ints .i64 q))), (17, .one (.rw 149 0 a.length)), (18, .one (.rw 152 0 a.length)), (53, .one (.rs (.rows a))), (54, .one (.int .i64 ((a.length : Nat) : Int))), (55, .one (.int .i64 ((i : Nat) : Int)))], [(149, .flat (.ints .i64 x)), (152, .flat (.ints .i64 y))]⟩) _ ⟨0, (List.replicate a.length (0 : Int)), (List.replicate a.length (0 : Int)), ⟨(by omega), (by exact ⟨by simp, fun j hj => by omega⟩), (by exact ⟨by simp, fun j hj => by omega⟩), rfl⟩, (by kernel_rfl)⟩ ?_
      rintro κ _ ⟨i, x, y, ⟨hi, hx, hy, rfl⟩, rfl⟩
      refine awp_run_seq [2, 3, 17, 18, 53, 54, 55, 56] [149, 152] [] ⟨93, [(2, .one (.ro (.ints .i64 p))), (3, .one (.ro (.ints .i64 q))), (17, .one (.rw 149 0 a.length)), (18, .one (.rw 152 0 a.length)), (53, .one (.rs (.rows a))), (54, .one (.int .i64 ((a.length : Nat) : Int))), (55, .one (.int .i64 ((i : Nat) : Int))), (56, .one (.bool (decide (((i : Nat) : Int) < ((a.length : Nat) : Int)))))], [(149, .flat (.ints .i64 x)), (152, .flat (.ints .i64 y))]⟩ hT (by kernel_rfl) trivial ?_
      refine awp_seq ?_
      refine awp_cond (b := (decide (((i : Nat) : Int) < ((a.length : Nat) : Int)))) (by kernel_rfl) (fun c9 => ?_) (fun c9 => ?_)
      · -- yes 9
        try simp only [bs] at c9
        have hil : i < a.length := by omega
        have hfr := hls.ra i hil
        have hrl := hfr.1
        have hpi := hfp.at_ hil
        have hqi := hfq.at_ hil
        obtain ⟨r1, r2, r3⟩ := rk_in (isFull.mem_ hfr hpi.1 hpi.2)
        obtain ⟨s1, s2, s3⟩ := rk_in (isFull.mem_ hfr hqi.1 hqi.2)
        refine awp_skip ?_
        refine awp_seq ?_
        refine awp_block ?_
        refine awp_run_seq [2, 3, 17, 18, 19, 20, 53, 54, 55] [149, 152] [((0 : Int) ≤ ((i : Nat) : Int)), (((i : Nat) : Int) < ((a.length : Nat) : Int))] ⟨93, [(2, .one (.ro (.ints .i64 p))), (3, .one (.ro (.ints .i64 q))), (17, .one (.rw 149 0 a.length)), (18, .one (.rw 152 0 a.length)), (19, .one (.int .i64 ((i : Nat) : Int))), (20, .one (.ro (.ints .i64 (List.getD a i [])))), (53, .one (.rs (.rows a))), (54, .one (.int .i64 ((a.length : Nat) : Int))), (55, .one (.int .i64 ((i : Nat) : Int)))], [(149, .flat (.ints .i64 x)), (152, .flat (.ints .i64 y))]⟩ hT (by kernel_rfl) ⟨(by first | omega | (simp only [lens]; omega) | (simp only [Bool.cond_decide]; omega)), (by first | omega | (simp only [lens]; omega) | (simp only [Bool.cond_decide]; omega)), trivial⟩ ?_
        -- 14 of 14 operations in any order; 1 orders of the rest
        refine awp_seq (awp_calm2 [(5, ⟨[.one (.ro (.ints .i64 (List.getD a i []))), .one (.int .i64 (List.getD p i 0))], .one (.int .i64 (rk (List.getD a i []) (List.getD p i 0))), [], []⟩), (11, ⟨[.one (.ro (.ints .i64 (List.getD a i []))), .one (.int .i64 (List.getD q i 0))], .one (.int .i64 (rk (List.getD a i []) (List.getD q i 0))), [], []⟩)] false [[], [], [], [1, 2], [1, 2, 3], [0, 1, 2, 3, 4], [], [], [], [7, 8], [7, 8, 9], [0, 1, 2, 3, 4, 5, 6, 7, 8, 9, 10], [0, 1, 2, 3, 4, 5, 6, 7, 8, 9, 10, 11], [0, 1, 2, 3, 4, 5, 6, 7, 8, 9, 10, 11, 12]] 14 [2, 3, 17, 18, 19, 20, 21, 22, 53, 54, 55] [149, 152] [(0, []), (1, []), (2, []), (3, [((0 : Int) ≤ ((i : Nat) : Int)), (((i : Nat) : Int) < ((p.length : Nat) : Int))]), (4, []), (5, [(true = true → (AllP [] ∧ [.one (.ro (.ints .i64 (List.getD a i []))), .one (.int .i64 (List.getD p i 0))] = ([.one (.ro (.ints .i64 (List.getD a i []))), .one (.int .i64 (List.getD p i 0))] : List AV) ∧ ACall Try.prog 95 [.one (.ro (.ints .i64 (List.getD a i []))), .one (.int .i64 (List.getD p i 0))] [] (fun ov oh => ov = .one (.int .i64 (rk (List.getD a i []) (List.getD p i 0))) ∧ oh = [])))]), (6, []), (7, []), (8, []), (9, [((0 : Int) ≤ ((i : Nat) : Int)), (((i : Nat) : Int) < ((q.length : Nat) : Int))]), (10, []), (11, [(true = true → (AllP [] ∧ [.one (.ro (.ints .i64 (List.getD a i []))), .one (.int .i64 (List.getD q i 0))] = ([.one (.ro (.ints .i64 (List.getD a i []))), .one (.int .i64 (List.getD q i 0))] : List AV) ∧ ACall Try.prog 95 [.one (.ro (.ints .i64 (List.getD a i []))), .one (.int .i64 (List.getD q i 0))] [] (fun ov oh => ov = .one (.int .i64 (rk (List.getD a i []) (List.getD q i 0))) ∧ oh = [])))]), (12, []), (13, [])] [] 1 ⟨93, [(2, .one (.ro (.ints .i64 p))), (3, .one (.ro (.ints .i64 q))), (17, .one (.rw 149 0 a.length)), (18, .one (.rw 152 0 a.length)), (19, .one (.int .i64 ((i : Nat) : Int))), (20, .one (.ro (.ints .i64 (List.getD a i [])))), (21, .one (.int .i64 (rk (List.getD a i []) (List.getD p i 0)))), (22, .one (.int .i64 (rk (List.getD a i []) (List.getD q i 0)))), (53, .one (.rs (.rows a))), (54, .one (.int .i64 ((a.length : Nat) : Int))), (55, .one (.int .i64 ((i : Nat) : Int)))], [(149, .flat (.ints .i64 x)), (152, .flat (.ints .i64 y))]⟩ (by kernel_rfl) (by kernel_rfl) hT (by kernel_rfl) (by kernel_rfl) ⟨trivial, trivial, trivial, ⟨(by first | omega | (simp only [lens]; omega) | (simp only [Bool.cond_decide]; omega)), (by first | omega | (simp only [lens]; omega) | (simp only [Bool.cond_decide]; omega)), trivial⟩, trivial, ⟨(fun _ => ⟨trivial, rfl, index_ints (List.getD a i []) (List.getD p i 0)⟩), trivial⟩, trivial, trivial, trivial, ⟨(by first | omega | (simp only [lens]; omega) | (simp only [Bool.cond_decide]; omega)), (by first | omega | (simp only [lens]; omega) | (simp only [Bool.cond_decide]; omega)), trivial⟩, trivial, ⟨(fun _ => ⟨trivial, rfl, index_ints (List.getD a i []) (List.getD q i 0)⟩), trivial⟩, trivial, trivial, trivial⟩ trivial ?_)
        -- 2 orders
        refine awp_any [] false [2, 3, 17, 18, 53, 54, 55] [149, 152] 2 [(0, []), (1, []), (2, []), (3, []), (4, []), (5, []), (6, []), (7, []), (8, [((0 : Int) ≤ (min (rk (List.getD a i []) (List.getD p i 0)) (rk (List.getD a i []) (List.getD q i 0)))), ((min (rk (List.getD a i []) (List.getD p i 0)) (rk (List.getD a i []) (List.getD q i 0))) < (((List.length (List.getD a i [])) : Nat) : Int))]), (9, []), (10, []), (11, []), (12, []), (13, []), (14, [((0 : Int) ≤ (max (rk (List.getD a i []) (List.getD p i 0)) (rk (List.getD a i []) (List.getD q i 0)))), ((max (rk (List.getD a i []) (List.getD p i 0)) (rk (List.getD a i []) (List.getD q i 0))) < (((List.length (List.getD a i [])) : Nat) : Int))]), (15, []), (16, [((0 : Int) ≤ ((i : Nat) : Int)), (((i : Nat) : Int) < ((a.length : Nat) : Int))]), (17, [(i < x.length)]), (18, [((0 : Int) ≤ ((i : Nat) : Int)), (((i : Nat) : Int) < ((a.length : Nat) : Int))]), (19, [(i < y.length)])] ⟨93, [(2, .one (.ro (.ints .i64 p))), (3, .one (.ro (.ints .i64 q))), (17, .one (.rw 149 0 a.length)), (18, .one (.rw 152 0 a.length)), (53, .one (.rs (.rows a))), (54, .one (.int .i64 ((a.length : Nat) : Int))), (55, .one (.int .i64 ((i : Nat) : Int)))], [(149, .flat (.ints .i64 (List.set x i (List.getD (List.getD a i []) (Int.toNat (min (rk (List.getD a i []) (List.getD p i 0)) (rk (List.getD a i []) (List.getD q i 0)))) 0)))), (152, .flat (.ints .i64 (List.set y i (List.getD (List.getD a i []) (Int.toNat (max (rk (List.getD a i []) (List.getD p i 0)) (rk (List.getD a i []) (List.getD q i 0)))) 0))))]⟩ (by kernel_rfl) (by kernel_rfl) hT (by kernel_rfl) ⟨trivial, trivial, trivial, trivial, trivial, trivial, trivial, trivial, ⟨(by first | omega | (simp only [lens]; omega) | (simp only [Bool.cond_decide]; omega)), (by first | omega | (simp only [lens]; omega) | (simp only [Bool.cond_decide]; omega)), trivial⟩, trivial, trivial, trivial, trivial, trivial, ⟨(by first | omega | (simp only [lens]; omega) | (simp only [Bool.cond_decide]; omega)), (by first | omega | (simp only [lens]; omega) | (simp only [Bool.cond_decide]; omega)), trivial⟩, trivial, ⟨(by first | omega | (simp only [lens]; omega) | (simp only [Bool.cond_decide]; omega)), (by first | omega | (simp only [lens]; omega) | (simp only [Bool.cond_decide]; omega)), trivial⟩, ⟨(by first | omega | (simp only [lens]; omega) | (simp only [Bool.cond_decide]; omega)), trivial⟩, ⟨(by first | omega | (simp only [lens]; omega) | (simp only [Bool.cond_decide]; omega)), (by first | omega | (simp only [lens]; omega) | (simp only [Bool.cond_decide]; omega)), trivial⟩, ⟨(by first | omega | (simp only [lens]; omega) | (simp only [Bool.cond_decide]; omega)), trivial⟩, trivial⟩ ?_
        refine awp_run [2, 3, 17, 18, 53, 54, 55] [149, 152] [(-9223372036854775808 ≤ (((i + 1) : Nat) : Int) ∧ (((i + 1) : Nat) : Int) ≤ 9223372036854775807)] ⟨93, [(2, .one (.ro (.ints .i64 p))), (3, .one (.ro (.ints .i64 q))), (17, .one (.rw 149 0 a.length)), (18, .one (.rw 152 0 a.length)), (53, .one (.rs (.rows a))), (54, .one (.int .i64 ((a.length : Nat) : Int))), (55, .one (.int .i64 (((i + 1) : Nat) : Int)))], [(149, .flat (.ints .i64 (List.set x i (List.getD (List.getD a i []) (Int.toNat (min (rk (List.getD a i []) (List.getD p i 0)) (rk (List.getD a i []) (List.getD q i 0)))) 0)))), (152, .flat (.ints .i64 (List.set y i (List.getD (List.getD a i []) (Int.toNat (max (rk (List.getD a i []) (List.getD p i 0)) (rk (List.getD a i []) (List.getD q i 0)))) 0))))]⟩ hT (by kernel_rfl) ⟨(by first | omega | (simp only [lens]; omega) | (simp only [Bool.cond_decide]; omega)), trivial⟩ ?_
        refine loop_end _ ?_ ⟨(i + 1), (List.set x i (List.getD (List.getD a i []) (Int.toNat (min (rk (List.getD a i []) (List.getD p i 0)) (rk (List.getD a i []) (List.getD q i 0)))) 0)), (List.set y i (List.getD (List.getD a i []) (Int.toNat (max (rk (List.getD a i []) (List.getD p i 0)) (rk (List.getD a i []) (List.getD q i 0)))) 0)), ⟨(by omega), (by exact set_fill hil hx rfl), (by exact set_fill hil hy rfl), rfl⟩, (by kernel_rfl)⟩
        omega
      · -- no 9
        try simp only [bs] at c9
        have hxe : x = (betters a p q) := list_ext 0 (by rw [hx.1, betters_len]) (fun j hj => by rw [hx.2 j (by omega), betters_at (by omega)])
        have hye : y = (worses a p q) := list_ext 0 (by rw [hy.1, worses_len]) (fun j hj => by rw [hy.2 j (by omega), worses_at (by omega)])
        refine awp_exit ?_
        refine awp_weak (awk_seal 149 (s' := ⟨93, [(2, .one (.ro (.ints .i64 p))), (3, .one (.ro (.ints .i64 q))), (17, .one (.ro (.ints .i64 (List.take a.length x)))), (18, .one (.rw 152 0 a.length)), (53, .one (.rs (.rows a))), (54, .one (.int .i64 ((a.length : Nat) : Int))), (55, .one (.int .i64 ((i : Nat) : Int))), (56, .one (.bool (decide (((i : Nat) : Int) < ((a.length : Nat) : Int)))))], [(152, .flat (.ints .i64 y))]⟩) (by kernel_rfl)) ?_
        rw [show (List.take a.length x) = x from List.take_of_length_le (by first | omega | simp)]
        refine awp_weak (awk_seal 152 (s' := ⟨93, [(2, .one (.ro (.ints .i64 p))), (3, .one (.ro (.ints .i64 q))), (17, .one (.ro (.ints .i64 x))), (18, .one (.ro (.ints .i64 (List.take a.length y)))), (53, .one (.rs (.rows a))), (54, .one (.int .i64 ((a.length : Nat) : Int))), (55, .one (.int .i64 ((i : Nat) : Int))), (56, .one (.bool (decide (((i : Nat) : Int) < ((a.length : Nat) : Int)))))], []⟩) (by kernel_rfl)) ?_
        rw [show (List.take a.length y) = y from List.take_of_length_le (by first | omega | simp)]
        refine awp_run_seq [8, 9, 10] [] [] ⟨93, [(8, .one (.ro (.ints .i64 x))), (9, .one (.ro (.ints .i64 y))), (10, .one (.int .i64 0))], []⟩ hT (by kernel_rfl) trivial ?_
        refine awp_ret ?_
        refine kRet.ret _ [] [] (.tup [(false, [(.ro (.ints .i64 x))]), (false, [(.ro (.ints .i64 y))]), (false, [(.int .i64 0)])]) [] (by kernel_rfl) trivial ?_
        exact ⟨by first | rw [show (okL (bothErr2 a b p q) (betters a p q)) = x from Eq.symm (by first | exact hB | (rw [okL_ok _ hB]; exact hxe.symm) | (rw [okL_ok _ hB]; exact hye.symm) | exact hB.symm | (rw [okL_ok _ hB]; exact hxe) | (rw [okL_ok _ hB]; exact hye)), show (okL (bothErr2 a b p q) (worses a p q)) = y from Eq.symm (by first | exact hB | (rw [okL_ok _ hB]; exact hxe.symm) | (rw [okL_ok _ hB]; exact hye.symm) | exact hB.symm | (rw [okL_ok _ hB]; exact hxe) | (rw [okL_ok _ hB]; exact hye)), show (bothErr2 a b p q) = 0 from Eq.symm (by first | exact hB | (rw [okL_ok _ hB]; exact hxe.symm) | (rw [okL_ok _ hB]; exact hye.symm) | exact hB.symm | (rw [okL_ok _ hB]; exact hxe) | (rw [okL_ok _ hB]; exact hye))] | rw [show (okL (bothErr2 a b p q) (betters a p q)) = x from Eq.symm (by first | exact hB | (rw [okL_ok _ hB]; exact hxe.symm) | (rw [okL_ok _ hB]; exact hye.symm) | exact hB.symm | (rw [okL_ok _ hB]; exact hxe) | (rw [okL_ok _ hB]; exact hye))] | rw [show (okL (bothErr2 a b p q) (worses a p q)) = y from Eq.symm (by first | exact hB | (rw [okL_ok _ hB]; exact hxe.symm) | (rw [okL_ok _ hB]; exact hye.symm) | exact hB.symm | (rw [okL_ok _ hB]; exact hxe) | (rw [okL_ok _ hB]; exact hye))] | rw [show (bothErr2 a b p q) = 0 from Eq.symm (by first | exact hB | (rw [okL_ok _ hB]; exact hxe.symm) | (rw [okL_ok _ hB]; exact hye.symm) | exact hB.symm | (rw [okL_ok _ hB]; exact hxe) | (rw [okL_ok _ hB]; exact hye))], rfl⟩

end Go.Ab
