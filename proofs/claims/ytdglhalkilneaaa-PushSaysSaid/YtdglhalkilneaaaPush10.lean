/- Of push: all who are busy. -/
import Derived.Test.YtdglhalkilneaaaTab
import Derived.Test.YtdglhalkilneaaaPush7
set_option maxRecDepth 100000
namespace Go.Ab
open Go Go.Proofs
theorem push_Busy (n s t : Int) (es : List Arc) (f h : List Int) : ACall Try.prog 34 [.agg [(.int .i64 n), (.int .i64 s), (.int .i64 t), (.ro (.arcs es)), (.ro (.ints .i64 f)), (.ro (.ints .i64 h))]] [] (fun ov oh => ov = .tup [(false, [(.ro (.ints .i64 (okL (pushErr n s t es f h) (busyOf n s t es f))))]), (false, [(.int .i64 (pushErr n s t es f h))])] ∧ oh = []) := by
  refine acall_intro hT Try.func34 rfl (by kernel_rfl) rfl (by kernel_rfl) ?_
  refine awp_run_seq [1] [101] [] ⟨27, [(1, .one (.ptr 101 0 0))], [(101, .box 1 6 [(.int .i64 n), (.int .i64 s), (.int .i64 t), (.ro (.arcs es)), (.ro (.ints .i64 f)), (.ro (.ints .i64 h))])]⟩ hT (by kernel_rfl) trivial ?_
  refine awp_seq ?_
  refine awp_seq (awp_region ?_)
  refine aops_run 1 [1, 7] [101] [(0 < 1)] ⟨27, [(1, .one (.ptr 101 0 0)), (7, .agg [(.int .i64 n), (.int .i64 s), (.int .i64 t), (.ro (.arcs es)), (.ro (.ints .i64 f)), (.ro (.ints .i64 h))])], [(101, .box 1 6 [(.int .i64 n), (.int .i64 s), (.int .i64 t), (.ro (.arcs es)), (.ro (.ints .i64 f)), (.ro (.ints .i64 h))])]⟩ hT (by kernel_rfl) (by kernel_rfl) ⟨(by decide), trivial⟩ ?_
  refine aops_pure false ⟨true, [], 36, [.agg [(.int .i64 n), (.int .i64 s), (.int .i64 t), (.ro (.arcs es)), (.ro (.ints .i64 f)), (.ro (.ints .i64 h))]], []⟩ [.agg [(.int .i64 n), (.int .i64 s), (.int .i64 t), (.ro (.arcs es)), (.ro (.ints .i64 f)), (.ro (.ints .i64 h))]] (.one (.int .i64 (pushErr n s t es f h))) ⟨27, [(1, .one (.ptr 101 0 0)), (7, .agg [(.int .i64 n), (.int .i64 s), (.int .i64 t), (.ro (.arcs es)), (.ro (.ints .i64 f)), (.ro (.ints .i64 h))]), (8, .one (.int .i64 (pushErr n s t es f h)))], [(101, .box 1 6 [(.int .i64 n), (.int .i64 s), (.int .i64 t), (.ro (.arcs es)), (.ro (.ints .i64 f)), (.ro (.ints .i64 h))])]⟩ (by kernel_rfl) (by kernel_rfl) (fun _ => trivial) rfl (fun _ => push_check n s t es f h) ?_
  refine aops_run 1 [1, 4] [101] [] ⟨27, [(1, .one (.ptr 101 0 0)), (4, .one (.int .i64 (pushErr n s t es f h)))], [(101, .box 1 6 [(.int .i64 n), (.int .i64 s), (.int .i64 t), (.ro (.arcs es)), (.ro (.ints .i64 f)), (.ro (.ints .i64 h))])]⟩ hT (by kernel_rfl) (by kernel_rfl) trivial ?_
  refine aops_end_seq (by kernel_rfl) ?_
  refine awp_run_seq [1, 4, 10] [101] [] ⟨27, [(1, .one (.ptr 101 0 0)), (4, .one (.int .i64 (pushErr n s t es f h))), (10, .one (.bool (decide ((pushErr n s t es f h) ≠ 0))))], [(101, .box 1 6 [(.int .i64 n), (.int .i64 s), (.int .i64 t), (.ro (.arcs es)), (.ro (.ints .i64 f)), (.ro (.ints .i64 h))])]⟩ hT (by kernel_rfl) trivial ?_
  refine awp_cond (b := (decide ((pushErr n s t es f h) ≠ 0))) (by kernel_rfl) (fun c2 => ?_) (fun c2 => ?_)
  · -- yes 2
    try simp only [bs] at c2
    have hP0 : (pushErr n s t es f h) ≠ 0 := by omega
    refine awp_run_seq [2, 3] [] [] ⟨27, [(2, .one .nils), (3, .one (.int .i64 (pushErr n s t es f h)))], []⟩ hT (by kernel_rfl) trivial ?_
    refine awp_weak (awk_slot 2 (.one .nils) (.one (.ro (.ints .i64 []))) _ (by kernel_rfl) (.one (wkv_nil0 rfl))) ?_
    refine awp_ret ?_
    refine kRet.ret _ [] [] (.tup [(false, [(.ro (.ints .i64 []))]), (false, [(.int .i64 (pushErr n s t es f h))])]) [] (by kernel_rfl) trivial ?_
    exact ⟨congrArg (fun x1 => (.tup [(false, [(.ro (.ints .i64 x1))]), (false, [(.int .i64 (pushErr n s t es f h))])] : AV)) (show [] = (okL (pushErr n s t es f h) (busyOf n s t es f)) from by first | exact (okL_no _ hP0).symm | rfl), rfl⟩
  · -- no 2
    try simp only [bs] at c2
    have hpe : (pushErr n s t es f h) = 0 := by omega
    have hr := pushErr_ok hpe
    have hok := hr.net
    have hin := hr.fin
    have h1 := hok.n1
    have h2 := hok.n2
    have h3 := hok.len
    have h4 := hok.s0
    have h5 := hok.s1
    have h6 := hok.t0
    have h7 := hok.t1
    have hlen := hin.len
    have hhl := hr.hlen
    have hf10 : ∀ k, k < es.length → 0 ≤ f.getD k 0 ∧ f.getD k 0 ≤ 10000 := fun k hk => by have h1 := hin.at_ k hk; obtain ⟨_, _, _, _, _, h2⟩ := hok.at_ hk; omega
    refine awp_skip ?_
    refine awp_run_seq [1, 5] [101] [] ⟨27, [(1, .one (.ptr 101 0 0)), (5, .one .nils)], [(101, .box 1 6 [(.int .i64 n), (.int .i64 s), (.int .i64 t), (.ro (.arcs es)), (.ro (.ints .i64 f)), (.ro (.ints .i64 h))])]⟩ hT (by kernel_rfl) trivial ?_
    refine awp_seq ?_
    refine awp_run_seq [1, 5, 14, 15] [101] [(0 < 1)] ⟨27, [(1, .one (.ptr 101 0 0)), (5, .one .nils), (14, .one (.int .i64 n)), (15, .one (.int .i64 0))], [(101, .box 1 6 [(.int .i64 n), (.int .i64 s), (.int .i64 t), (.ro (.arcs es)), (.ro (.ints .i64 f)), (.ro (.ints .i64 h))])]⟩ hT (by kernel_rfl) ⟨(by decide), trivial⟩ ?_
    refine awp_block ?_
    refine awp_weak (awk_empty 5005 (.flat (.ints .i64 [])) rfl (by decide) _) ?_
    refine awp_weak (awk_slot 5 (.one .nils) (.one (.rw 5005 0 0)) _ (by kernel_rfl) (.one (wkv_nils (o := .flat (.ints .i64 [])) (by kernel_rfl)))) ?_
    refine awp_loop (I := fun κ σ => ∃ (i : Nat) (b : List Int), ((i ≤ n.toNat) ∧ (b ++ busyFrom (fun k => !idleOf s t es f k) i (n.toNat - i) = (busyOf n s t es f)) ∧ n.toNat - i = κ) ∧ σ = ⟨27, [(1, .one (.ptr 101 0 0)), (5, .one (.rw 5005 0 b.length)), (14, .one (.int .i64 n)), (15, .one (.int .i64 ((i : Nat) : Int)))], [(101, .box 1 6 [(.int .i64 n), (.int .i64 s), (.int .i64 t), (.ro (.arcs es)), (.ro (.ints .i64 f)), (.ro (.ints .i64 h))]), (5005, .flat (.ints .i64 b))]⟩) _ ⟨0, [], ⟨(by omega), (by rfl), rfl⟩, (by kernel_rfl)⟩ ?_
    rintro κ _ ⟨i, b, ⟨hi, hb, rfl⟩, rfl⟩
    have hbl : b.length ≤ 12 := by have q := congrArg List.length hb; rw [List.length_append] at q; have := busyFrom_len (p := (fun k => !idleOf s t es f k)) n.toNat 0; have : ((busyOf n s t es f)).length = (busyFrom (fun k => !idleOf s t es f k) 0 n.toNat).length := rfl; omega
    refine awp_run_seq [1, 5, 14, 15, 16] [101, 5005] [] ⟨27, [(1, .one (.ptr 101 0 0)), (5, .one (.rw 5005 0 b.length)), (14, .one (.int .i64 n)), (15, .one (.int .i64 ((i : Nat) : Int))), (16, .one (.bool (decide (((i : Nat) : Int) < n))))], [(101, .box 1 6 [(.int .i64 n), (.int .i64 s), (.int .i64 t), (.ro (.arcs es)), (.ro (.ints .i64 f)), (.ro (.ints .i64 h))]), (5005, .flat (.ints .i64 b))]⟩ hT (by kernel_rfl) trivial ?_
    refine awp_seq ?_
    refine awp_cond (b := (decide (((i : Nat) : Int) < n))) (by kernel_rfl) (fun c6 => ?_) (fun c6 => ?_)
    · -- yes 6
      try simp only [bs] at c6
      have ci : i < n.toNat := by omega
      have hbs := busyFrom_step (p := (fun k => !idleOf s t es f k)) ci
      rw [hbs] at hb
      refine awp_skip ?_
      refine awp_seq ?_
      refine awp_block ?_
      refine awp_run_seq [1, 5, 6, 14, 15] [101, 5005] [] ⟨27, [(1, .one (.ptr 101 0 0)), (5, .one (.rw 5005 0 b.length)), (6, .one (.int .i64 ((i : Nat) : Int))), (14, .one (.int .i64 n)), (15, .one (.int .i64 ((i : Nat) : Int)))], [(101, .box 1 6 [(.int .i64 n), (.int .i64 s), (.int .i64 t), (.ro (.arcs es)), (.ro (.ints .i64 f)), (.ro (.ints .i64 h))]), (5005, .flat (.ints .i64 b))]⟩ hT (by kernel_rfl) trivial ?_
      refine awp_seq (awp_region ?_)
      refine aops_run 2 [1, 5, 6, 14, 15, 18, 19] [101, 5005] [(0 < 1)] ⟨27, [(1, .one (.ptr 101 0 0)), (5, .one (.rw 5005 0 b.length)), (6, .one (.int .i64 ((i : Nat) : Int))), (14, .one (.int .i64 n)), (15, .one (.int .i64 ((i : Nat) : Int))), (18, .agg [(.int .i64 n), (.int .i64 s), (.int .i64 t), (.ro (.arcs es)), (.ro (.ints .i64 f)), (.ro (.ints .i64 h))]), (19, .one (.int .i64 ((i : Nat) : Int)))], [(101, .box 1 6 [(.int .i64 n), (.int .i64 s), (.int .i64 t), (.ro (.arcs es)), (.ro (.ints .i64 f)), (.ro (.ints .i64 h))]), (5005, .flat (.ints .i64 b))]⟩ hT (by kernel_rfl) (by kernel_rfl) ⟨(by decide), trivial⟩ ?_
      refine aops_pure false ⟨true, [], 105, [.agg [(.int .i64 n), (.int .i64 s), (.int .i64 t), (.ro (.arcs es)), (.ro (.ints .i64 f)), (.ro (.ints .i64 h))], .one (.int .i64 ((i : Nat) : Int))], []⟩ [.agg [(.int .i64 n), (.int .i64 s), (.int .i64 t), (.ro (.arcs es)), (.ro (.ints .i64 f)), (.ro (.ints .i64 h))], .one (.int .i64 ((i : Nat) : Int))] (.one (.bool (!(idleOf s t es f ((i : Nat) : Int))))) ⟨27, [(1, .one (.ptr 101 0 0)), (5, .one (.rw 5005 0 b.length)), (6, .one (.int .i64 ((i : Nat) : Int))), (14, .one (.int .i64 n)), (15, .one (.int .i64 ((i : Nat) : Int))), (18, .agg [(.int .i64 n), (.int .i64 s), (.int .i64 t), (.ro (.arcs es)), (.ro (.ints .i64 f)), (.ro (.ints .i64 h))]), (19, .one (.int .i64 ((i : Nat) : Int))), (20, .one (.bool (!(idleOf s t es f ((i : Nat) : Int)))))], [(101, .box 1 6 [(.int .i64 n), (.int .i64 s), (.int .i64 t), (.ro (.arcs es)), (.ro (.ints .i64 f)), (.ro (.ints .i64 h))]), (5005, .flat (.ints .i64 b))]⟩ (by kernel_rfl) (by kernel_rfl) (fun _ => trivial) rfl (fun _ => push_busy n s t es f h ((i : Nat) : Int) (by assumption) (by first | assumption | omega) (by first | assumption | omega)) ?_
      refine aops_cut [1, 5, 6, 14, 15, 20] [101, 5005] ⟨27, [(1, .one (.ptr 101 0 0)), (5, .one (.rw 5005 0 b.length)), (6, .one (.int .i64 ((i : Nat) : Int))), (14, .one (.int .i64 n)), (15, .one (.int .i64 ((i : Nat) : Int))), (20, .one (.bool (!(idleOf s t es f ((i : Nat) : Int)))))], [(101, .box 1 6 [(.int .i64 n), (.int .i64 s), (.int .i64 t), (.ro (.arcs es)), (.ro (.ints .i64 f)), (.ro (.ints .i64 h))]), (5005, .flat (.ints .i64 b))]⟩ (by kernel_rfl) ?_
      refine aops_end_seq (by kernel_rfl) ?_
      refine awp_cond (b := (!(idleOf s t es f ((i : Nat) : Int)))) (by kernel_rfl) (fun c8 => ?_) (fun c8 => ?_)
      · -- yes 8
        try simp only [bs] at c8
        refine awp_run [1, 5, 14, 15] [101, 5005] [(b.length = b.length), ((b.length + 1) * 8 ≤ 140737488355328), ((b.length + 1) ≤ 9223372036854775807)] ⟨27, [(1, .one (.ptr 101 0 0)), (5, .one (.rw 5005 0 (b.length + 1))), (14, .one (.int .i64 n)), (15, .one (.int .i64 ((i : Nat) : Int)))], [(101, .box 1 6 [(.int .i64 n), (.int .i64 s), (.int .i64 t), (.ro (.arcs es)), (.ro (.ints .i64 f)), (.ro (.ints .i64 h))]), (5005, .flat (.ints .i64 (b ++ [((i : Nat) : Int)])))]⟩ hT (by kernel_rfl) ⟨(by first | omega | (simp only [lens]; omega) | (simp only [lens]; done) | (simp; done)), (by first | omega | (simp only [lens]; omega) | (simp only [lens]; done) | (simp; done)), (by first | omega | (simp only [lens]; omega) | (simp only [lens]; done) | (simp; done)), trivial⟩ ?_
        refine awp_run [1, 5, 14, 15] [101, 5005] [(-9223372036854775808 ≤ (((i + 1) : Nat) : Int) ∧ (((i + 1) : Nat) : Int) ≤ 9223372036854775807)] ⟨27, [(1, .one (.ptr 101 0 0)), (5, .one (.rw 5005 0 (b.length + 1))), (14, .one (.int .i64 n)), (15, .one (.int .i64 (((i + 1) : Nat) : Int)))], [(101, .box 1 6 [(.int .i64 n), (.int .i64 s), (.int .i64 t), (.ro (.arcs es)), (.ro (.ints .i64 f)), (.ro (.ints .i64 h))]), (5005, .flat (.ints .i64 (b ++ [((i : Nat) : Int)])))]⟩ hT (by kernel_rfl) ⟨(by first | omega | (simp only [lens]; omega) | (simp only [lens]; done) | (simp; done)), trivial⟩ ?_
        refine loop_end _ ?_ ⟨(i + 1), (b ++ [((i : Nat) : Int)]), ⟨(by omega), (by first | (rw [if_pos (by simpa using c8)] at hb; rw [List.append_assoc]; exact hb) | (rw [if_neg (by simpa using c8), List.nil_append] at hb; exact hb)), rfl⟩, (by first | (simp only [lens]; done) | (simp only [Nat.zero_add]; done) | simp only [lens, Nat.zero_add])⟩
        omega
      · -- no 8
        try simp only [bs] at c8
        refine awp_skip ?_
        refine awp_run [1, 5, 14, 15] [101, 5005] [(-9223372036854775808 ≤ (((i + 1) : Nat) : Int) ∧ (((i + 1) : Nat) : Int) ≤ 9223372036854775807)] ⟨27, [(1, .one (.ptr 101 0 0)), (5, .one (.rw 5005 0 b.length)), (14, .one (.int .i64 n)), (15, .one (.int .i64 (((i + 1) : Nat) : Int)))], [(101, .box 1 6 [(.int .i64 n), (.int .i64 s), (.int .i64 t), (.ro (.arcs es)), (.ro (.ints .i64 f)), (.ro (.ints .i64 h))]), (5005, .flat (.ints .i64 b))]⟩ hT (by kernel_rfl) ⟨(by first | omega | (simp only [lens]; omega) | (simp only [lens]; done) | (simp; done)), trivial⟩ ?_
        refine loop_end _ ?_ ⟨(i + 1), b, ⟨(by omega), (by first | (rw [if_pos (by simpa using c8)] at hb; rw [List.append_assoc]; exact hb) | (rw [if_neg (by simpa using c8), List.nil_append] at hb; exact hb)), rfl⟩, (by kernel_rfl)⟩
        omega
    · -- no 6
      try simp only [bs] at c6
      have hfin : b = (busyOf n s t es f) := by rw [busyFrom_end (by omega), List.append_nil] at hb; exact hb
      refine awp_exit ?_
      refine awp_weak (awk_seal 5005 (s' := ⟨27, [(1, .one (.ptr 101 0 0)), (5, .one (.ro (.ints .i64 (List.take b.length b)))), (14, .one (.int .i64 n)), (15, .one (.int .i64 ((i : Nat) : Int))), (16, .one (.bool (decide (((i : Nat) : Int) < n))))], [(101, .box 1 6 [(.int .i64 n), (.int .i64 s), (.int .i64 t), (.ro (.arcs es)), (.ro (.ints .i64 f)), (.ro (.ints .i64 h))])]⟩) (by kernel_rfl)) ?_
      rw [show (List.take b.length b) = b from List.take_of_length_le (by first | omega | simp)]
      refine awp_run_seq [2, 3] [] [] ⟨27, [(2, .one (.ro (.ints .i64 b))), (3, .one (.int .i64 0))], []⟩ hT (by kernel_rfl) trivial ?_
      refine awp_ret ?_
      refine kRet.ret _ [] [] (.tup [(false, [(.ro (.ints .i64 b))]), (false, [(.int .i64 0)])]) [] (by kernel_rfl) trivial ?_
      exact ⟨by first | rw [show (okL (pushErr n s t es f h) (busyOf n s t es f)) = b from Eq.symm (by first | exact hpe.symm | (rw [okL_ok _ hpe]; exact hfin)), show (pushErr n s t es f h) = 0 from Eq.symm (by first | exact hpe.symm | (rw [okL_ok _ hpe]; exact hfin))] | rw [show (okL (pushErr n s t es f h) (busyOf n s t es f)) = b from Eq.symm (by first | exact hpe.symm | (rw [okL_ok _ hpe]; exact hfin))] | rw [show (pushErr n s t es f h) = 0 from Eq.symm (by first | exact hpe.symm | (rw [okL_ok _ hpe]; exact hfin))], rfl⟩

end Go.Ab
