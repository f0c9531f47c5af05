/- Of what a flow costs: Of. -/
import Derived.Test.YtglkldhjffnhhaaTab
import Derived.Test.YtglkldhjffnhhaaCheap2
import Derived.Test.YtglkldhjffnhhaaShort2
set_option maxRecDepth 100000
namespace Go.Ab
open Go Go.Proofs
theorem cheap_of (n s t : Int) (es : List Arc) (cost : List Int) (amount : Int) (hai : amount ≤ 9223372036854775807) : ACall Try.prog 26 [.agg [(.int .i64 n), (.int .i64 s), (.int .i64 t), (.ro (.arcs es))], .one (.ro (.ints .i64 cost)), .one (.int .i64 amount)] [] (fun ov oh => ∃ (g : List Int) (c e : Int), (OfOk n s t es cost amount g c e) ∧ ov = .tup [(false, [(.ro (.ints .i64 g))]), (false, [(.int .i64 c)]), (false, [(.int .i64 e)])] ∧ oh = []) := by
  refine acall_intro hT Try.func26 rfl (by kernel_rfl) rfl (by kernel_rfl) ?_
  refine awp_run_seq [1, 2, 3] [103] [] ⟨104, [(1, .one (.ro (.ints .i64 cost))), (2, .one (.int .i64 amount)), (3, .one (.ptr 103 0 0))], [(103, .box 1 4 [(.int .i64 n), (.int .i64 s), (.int .i64 t), (.ro (.arcs es))])]⟩ hT (by kernel_rfl) trivial ?_
  refine awp_seq ?_
  refine awp_seq (awp_region ?_)
  refine aops_run 2 [1, 2, 3, 20, 21] [103] [(0 < 1)] ⟨104, [(1, .one (.ro (.ints .i64 cost))), (2, .one (.int .i64 amount)), (3, .one (.ptr 103 0 0)), (20, .agg [(.int .i64 n), (.int .i64 s), (.int .i64 t), (.ro (.arcs es))]), (21, .one (.ro (.ints .i64 cost)))], [(103, .box 1 4 [(.int .i64 n), (.int .i64 s), (.int .i64 t), (.ro (.arcs es))])]⟩ hT (by kernel_rfl) (by kernel_rfl) ⟨(by decide), trivial⟩ ?_
  refine aops_pure false ⟨true, [], 55, [.agg [(.int .i64 n), (.int .i64 s), (.int .i64 t), (.ro (.arcs es))], .one (.ro (.ints .i64 cost))], []⟩ [.agg [(.int .i64 n), (.int .i64 s), (.int .i64 t), (.ro (.arcs es))], .one (.ro (.ints .i64 cost))] (.one (.int .i64 (costErr n s t es cost))) ⟨104, [(1, .one (.ro (.ints .i64 cost))), (2, .one (.int .i64 amount)), (3, .one (.ptr 103 0 0)), (20, .agg [(.int .i64 n), (.int .i64 s), (.int .i64 t), (.ro (.arcs es))]), (21, .one (.ro (.ints .i64 cost))), (22, .one (.int .i64 (costErr n s t es cost)))], [(103, .box 1 4 [(.int .i64 n), (.int .i64 s), (.int .i64 t), (.ro (.arcs es))])]⟩ (by kernel_rfl) (by kernel_rfl) (fun _ => trivial) rfl (fun _ => cheap_check n s t es cost) ?_
  refine aops_run 1 [1, 2, 3, 9] [103] [] ⟨104, [(1, .one (.ro (.ints .i64 cost))), (2, .one (.int .i64 amount)), (3, .one (.ptr 103 0 0)), (9, .one (.int .i64 (costErr n s t es cost)))], [(103, .box 1 4 [(.int .i64 n), (.int .i64 s), (.int .i64 t), (.ro (.arcs es))])]⟩ hT (by kernel_rfl) (by kernel_rfl) trivial ?_
  refine aops_end_seq (by kernel_rfl) ?_
  refine awp_run_seq [1, 2, 3, 9, 24] [103] [] ⟨104, [(1, .one (.ro (.ints .i64 cost))), (2, .one (.int .i64 amount)), (3, .one (.ptr 103 0 0)), (9, .one (.int .i64 (costErr n s t es cost))), (24, .one (.bool (decide ((costErr n s t es cost) ≠ 0))))], [(103, .box 1 4 [(.int .i64 n), (.int .i64 s), (.int .i64 t), (.ro (.arcs es))])]⟩ hT (by kernel_rfl) trivial ?_
  refine awp_cond (b := (decide ((costErr n s t es cost) ≠ 0))) (by kernel_rfl) (fun c2 => ?_) (fun c2 => ?_)
  · -- yes 2
    try simp only [bs] at c2
    refine awp_run_seq [6, 7, 8] [] [] ⟨104, [(6, .one .nils), (7, .one (.int .i64 0)), (8, .one (.int .i64 (costErr n s t es cost)))], []⟩ hT (by kernel_rfl) trivial ?_
    refine awp_weak (awk_slot 6 (.one .nils) (.one (.ro (.ints .i64 []))) _ (by kernel_rfl) (.one (wkv_nil0 rfl))) ?_
    refine awp_ret ?_
    refine kRet.ret _ [] [] (.tup [(false, [(.ro (.ints .i64 []))]), (false, [(.int .i64 0)]), (false, [(.int .i64 (costErr n s t es cost))])]) [] (by kernel_rfl) trivial ?_
    exact ⟨[], 0, (costErr n s t es cost), (by exact .inl ⟨c2, rfl, rfl, rfl⟩), (by kernel_rfl), (by kernel_rfl)⟩
  · -- no 2
    try simp only [bs] at c2
    have hE1 : (costErr n s t es cost) = 0 := by omega
    obtain ⟨hn, hc⟩ := costErr_ok hE1
    have h1 := hn.n1
    have h2 := hn.n2
    have h4 := hn.s0
    have h5 := hn.s1
    have h6 := hn.t0
    have h7 := hn.t1
    have he30 := hc.1
    have hcl := hc.2.1
    refine awp_skip ?_
    refine awp_seq ?_
    refine awp_run_seq [1, 2, 3, 27] [103] [] ⟨104, [(1, .one (.ro (.ints .i64 cost))), (2, .one (.int .i64 amount)), (3, .one (.ptr 103 0 0)), (27, .one (.bool (decide (amount < 0))))], [(103, .box 1 4 [(.int .i64 n), (.int .i64 s), (.int .i64 t), (.ro (.arcs es))])]⟩ hT (by kernel_rfl) trivial ?_
    refine awp_cond (b := (decide (amount < 0))) (by kernel_rfl) (fun c4 => ?_) (fun c4 => ?_)
    · -- yes 4
      try simp only [bs] at c4
      refine awp_run_seq [6, 7, 8] [] [] ⟨104, [(6, .one .nils), (7, .one (.int .i64 0)), (8, .one (.int .i64 1))], []⟩ hT (by kernel_rfl) trivial ?_
      refine awp_weak (awk_slot 6 (.one .nils) (.one (.ro (.ints .i64 []))) _ (by kernel_rfl) (.one (wkv_nil0 rfl))) ?_
      refine awp_ret ?_
      refine kRet.ret _ [] [] (.tup [(false, [(.ro (.ints .i64 []))]), (false, [(.int .i64 0)]), (false, [(.int .i64 1)])]) [] (by kernel_rfl) trivial ?_
      exact ⟨[], 0, 1, (by exact .inr (.inl ⟨hE1, by omega, rfl, rfl, rfl⟩)), (by kernel_rfl), (by kernel_rfl)⟩
    · -- no 4
      try simp only [bs] at c4
      refine awp_skip ?_
      refine awp_run_seq [1, 2, 3, 10] [103, 131] [(0 < 1), ((0 : Int) ≤ ((es.length : Nat) : Int)), (((es.length : Nat) : Int) ≤ ((es.length : Nat) : Int)), ((8 : Int) * ((es.length : Nat) : Int) ≤ 281474976710656), (((es.length : Nat) : Int) ≤ 9223372036854775807)] ⟨104, [(1, .one (.ro (.ints .i64 cost))), (2, .one (.int .i64 amount)), (3, .one (.ptr 103 0 0)), (10, .one (.rw 131 0 es.length))], [(103, .box 1 4 [(.int .i64 n), (.int .i64 s), (.int .i64 t), (.ro (.arcs es))]), (131, .flat (.ints .i64 (List.replicate es.length (0 : Int))))]⟩ hT (by kernel_rfl) ⟨(by decide), (by first | omega | (simp only [lens]; omega) | (simp only [lens]; done) | (simp; omega)), (by first | omega | (simp only [lens]; omega) | (simp only [lens]; done) | (simp; omega)), (by first | omega | (simp only [lens]; omega) | (simp only [lens]; done) | (simp; omega)), (by first | omega | (simp only [lens]; omega) | (simp only [lens]; done) | (simp; omega)), trivial⟩ ?_
      refine awp_run_seq [1, 2, 3, 10, 11] [103, 131] [] ⟨104, [(1, .one (.ro (.ints .i64 cost))), (2, .one (.int .i64 amount)), (3, .one (.ptr 103 0 0)), (10, .one (.rw 131 0 es.length)), (11, .one (.int .i64 0))], [(103, .box 1 4 [(.int .i64 n), (.int .i64 s), (.int .i64 t), (.ro (.arcs es))]), (131, .flat (.ints .i64 (List.replicate es.length (0 : Int))))]⟩ hT (by kernel_rfl) trivial ?_
      refine awp_seq ?_
      refine awp_block ?_
      refine awp_loop (I := fun κ σ => ∃ (am sm : Int) (o : List Int), ((0 ≤ am ∧ am ≤ amount) ∧ (Ssp n s t es cost o (amount - am) sm) ∧ am.toNat = κ) ∧ σ = ⟨104, [(1, .one (.ro (.ints .i64 cost))), (2, .one (.int .i64 am)), (3, .one (.ptr 103 0 0)), (10, .one (.rw 131 0 o.length)), (11, .one (.int .i64 sm))], [(103, .box 1 4 [(.int .i64 n), (.int .i64 s), (.int .i64 t), (.ro (.arcs es))]), (131, .flat (.ints .i64 o))]⟩) _ ⟨amount, 0, (List.replicate es.length 0), ⟨(by omega), (by rw [Int.sub_self]; exact Ssp.start hn hc), rfl⟩, (by first | (simp only [lens]; done) | (simp only [lens]; rfl))⟩ ?_
      rintro κ _ ⟨am, sm, o, ⟨ham, hS, rfl⟩, rfl⟩
      have hFl := hS.fl
      have hfi := hFl.fin
      have hfl := hfi.len
      have h10 : ∀ k, k < es.length → o.getD k 0 ≤ 10000 := fun k hk => (hFl.f10 k hk).2
      have hd0 := hc.dear_in hfi h10
      have hsm := hS.sum
      refine awp_seq ?_
      refine awp_run_seq [1, 2, 3, 10, 11, 33] [103, 131] [] ⟨104, [(1, .one (.ro (.ints .i64 cost))), (2, .one (.int .i64 am)), (3, .one (.ptr 103 0 0)), (10, .one (.rw 131 0 o.length)), (11, .one (.int .i64 sm)), (33, .one (.bool (decide ((0 : Int) < am))))], [(103, .box 1 4 [(.int .i64 n), (.int .i64 s), (.int .i64 t), (.ro (.arcs es))]), (131, .flat (.ints .i64 o))]⟩ hT (by kernel_rfl) trivial ?_
      refine awp_cond (b := (decide ((0 : Int) < am))) (by kernel_rfl) (fun c8 => ?_) (fun c8 => ?_)
      · -- yes 8
        try simp only [bs] at c8
        refine awp_skip ?_
        refine awp_block ?_
        refine awp_seq (awp_region ?_)
        refine aops_run 3 [1, 2, 3, 10, 11, 34, 35, 36] [103, 131] [(0 < 1)] ⟨104, [(1, .one (.ro (.ints .i64 cost))), (2, .one (.int .i64 am)), (3, .one (.ptr 103 0 0)), (10, .one (.rw 131 0 o.length)), (11, .one (.int .i64 sm)), (34, .agg [(.int .i64 n), (.int .i64 s), (.int .i64 t), (.ro (.arcs es))]), (35, .one (.ro (.ints .i64 cost))), (36, .one (.rw 131 0 o.length))], [(103, .box 1 4 [(.int .i64 n), (.int .i64 s), (.int .i64 t), (.ro (.arcs es))]), (131, .flat (.ints .i64 o))]⟩ hT (by kernel_rfl) (by kernel_rfl) ⟨(by decide), trivial⟩ ?_
        refine aops_call [] [(9001, 137)] true ⟨true, [], 93, [.agg [(.int .i64 n), (.int .i64 s), (.int .i64 t), (.ro (.arcs es))], .one (.ro (.ints .i64 cost)), .one (.ro (.ints .i64 (List.take o.length o)))], []⟩ [.agg [(.int .i64 n), (.int .i64 s), (.int .i64 t), (.ro (.arcs es))], .one (.ro (.ints .i64 cost)), .one (.ro (.ints .i64 o))] (sm := ⟨104, [(1, .one (.ro (.ints .i64 cost))), (2, .one (.int .i64 am)), (3, .one (.ptr 103 0 0)), (10, .one (.rw 131 0 o.length)), (11, .one (.int .i64 sm)), (34, .agg [(.int .i64 n), (.int .i64 s), (.int .i64 t), (.ro (.arcs es))]), (35, .one (.ro (.ints .i64 cost))), (36, .one (.rw 131 0 o.length)), (37, .whn false (.one .any))], [(103, .box 1 4 [(.int .i64 n), (.int .i64 s), (.int .i64 t), (.ro (.arcs es))]), (131, .flat (.ints .i64 o))]⟩) (by kernel_rfl) (by kernel_rfl) (by decide) (fun _ => trivial) (by rw [show (List.take o.length o) = o from List.take_of_length_le (by first | omega | simp)]) (fun _ => cheap_left n s t es cost o hc (by omega)) (fun _ v Hr hv => ?_) (fun h => by cases h)
        obtain ⟨rfl, rfl⟩ := hv
        refine ⟨⟨104, [(1, .one (.ro (.ints .i64 cost))), (2, .one (.int .i64 am)), (3, .one (.ptr 103 0 0)), (10, .one (.rw 131 0 o.length)), (11, .one (.int .i64 sm)), (34, .agg [(.int .i64 n), (.int .i64 s), (.int .i64 t), (.ro (.arcs es))]), (35, .one (.ro (.ints .i64 cost))), (36, .one (.rw 131 0 o.length)), (37, .agg [(.int .i64 n), (.rw 137 0 (List.length (leftA es cost o es.length)))])], [(103, .box 1 4 [(.int .i64 n), (.int .i64 s), (.int .i64 t), (.ro (.arcs es))]), (131, .flat (.ints .i64 o)), (137, .flat (.arcs (leftA es cost o es.length)))]⟩, by kernel_rfl, ?_⟩
        refine aops_run 2 [1, 2, 3, 10, 11, 12] [103, 112, 131, 137] [(0 < 1)] ⟨104, [(1, .one (.ro (.ints .i64 cost))), (2, .one (.int .i64 am)), (3, .one (.ptr 103 0 0)), (10, .one (.rw 131 0 o.length)), (11, .one (.int .i64 sm)), (12, .one (.ptr 112 0 0))], [(103, .box 1 4 [(.int .i64 n), (.int .i64 s), (.int .i64 t), (.ro (.arcs es))]), (112, .box 1 2 [(.int .i64 n), (.rw 137 0 (List.length (leftA es cost o es.length)))]), (131, .flat (.ints .i64 o)), (137, .flat (.arcs (leftA es cost o es.length)))]⟩ hT (by kernel_rfl) (by kernel_rfl) ⟨(by decide), trivial⟩ ?_
        refine aops_end_seq (by kernel_rfl) ?_
        refine awp_weak (awk_seal 137 (s' := ⟨104, [(1, .one (.ro (.ints .i64 cost))), (2, .one (.int .i64 am)), (3, .one (.ptr 103 0 0)), (10, .one (.rw 131 0 o.length)), (11, .one (.int .i64 sm)), (12, .one (.ptr 112 0 0))], [(103, .box 1 4 [(.int .i64 n), (.int .i64 s), (.int .i64 t), (.ro (.arcs es))]), (112, .box 1 2 [(.int .i64 n), (.ro (.arcs (List.take (List.length (leftA es cost o es.length)) (leftA es cost o es.length))))]), (131, .flat (.ints .i64 o))]⟩) (by kernel_rfl)) ?_
        rw [show (List.take (List.length (leftA es cost o es.length)) (leftA es cost o es.length)) = (leftA es cost o es.length) from List.take_of_length_le (by first | omega | simp)]
        refine awp_seq (awp_region ?_)
        refine aops_run 3 [1, 2, 3, 10, 11, 12, 39, 41] [103, 112, 131] [(0 < 1), (0 < 1)] ⟨104, [(1, .one (.ro (.ints .i64 cost))), (2, .one (.int .i64 am)), (3, .one (.ptr 103 0 0)), (10, .one (.rw 131 0 o.length)), (11, .one (.int .i64 sm)), (12, .one (.ptr 112 0 0)), (39, .agg [(.int .i64 n), (.ro (.arcs (leftA es cost o es.length)))]), (41, .one (.int .i64 s))], [(103, .box 1 4 [(.int .i64 n), (.int .i64 s), (.int .i64 t), (.ro (.arcs es))]), (112, .box 1 2 [(.int .i64 n), (.ro (.arcs (leftA es cost o es.length)))]), (131, .flat (.ints .i64 o))]⟩ hT (by kernel_rfl) (by kernel_rfl) ⟨(by decide), (by decide), trivial⟩ ?_
        refine aops_call [] [] false ⟨true, [], 94, [.agg [(.int .i64 n), (.ro (.arcs (leftA es cost o es.length)))], .one (.int .i64 s)], []⟩ [.agg [(.int .i64 n), (.ro (.arcs (leftA es cost o es.length)))], .one (.int .i64 s)] (sm := ⟨104, [(1, .one (.ro (.ints .i64 cost))), (2, .one (.int .i64 am)), (3, .one (.ptr 103 0 0)), (10, .one (.rw 131 0 o.length)), (11, .one (.int .i64 sm)), (12, .one (.ptr 112 0 0)), (39, .agg [(.int .i64 n), (.ro (.arcs (leftA es cost o es.length)))]), (41, .one (.int .i64 s)), (42, .whn false (.one .any))], [(103, .box 1 4 [(.int .i64 n), (.int .i64 s), (.int .i64 t), (.ro (.arcs es))]), (112, .box 1 2 [(.int .i64 n), (.ro (.arcs (leftA es cost o es.length)))]), (131, .flat (.ints .i64 o))]⟩) (by kernel_rfl) (by kernel_rfl) (by decide) (fun _ => trivial) rfl (fun _ => short_from n (leftA es cost o es.length) s) (fun _ v Hr hv => ?_) (fun h => by cases h)
        obtain ⟨f, g, e, hfo, rfl, rfl⟩ := hv
        refine ⟨⟨104, [(1, .one (.ro (.ints .i64 cost))), (2, .one (.int .i64 am)), (3, .one (.ptr 103 0 0)), (10, .one (.rw 131 0 o.length)), (11, .one (.int .i64 sm)), (12, .one (.ptr 112 0 0)), (39, .agg [(.int .i64 n), (.ro (.arcs (leftA es cost o es.length)))]), (41, .one (.int .i64 s)), (42, .tup [(false, [(.ro (.ints .i64 f))]), (false, [(.ro (.bools g))]), (false, [(.int .i64 e)])])], [(103, .box 1 4 [(.int .i64 n), (.int .i64 s), (.int .i64 t), (.ro (.arcs es))]), (112, .box 1 2 [(.int .i64 n), (.ro (.arcs (leftA es cost o es.length)))]), (131, .flat (.ints .i64 o))]⟩, by kernel_rfl, ?_⟩
        refine aops_run 7 [1, 2, 3, 10, 11, 12, 13, 14] [103, 112, 131] [] ⟨104, [(1, .one (.ro (.ints .i64 cost))), (2, .one (.int .i64 am)), (3, .one (.ptr 103 0 0)), (10, .one (.rw 131 0 o.length)), (11, .one (.int .i64 sm)), (12, .one (.ptr 112 0 0)), (13, .one (.ro (.ints .i64 f))), (14, .one (.ro (.bools g)))], [(103, .box 1 4 [(.int .i64 n), (.int .i64 s), (.int .i64 t), (.ro (.arcs es))]), (112, .box 1 2 [(.int .i64 n), (.ro (.arcs (leftA es cost o es.length)))]), (131, .flat (.ints .i64 o))]⟩ hT (by kernel_rfl) (by kernel_rfl) trivial ?_
        refine aops_end_seq (by kernel_rfl) ?_
        have hF := from_pot hn hc hS.pot hfo
        have hgl := hF.rx.gl
        have hfal := hF.rx.fl
        have hbd := hF.bd h2 (left_in (cost := cost) (f := o) hn hc) ⟨h4, h5⟩
        refine awp_seq ?_
        refine awp_run_seq [1, 2, 3, 10, 11, 12, 13, 14, 51] [103, 112, 131] [(0 < 1), ((0 : Int) ≤ t), (t < ((g.length : Nat) : Int))] ⟨104, [(1, .one (.ro (.ints .i64 cost))), (2, .one (.int .i64 am)), (3, .one (.ptr 103 0 0)), (10, .one (.rw 131 0 o.length)), (11, .one (.int .i64 sm)), (12, .one (.ptr 112 0 0)), (13, .one (.ro (.ints .i64 f))), (14, .one (.ro (.bools g))), (51, .one (.bool (!(List.getD g (Int.toNat t) false))))], [(103, .box 1 4 [(.int .i64 n), (.int .i64 s), (.int .i64 t), (.ro (.arcs es))]), (112, .box 1 2 [(.int .i64 n), (.ro (.arcs (leftA es cost o es.length)))]), (131, .flat (.ints .i64 o))]⟩ hT (by kernel_rfl) ⟨(by decide), (by first | omega | (simp only [lens]; omega) | (simp only [lens]; done) | (simp; omega)), (by first | omega | (simp only [lens]; omega) | (simp only [lens]; done) | (simp; omega)), trivial⟩ ?_
        refine awp_cond (b := (!(List.getD g (Int.toNat t) false))) (by kernel_rfl) (fun c11 => ?_) (fun c11 => ?_)
        · -- yes 11
          try simp only [bs] at c11
          have hfull := hS.full hc hF (by simpa using c11)
          refine awp_run_seq [6, 7, 8] [] [] ⟨104, [(6, .one .nils), (7, .one (.int .i64 0)), (8, .one (.int .i64 5))], []⟩ hT (by kernel_rfl) trivial ?_
          refine awp_weak (awk_slot 6 (.one .nils) (.one (.ro (.ints .i64 []))) _ (by kernel_rfl) (.one (wkv_nil0 rfl))) ?_
          refine awp_ret ?_
          refine kRet.ret _ [] [] (.tup [(false, [(.ro (.ints .i64 []))]), (false, [(.int .i64 0)]), (false, [(.int .i64 5)])]) [] (by kernel_rfl) trivial ?_
          exact ⟨[], 0, 5, (by exact .inr (.inr (.inl ⟨hE1, by omega, by omega, rfl, rfl, rfl⟩))), (by kernel_rfl), (by kernel_rfl)⟩
        · -- no 11
          try simp only [bs] at c11
          have hkt : g.getD t.toNat false = true := by simpa using c11
          refine awp_skip ?_
          refine awp_seq (awp_region ?_)
          refine aops_run 5 [1, 2, 3, 10, 11, 13, 53, 54, 55, 56, 57] [103, 131] [(0 < 1), (0 < 1)] ⟨104, [(1, .one (.ro (.ints .i64 cost))), (2, .one (.int .i64 am)), (3, .one (.ptr 103 0 0)), (10, .one (.rw 131 0 o.length)), (11, .one (.int .i64 sm)), (13, .one (.ro (.ints .i64 f))), (53, .agg [(.int .i64 n), (.int .i64 s), (.int .i64 t), (.ro (.arcs es))]), (54, .agg [(.int .i64 n), (.ro (.arcs (leftA es cost o es.length)))]), (55, .one (.ro (.ints .i64 f))), (56, .one (.ro (.bools g))), (57, .one (.rw 131 0 o.length))], [(103, .box 1 4 [(.int .i64 n), (.int .i64 s), (.int .i64 t), (.ro (.arcs es))]), (131, .flat (.ints .i64 o))]⟩ hT (by kernel_rfl) (by kernel_rfl) ⟨(by decide), (by decide), trivial⟩ ?_
          refine aops_call [] [(9001, 158)] true ⟨true, [], 95, [.agg [(.int .i64 n), (.int .i64 s), (.int .i64 t), (.ro (.arcs es))], .agg [(.int .i64 n), (.ro (.arcs (leftA es cost o es.length)))], .one (.ro (.ints .i64 f)), .one (.ro (.bools g)), .one (.ro (.ints .i64 (List.take o.length o)))], []⟩ [.agg [(.int .i64 n), (.int .i64 s), (.int .i64 t), (.ro (.arcs es))], .agg [(.int .i64 n), (.ro (.arcs (leftA es cost o es.length)))], .one (.ro (.ints .i64 f)), .one (.ro (.bools g)), .one (.ro (.ints .i64 o))] (sm := ⟨104, [(1, .one (.ro (.ints .i64 cost))), (2, .one (.int .i64 am)), (3, .one (.ptr 103 0 0)), (10, .one (.rw 131 0 o.length)), (11, .one (.int .i64 sm)), (13, .one (.ro (.ints .i64 f))), (53, .agg [(.int .i64 n), (.int .i64 s), (.int .i64 t), (.ro (.arcs es))]), (54, .agg [(.int .i64 n), (.ro (.arcs (leftA es cost o es.length)))]), (55, .one (.ro (.ints .i64 f))), (56, .one (.ro (.bools g))), (57, .one (.rw 131 0 o.length)), (58, .whn false (.one .any))], [(103, .box 1 4 [(.int .i64 n), (.int .i64 s), (.int .i64 t), (.ro (.arcs es))]), (131, .flat (.ints .i64 o))]⟩) (by kernel_rfl) (by kernel_rfl) (by decide) (fun _ => trivial) (by rw [show (List.take o.length o) = o from List.take_of_length_le (by first | omega | simp)]) (fun _ => cheap_back n s t es cost o f g hn hc hfi h10 hF hkt) (fun _ v Hr hv => ?_) (fun h => by cases h)
          obtain ⟨L13, room13, hb13, rfl, rfl⟩ := hv
          refine ⟨⟨104, [(1, .one (.ro (.ints .i64 cost))), (2, .one (.int .i64 am)), (3, .one (.ptr 103 0 0)), (10, .one (.rw 131 0 o.length)), (11, .one (.int .i64 sm)), (13, .one (.ro (.ints .i64 f))), (53, .agg [(.int .i64 n), (.int .i64 s), (.int .i64 t), (.ro (.arcs es))]), (54, .agg [(.int .i64 n), (.ro (.arcs (leftA es cost o es.length)))]), (55, .one (.ro (.ints .i64 f))), (56, .one (.ro (.bools g))), (57, .one (.rw 131 0 o.length)), (58, .tup [(false, [(.rw 158 0 L13.length)]), (false, [(.int .i64 room13)])])], [(103, .box 1 4 [(.int .i64 n), (.int .i64 s), (.int .i64 t), (.ro (.arcs es))]), (131, .flat (.ints .i64 o)), (158, .flat (.ints .i64 L13))]⟩, by kernel_rfl, ?_⟩
          refine aops_run 5 [1, 2, 3, 10, 11, 13, 16, 17] [103, 131, 158] [] ⟨104, [(1, .one (.ro (.ints .i64 cost))), (2, .one (.int .i64 am)), (3, .one (.ptr 103 0 0)), (10, .one (.rw 131 0 o.length)), (11, .one (.int .i64 sm)), (13, .one (.ro (.ints .i64 f))), (16, .one (.rw 158 0 L13.length)), (17, .one (.int .i64 room13))], [(103, .box 1 4 [(.int .i64 n), (.int .i64 s), (.int .i64 t), (.ro (.arcs es))]), (131, .flat (.ints .i64 o)), (158, .flat (.ints .i64 L13))]⟩ hT (by kernel_rfl) (by kernel_rfl) trivial ?_
          refine aops_end_seq (by kernel_rfl) ?_
          refine awp_run_seq [1, 2, 3, 10, 11, 13, 16, 17] [103, 131, 158] [] ⟨104, [(1, .one (.ro (.ints .i64 cost))), (2, .one (.int .i64 am)), (3, .one (.ptr 103 0 0)), (10, .one (.rw 131 0 o.length)), (11, .one (.int .i64 sm)), (13, .one (.ro (.ints .i64 f))), (16, .one (.rw 158 0 L13.length)), (17, .one (.int .i64 (min room13 am)))], [(103, .box 1 4 [(.int .i64 n), (.int .i64 s), (.int .i64 t), (.ro (.arcs es))]), (131, .flat (.ints .i64 o)), (158, .flat (.ints .i64 L13))]⟩ hT (by kernel_rfl) trivial ?_
          have hr0 := hb13.r0
          have hr1 := hb13.r1
          have hln := hb13.ln
          have hnx := hS.next hc hF hb13 (r := (min room13 am)) (by omega) (by omega)
          refine awp_seq ?_
          refine awp_run_seq [1, 2, 3, 10, 11, 13, 17, 64, 65, 66] [103, 131, 158] [] ⟨104, [(1, .one (.ro (.ints .i64 cost))), (2, .one (.int .i64 am)), (3, .one (.ptr 103 0 0)), (10, .one (.rw 131 0 o.length)), (11, .one (.int .i64 sm)), (13, .one (.ro (.ints .i64 f))), (17, .one (.int .i64 (min room13 am))), (64, .one (.rw 158 0 L13.length)), (65, .one (.int .i64 ((L13.length : Nat) : Int))), (66, .one (.int .i64 0))], [(103, .box 1 4 [(.int .i64 n), (.int .i64 s), (.int .i64 t), (.ro (.arcs es))]), (131, .flat (.ints .i64 o)), (158, .flat (.ints .i64 L13))]⟩ hT (by kernel_rfl) trivial ?_
          refine awp_block ?_
          refine awp_loop (I := fun κ σ => ∃ (j : Nat) (o2 : List Int), ((j ≤ L13.length) ∧ (o2 = ((L13.map toP).take j).foldl (augStep (min room13 am)) o) ∧ L13.length - j = κ) ∧ σ = ⟨104, [(1, .one (.ro (.ints .i64 cost))), (2, .one (.int .i64 am)), (3, .one (.ptr 103 0 0)), (10, .one (.rw 131 0 o.length)), (11, .one (.int .i64 sm)), (13, .one (.ro (.ints .i64 f))), (17, .one (.int .i64 (min room13 am))), (64, .one (.rw 158 0 L13.length)), (65, .one (.int .i64 ((L13.length : Nat) : Int))), (66, .one (.int .i64 ((j : Nat) : Int)))], [(103, .box 1 4 [(.int .i64 n), (.int .i64 s), (.int .i64 t), (.ro (.arcs es))]), (131, .flat (.ints .i64 o2)), (158, .flat (.ints .i64 L13))]⟩) _ ⟨0, o, ⟨(by omega), (by rfl), rfl⟩, (by kernel_rfl)⟩ ?_
          rintro κ _ ⟨j, o2, ⟨hj, ho, rfl⟩, rfl⟩
          have hol : o2.length = o.length := by rw [ho]; exact aug_len _ _ _
          refine awp_run_seq [1, 2, 3, 10, 11, 13, 17, 64, 65, 66, 67] [103, 131, 158] [] ⟨104, [(1, .one (.ro (.ints .i64 cost))), (2, .one (.int .i64 am)), (3, .one (.ptr 103 0 0)), (10, .one (.rw 131 0 o.length)), (11, .one (.int .i64 sm)), (13, .one (.ro (.ints .i64 f))), (17, .one (.int .i64 (min room13 am))), (64, .one (.rw 158 0 L13.length)), (65, .one (.int .i64 ((L13.length : Nat) : Int))), (66, .one (.int .i64 ((j : Nat) : Int))), (67, .one (.bool (decide (((j : Nat) : Int) < ((L13.length : Nat) : Int)))))], [(103, .box 1 4 [(.int .i64 n), (.int .i64 s), (.int .i64 t), (.ro (.arcs es))]), (131, .flat (.ints .i64 o2)), (158, .flat (.ints .i64 L13))]⟩ hT (by kernel_rfl) trivial ?_
          refine awp_seq ?_
          refine awp_cond (b := (decide (((j : Nat) : Int) < ((L13.length : Nat) : Int)))) (by kernel_rfl) (fun c16 => ?_) (fun c16 => ?_)
          · -- yes 16
            try simp only [bs] at c16
            have hjl : j < L13.length := by omega
            have hks := hb13.ks _ (getD_mem (d := 0) hjl)
            have htd2 : Int.tdiv (List.getD L13 j 0) 2 = (List.getD L13 j 0) / 2 := Int.tdiv_eq_ediv_of_nonneg hks.1
            have htm : Int.tmod (List.getD L13 j 0) 2 = (List.getD L13 j 0) % 2 := Int.tmod_eq_emod_of_nonneg hks.1
            have hmj : List.getD (L13.map toP) j (0, false) = toP (List.getD L13 j 0) := by simp only [List.getD_eq_getElem?_getD, List.getElem?_map, List.getElem?_eq_getElem hjl]; rfl
            have hrm := hb13.rm (toP (List.getD L13 j 0)) (List.mem_map_of_mem (getD_mem (d := 0) hjl))
            rw [toP_room] at hrm
            have hge : o2.getD (Int.toNat ((List.getD L13 j 0) / 2)) 0 = o.getD (Int.toNat ((List.getD L13 j 0) / 2)) 0 := by
              rw [ho]
              refine aug_get _ _ _ (fun q hq => ?_)
              have g1 := hb13.once.at_ (d := (0, false)) (show j < (L13.map toP).length by rw [List.length_map]; exact hjl) q hq
              rw [hmj] at g1
              obtain ⟨x, hx, rfl⟩ := List.mem_map.1 (List.mem_of_mem_take hq)
              have g2 := hb13.ks x hx
              unfold toP at g1 ⊢
              simp only at g1 ⊢
              omega
            have hfk := hfi.at_ (Int.toNat ((List.getD L13 j 0) / 2)) (by omega)
            have hf10 := h10 (Int.toNat ((List.getD L13 j 0) / 2)) (by omega)
            have htk : List.take (j + 1) (L13.map toP) = List.take j (L13.map toP) ++ [toP (List.getD L13 j 0)] := by rw [take_getD (L13.map toP) (0, false) j (by rw [List.length_map]; exact hjl), hmj]
            refine awp_skip ?_
            refine awp_seq ?_
            refine awp_block ?_
            refine awp_run_seq [1, 2, 3, 10, 11, 13, 17, 19, 64, 65, 66] [103, 131, 158] [((0 : Int) ≤ ((j : Nat) : Int)), (((j : Nat) : Int) < ((L13.length : Nat) : Int)), (j < L13.length)] ⟨104, [(1, .one (.ro (.ints .i64 cost))), (2, .one (.int .i64 am)), (3, .one (.ptr 103 0 0)), (10, .one (.rw 131 0 o.length)), (11, .one (.int .i64 sm)), (13, .one (.ro (.ints .i64 f))), (17, .one (.int .i64 (min room13 am))), (19, .one (.int .i64 (List.getD L13 j 0))), (64, .one (.rw 158 0 L13.length)), (65, .one (.int .i64 ((L13.length : Nat) : Int))), (66, .one (.int .i64 ((j : Nat) : Int)))], [(103, .box 1 4 [(.int .i64 n), (.int .i64 s), (.int .i64 t), (.ro (.arcs es))]), (131, .flat (.ints .i64 o2)), (158, .flat (.ints .i64 L13))]⟩ hT (by kernel_rfl) ⟨(by first | omega | (simp only [lens]; omega) | (simp only [lens]; done) | (simp; omega)), (by first | omega | (simp only [lens]; omega) | (simp only [lens]; done) | (simp; omega)), (by first | omega | (simp only [lens]; omega) | (simp only [lens]; done) | (simp; omega)), trivial⟩ ?_
            refine awp_run_seq [1, 2, 3, 10, 11, 13, 17, 19, 64, 65, 66, 72] [103, 131, 158] [(2 ≠ (0 : Int))] ⟨104, [(1, .one (.ro (.ints .i64 cost))), (2, .one (.int .i64 am)), (3, .one (.ptr 103 0 0)), (10, .one (.rw 131 0 o.length)), (11, .one (.int .i64 sm)), (13, .one (.ro (.ints .i64 f))), (17, .one (.int .i64 (min room13 am))), (19, .one (.int .i64 (List.getD L13 j 0))), (64, .one (.rw 158 0 L13.length)), (65, .one (.int .i64 ((L13.length : Nat) : Int))), (66, .one (.int .i64 ((j : Nat) : Int))), (72, .one (.bool (decide ((Int.tmod (List.getD L13 j 0) 2) = 0))))], [(103, .box 1 4 [(.int .i64 n), (.int .i64 s), (.int .i64 t), (.ro (.arcs es))]), (131, .flat (.ints .i64 o2)), (158, .flat (.ints .i64 L13))]⟩ hT (by kernel_rfl) ⟨(by first | omega | (simp only [lens]; omega) | (simp only [lens]; done) | (simp; omega)), trivial⟩ ?_
            refine awp_cond (b := (decide ((Int.tmod (List.getD L13 j 0) 2) = 0))) (by kernel_rfl) (fun c18 => ?_) (fun c18 => ?_)
            · -- yes 18
              try simp only [bs] at c18
              rw [if_pos (show _ by omega)] at hrm
              have hst : o2.set (Int.toNat (Int.tdiv (List.getD L13 j 0) 2)) (o2.getD (Int.toNat (Int.tdiv (List.getD L13 j 0) 2)) 0 + (min room13 am)) = [toP (List.getD L13 j 0)].foldl (augStep (min room13 am)) o2 := by simp only [List.foldl_cons, List.foldl_nil, augStep, toP]; rw [htd2, if_neg (by rw [decide_eq_true_eq]; omega)]
              rw [← htd2] at hge hfk hf10 hrm
              refine awp_run [1, 2, 3, 10, 11, 13, 17, 64, 65, 66] [103, 131, 158] [(2 ≠ (0 : Int)), (-9223372036854775808 ≤ (Int.tdiv (List.getD L13 j 0) 2) ∧ (Int.tdiv (List.getD L13 j 0) 2) ≤ 9223372036854775807), ((0 : Int) ≤ (Int.tdiv (List.getD L13 j 0) 2)), ((Int.tdiv (List.getD L13 j 0) 2) < ((o.length : Nat) : Int)), ((Int.toNat (Int.tdiv (List.getD L13 j 0) 2)) < o2.length), (-9223372036854775808 ≤ ((List.getD o2 (Int.toNat (Int.tdiv (List.getD L13 j 0) 2)) 0) + (min room13 am)) ∧ ((List.getD o2 (Int.toNat (Int.tdiv (List.getD L13 j 0) 2)) 0) + (min room13 am)) ≤ 9223372036854775807), ((0 : Int) ≤ (Int.tdiv (List.getD L13 j 0) 2)), ((Int.tdiv (List.getD L13 j 0) 2) < ((o.length : Nat) : Int)), ((Int.toNat (Int.tdiv (List.getD L13 j 0) 2)) < o2.length)] ⟨104, [(1, .one (.ro (.ints .i64 cost))), (2, .one (.int .i64 am)), (3, .one (.ptr 103 0 0)), (10, .one (.rw 131 0 o.length)), (11, .one (.int .i64 sm)), (13, .one (.ro (.ints .i64 f))), (17, .one (.int .i64 (min room13 am))), (64, .one (.rw 158 0 L13.length)), (65, .one (.int .i64 ((L13.length : Nat) : Int))), (66, .one (.int .i64 ((j : Nat) : Int)))], [(103, .box 1 4 [(.int .i64 n), (.int .i64 s), (.int .i64 t), (.ro (.arcs es))]), (131, .flat (.ints .i64 (List.set o2 (Int.toNat (Int.tdiv (List.getD L13 j 0) 2)) ((List.getD o2 (Int.toNat (Int.tdiv (List.getD L13 j 0) 2)) 0) + (min room13 am))))), (158, .flat (.ints .i64 L13))]⟩ hT (by kernel_rfl) ⟨(by first | omega | (simp only [lens]; omega) | (simp only [lens]; done) | (simp; omega)), (by first | omega | (simp only [lens]; omega) | (simp only [lens]; done) | (simp; omega)), (by first | omega | (simp only [lens]; omega) | (simp only [lens]; done) | (simp; omega)), (by first | omega | (simp only [lens]; omega) | (simp only [lens]; done) | (simp; omega)), (by first | omega | (simp only [lens]; omega) | (simp only [lens]; done) | (simp; omega)), (by first | omega | (simp only [lens]; omega) | (simp only [lens]; done) | (simp; omega)), (by first | omega | (simp only [lens]; omega) | (simp only [lens]; done) | (simp; omega)), (by first | omega | (simp only [lens]; omega) | (simp only [lens]; done) | (simp; omega)), (by first | omega | (simp only [lens]; omega) | (simp only [lens]; done) | (simp; omega)), trivial⟩ ?_
              refine awp_run [1, 2, 3, 10, 11, 13, 17, 64, 65, 66] [103, 131, 158] [(-9223372036854775808 ≤ (((j + 1) : Nat) : Int) ∧ (((j + 1) : Nat) : Int) ≤ 9223372036854775807)] ⟨104, [(1, .one (.ro (.ints .i64 cost))), (2, .one (.int .i64 am)), (3, .one (.ptr 103 0 0)), (10, .one (.rw 131 0 o.length)), (11, .one (.int .i64 sm)), (13, .one (.ro (.ints .i64 f))), (17, .one (.int .i64 (min room13 am))), (64, .one (.rw 158 0 L13.length)), (65, .one (.int .i64 ((L13.length : Nat) : Int))), (66, .one (.int .i64 (((j + 1) : Nat) : Int)))], [(103, .box 1 4 [(.int .i64 n), (.int .i64 s), (.int .i64 t), (.ro (.arcs es))]), (131, .flat (.ints .i64 (List.set o2 (Int.toNat (Int.tdiv (List.getD L13 j 0) 2)) ((List.getD o2 (Int.toNat (Int.tdiv (List.getD L13 j 0) 2)) 0) + (min room13 am))))), (158, .flat (.ints .i64 L13))]⟩ hT (by kernel_rfl) ⟨(by first | omega | (simp only [lens]; omega) | (simp only [lens]; done) | (simp; omega)), trivial⟩ ?_
              refine loop_end _ ?_ ⟨(j + 1), (List.set o2 (Int.toNat (Int.tdiv (List.getD L13 j 0) 2)) ((List.getD o2 (Int.toNat (Int.tdiv (List.getD L13 j 0) 2)) 0) + (min room13 am))), ⟨(by omega), (by rw [htk, List.foldl_append, ← ho]; exact hst), rfl⟩, (by kernel_rfl)⟩
              omega
            · -- no 18
              try simp only [bs] at c18
              rw [if_neg (show ¬ _ by omega)] at hrm
              have hst : o2.set (Int.toNat (Int.tdiv (List.getD L13 j 0) 2)) (o2.getD (Int.toNat (Int.tdiv (List.getD L13 j 0) 2)) 0 - (min room13 am)) = [toP (List.getD L13 j 0)].foldl (augStep (min room13 am)) o2 := by simp only [List.foldl_cons, List.foldl_nil, augStep, toP]; rw [htd2, if_pos (by rw [decide_eq_true_eq]; omega)]
              rw [← htd2] at hge hfk hf10 hrm
              refine awp_run [1, 2, 3, 10, 11, 13, 17, 64, 65, 66] [103, 131, 158] [(2 ≠ (0 : Int)), (-9223372036854775808 ≤ (Int.tdiv (List.getD L13 j 0) 2) ∧ (Int.tdiv (List.getD L13 j 0) 2) ≤ 9223372036854775807), ((0 : Int) ≤ (Int.tdiv (List.getD L13 j 0) 2)), ((Int.tdiv (List.getD L13 j 0) 2) < ((o.length : Nat) : Int)), ((Int.toNat (Int.tdiv (List.getD L13 j 0) 2)) < o2.length), (-9223372036854775808 ≤ ((List.getD o2 (Int.toNat (Int.tdiv (List.getD L13 j 0) 2)) 0) - (min room13 am)) ∧ ((List.getD o2 (Int.toNat (Int.tdiv (List.getD L13 j 0) 2)) 0) - (min room13 am)) ≤ 9223372036854775807), ((0 : Int) ≤ (Int.tdiv (List.getD L13 j 0) 2)), ((Int.tdiv (List.getD L13 j 0) 2) < ((o.length : Nat) : Int)), ((Int.toNat (Int.tdiv (List.getD L13 j 0) 2)) < o2.length)] ⟨104, [(1, .one (.ro (.ints .i64 cost))), (2, .one (.int .i64 am)), (3, .one (.ptr 103 0 0)), (10, .one (.rw 131 0 o.length)), (11, .one (.int .i64 sm)), (13, .one (.ro (.ints .i64 f))), (17, .one (.int .i64 (min room13 am))), (64, .one (.rw 158 0 L13.length)), (65, .one (.int .i64 ((L13.length : Nat) : Int))), (66, .one (.int .i64 ((j : Nat) : Int)))], [(103, .box 1 4 [(.int .i64 n), (.int .i64 s), (.int .i64 t), (.ro (.arcs es))]), (131, .flat (.ints .i64 (List.set o2 (Int.toNat (Int.tdiv (List.getD L13 j 0) 2)) ((List.getD o2 (Int.toNat (Int.tdiv (List.getD L13 j 0) 2)) 0) - (min room13 am))))), (158, .flat (.ints .i64 L13))]⟩ hT (by kernel_rfl) ⟨(by first | omega | (simp only [lens]; omega) | (simp only [lens]; done) | (simp; omega)), (by first | omega | (simp only [lens]; omega) | (simp only [lens]; done) | (simp; omega)), (by first | omega | (simp only [lens]; omega) | (simp only [lens]; done) | (simp; omega)), (by first | omega | (simp only [lens]; omega) | (simp only [lens]; done) | (simp; omega)), (by first | omega | (simp only [lens]; omega) | (simp only [lens]; done) | (simp; omega)), (by first | omega | (simp only [lens]; omega) | (simp only [lens]; done) | (simp; omega)), (by first | omega | (simp only [lens]; omega) | (simp only [lens]; done) | (simp; omega)), (by first | omega | (simp only [lens]; omega) | (simp only [lens]; done) | (simp; omega)), (by first | omega | (simp only [lens]; omega) | (simp only [lens]; done) | (simp; omega)), trivial⟩ ?_
              refine awp_run [1, 2, 3, 10, 11, 13, 17, 64, 65, 66] [103, 131, 158] [(-9223372036854775808 ≤ (((j + 1) : Nat) : Int) ∧ (((j + 1) : Nat) : Int) ≤ 9223372036854775807)] ⟨104, [(1, .one (.ro (.ints .i64 cost))), (2, .one (.int .i64 am)), (3, .one (.ptr 103 0 0)), (10, .one (.rw 131 0 o.length)), (11, .one (.int .i64 sm)), (13, .one (.ro (.ints .i64 f))), (17, .one (.int .i64 (min room13 am))), (64, .one (.rw 158 0 L13.length)), (65, .one (.int .i64 ((L13.length : Nat) : Int))), (66, .one (.int .i64 (((j + 1) : Nat) : Int)))], [(103, .box 1 4 [(.int .i64 n), (.int .i64 s), (.int .i64 t), (.ro (.arcs es))]), (131, .flat (.ints .i64 (List.set o2 (Int.toNat (Int.tdiv (List.getD L13 j 0) 2)) ((List.getD o2 (Int.toNat (Int.tdiv (List.getD L13 j 0) 2)) 0) - (min room13 am))))), (158, .flat (.ints .i64 L13))]⟩ hT (by kernel_rfl) ⟨(by first | omega | (simp only [lens]; omega) | (simp only [lens]; done) | (simp; omega)), trivial⟩ ?_
              refine loop_end _ ?_ ⟨(j + 1), (List.set o2 (Int.toNat (Int.tdiv (List.getD L13 j 0) 2)) ((List.getD o2 (Int.toNat (Int.tdiv (List.getD L13 j 0) 2)) 0) - (min room13 am))), ⟨(by omega), (by rw [htk, List.foldl_append, ← ho]; exact hst), rfl⟩, (by kernel_rfl)⟩
              omega
          · -- no 16
            try simp only [bs] at c16
            have ho2 : o2 = (L13.map toP).foldl (augStep (min room13 am)) o := by rw [ho, List.take_of_length_le (by rw [List.length_map]; omega)]
            rw [← ho2] at hnx
            have hd1 := hc.dear_in hnx.fl.fin (fun k hk => (hnx.fl.f10 k hk).2)
            have hsm1 := hnx.sum
            refine awp_exit ?_
            refine awp_run_seq [1, 2, 3, 10, 11, 17] [103, 131] [(0 < 1), ((0 : Int) ≤ t), (t < ((f.length : Nat) : Int)), (-9223372036854775808 ≤ ((min room13 am) * (List.getD f (Int.toNat t) 0)) ∧ ((min room13 am) * (List.getD f (Int.toNat t) 0)) ≤ 9223372036854775807), (-9223372036854775808 ≤ (sm + ((min room13 am) * (List.getD f (Int.toNat t) 0))) ∧ (sm + ((min room13 am) * (List.getD f (Int.toNat t) 0))) ≤ 9223372036854775807)] ⟨104, [(1, .one (.ro (.ints .i64 cost))), (2, .one (.int .i64 am)), (3, .one (.ptr 103 0 0)), (10, .one (.rw 131 0 o.length)), (11, .one (.int .i64 (sm + ((min room13 am) * (List.getD f (Int.toNat t) 0))))), (17, .one (.int .i64 (min room13 am)))], [(103, .box 1 4 [(.int .i64 n), (.int .i64 s), (.int .i64 t), (.ro (.arcs es))]), (131, .flat (.ints .i64 o2))]⟩ hT (by kernel_rfl) ⟨(by decide), (by first | omega | (simp only [lens]; omega) | (simp only [lens]; done) | (simp; omega)), (by first | omega | (simp only [lens]; omega) | (simp only [lens]; done) | (simp; omega)), (by first | omega | (simp only [lens]; omega) | (simp only [lens]; done) | (simp; omega)), (by first | omega | (simp only [lens]; omega) | (simp only [lens]; done) | (simp; omega)), trivial⟩ ?_
            refine awp_run [1, 2, 3, 10, 11] [103, 131] [(-9223372036854775808 ≤ (am - (min room13 am)) ∧ (am - (min room13 am)) ≤ 9223372036854775807)] ⟨104, [(1, .one (.ro (.ints .i64 cost))), (2, .one (.int .i64 (am - (min room13 am)))), (3, .one (.ptr 103 0 0)), (10, .one (.rw 131 0 o.length)), (11, .one (.int .i64 (sm + ((min room13 am) * (List.getD f (Int.toNat t) 0)))))], [(103, .box 1 4 [(.int .i64 n), (.int .i64 s), (.int .i64 t), (.ro (.arcs es))]), (131, .flat (.ints .i64 o2))]⟩ hT (by kernel_rfl) ⟨(by first | omega | (simp only [lens]; omega) | (simp only [lens]; done) | (simp; omega)), trivial⟩ ?_
            refine loop_end _ ?_ ⟨(am - (min room13 am)), (sm + ((min room13 am) * (List.getD f (Int.toNat t) 0))), o2, ⟨(by omega), (by rw [show amount - (am - (min room13 am)) = amount - am + (min room13 am) by omega]; exact hnx), rfl⟩, (by rw [hol])⟩
            omega
      · -- no 8
        try simp only [bs] at c8
        refine awp_exit ?_
        refine awp_run_seq [6, 7, 8] [131] [] ⟨104, [(6, .one (.rw 131 0 o.length)), (7, .one (.int .i64 sm)), (8, .one (.int .i64 0))], [(131, .flat (.ints .i64 o))]⟩ hT (by kernel_rfl) trivial ?_
        refine awp_weak (awk_seal 131 (s' := ⟨104, [(6, .one (.ro (.ints .i64 (List.take o.length o)))), (7, .one (.int .i64 sm)), (8, .one (.int .i64 0))], []⟩) (by kernel_rfl)) ?_
        rw [show (List.take o.length o) = o from List.take_of_length_le (by first | omega | simp)]
        refine awp_ret ?_
        refine kRet.ret _ [] [] (.tup [(false, [(.ro (.ints .i64 o))]), (false, [(.int .i64 sm)]), (false, [(.int .i64 0)])]) [] (by kernel_rfl) trivial ?_
        exact ⟨o, sm, 0, (by exact .inr (.inr (.inr ⟨hE1, by omega, rfl, by have h := hS; rw [show amount - am = amount by omega] at h; exact h⟩))), (by kernel_rfl), (by kernel_rfl)⟩

end Go.Ab
