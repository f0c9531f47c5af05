/- Of levels: Of. -/
import Derived.Test.YtcmaffldmodacaaTab
import Derived.Test.YtcmaffldmodacaaLev1
import Derived.Test.YtcmaffldmodacaaLev2
import Derived.Test.YtcmaffldmodacaaPlLev3
import Derived.Test.YtcmaffldmodacaaG1
set_option maxRecDepth 100000
namespace Go.Ab
open Go Go.Proofs
theorem level_of (n s t : Int) (es : List Arc) : ACall Try.prog 6 [.agg [(.int .i64 n), (.int .i64 s), (.int .i64 t), (.ro (.arcs es))]] [] (fun ov oh => ∃ (g : List Int) (v r : Int), (LevOk n s t es (netErr n s t es) g v r) ∧ ov = .tup [(false, [(.rw 9001 0 g.length)]), (false, [(.int .i64 v)]), (false, [(.int .i64 r)]), (false, [(.int .i64 (netErr n s t es))])] ∧ oh = [(9001, .flat (.ints .i64 g))]) := by
  refine acall_intro hT Try.func6 rfl (by kernel_rfl) rfl (by kernel_rfl) ?_
  refine awp_run_seq [1] [101] [] ⟨42, [(1, .one (.ptr 101 0 0))], [(101, .box 1 4 [(.int .i64 n), (.int .i64 s), (.int .i64 t), (.ro (.arcs es))])]⟩ hT (by kernel_rfl) trivial ?_
  refine awp_seq ?_
  refine awp_seq (awp_region ?_)
  refine aops_run 1 [1, 11] [101] [(0 < 1)] ⟨42, [(1, .one (.ptr 101 0 0)), (11, .agg [(.int .i64 n), (.int .i64 s), (.int .i64 t), (.ro (.arcs es))])], [(101, .box 1 4 [(.int .i64 n), (.int .i64 s), (.int .i64 t), (.ro (.arcs es))])]⟩ hT (by kernel_rfl) (by kernel_rfl) ⟨(by decide), trivial⟩ ?_
  refine aops_pure false ⟨true, [], 23, [.agg [(.int .i64 n), (.int .i64 s), (.int .i64 t), (.ro (.arcs es))]], []⟩ [.agg [(.int .i64 n), (.int .i64 s), (.int .i64 t), (.ro (.arcs es))]] (.one (.int .i64 (netErr n s t es))) ⟨42, [(1, .one (.ptr 101 0 0)), (11, .agg [(.int .i64 n), (.int .i64 s), (.int .i64 t), (.ro (.arcs es))]), (12, .one (.int .i64 (netErr n s t es)))], [(101, .box 1 4 [(.int .i64 n), (.int .i64 s), (.int .i64 t), (.ro (.arcs es))])]⟩ (by kernel_rfl) (by kernel_rfl) (fun _ => trivial) rfl (fun _ => graph_CheckNet n s t es) ?_
  refine aops_run 1 [1, 6] [101] [] ⟨42, [(1, .one (.ptr 101 0 0)), (6, .one (.int .i64 (netErr n s t es)))], [(101, .box 1 4 [(.int .i64 n), (.int .i64 s), (.int .i64 t), (.ro (.arcs es))])]⟩ hT (by kernel_rfl) (by kernel_rfl) trivial ?_
  refine aops_end_seq (by kernel_rfl) ?_
  refine awp_run_seq [1, 6, 14] [101] [] ⟨42, [(1, .one (.ptr 101 0 0)), (6, .one (.int .i64 (netErr n s t es))), (14, .one (.bool (decide ((netErr n s t es) ≠ 0))))], [(101, .box 1 4 [(.int .i64 n), (.int .i64 s), (.int .i64 t), (.ro (.arcs es))])]⟩ hT (by kernel_rfl) trivial ?_
  refine awp_cond (b := (decide ((netErr n s t es) ≠ 0))) (by kernel_rfl) (fun c2 => ?_) (fun c2 => ?_)
  · -- yes 2
    try simp only [bs] at c2
    refine awp_run_seq [2, 3, 4, 5] [] [] ⟨42, [(2, .one .nils), (3, .one (.int .i64 0)), (4, .one (.int .i64 0)), (5, .one (.int .i64 (netErr n s t es)))], []⟩ hT (by kernel_rfl) trivial ?_
    refine awp_weak (awk_empty 5002 (.flat (.ints .i64 [])) rfl (by decide) _) ?_
    refine awp_weak (awk_slot 2 (.one .nils) (.one (.rw 5002 0 0)) _ (by kernel_rfl) (.one (wkv_nils (o := .flat (.ints .i64 [])) (by kernel_rfl)))) ?_
    refine awp_weak (awk_ren 5002 9001 (s' := ⟨42, [(2, .one (.rw 9001 0 0)), (3, .one (.int .i64 0)), (4, .one (.int .i64 0)), (5, .one (.int .i64 (netErr n s t es)))], [(9001, .flat (.ints .i64 []))]⟩) (by kernel_rfl)) ?_
    refine awp_ret ?_
    refine kRet.ret _ [9001] [] (.tup [(false, [(.rw 9001 0 0)]), (false, [(.int .i64 0)]), (false, [(.int .i64 0)]), (false, [(.int .i64 (netErr n s t es))])]) [(9001, .flat (.ints .i64 []))] (by kernel_rfl) trivial ?_
    exact ⟨[], 0, 0, (by exact .inl ⟨c2, rfl, rfl, rfl⟩), (by kernel_rfl), (by kernel_rfl)⟩
  · -- no 2
    try simp only [bs] at c2
    have hE : netErr n s t es = 0 := by omega
    have hok := netErr_ok hE
    have h2 := hok.n2
    have hle := hok.len
    refine awp_skip ?_
    -- 8 of 8 operations in any order; 1 orders of the rest
    refine awp_seq (awp_calm2 [] false [[], [], [1], [1, 2], [1, 2, 3], [0, 1, 2, 3, 4], [0, 1, 2, 3, 4, 5], [0, 1, 2, 3, 4, 5, 6]] 8 [1, 7] [101, 120, 122] [(0, [(0 < 1)]), (1, []), (2, [(0 < 1)]), (3, []), (4, [((0 : Int) ≤ ((es.length : Nat) : Int)), (((es.length : Nat) : Int) ≤ ((es.length : Nat) : Int)), ((8 : Int) * ((es.length : Nat) : Int) ≤ 281474976710656), (((es.length : Nat) : Int) ≤ 9223372036854775807)]), (5, []), (6, []), (7, [])] [] 1 ⟨42, [(1, .one (.ptr 101 0 0)), (7, .one (.ptr 122 0 0))], [(101, .box 1 4 [(.int .i64 n), (.int .i64 s), (.int .i64 t), (.ro (.arcs es))]), (120, .flat (.ints .i64 (List.replicate es.length (0 : Int)))), (122, .tail [(.int .i64 n), (.int .i64 s), (.int .i64 t), (.ro (.arcs es)), (.rw 120 0 es.length)] [0, 0, 0, 0, 0, 0, 0, 0, 0, 0, 0, 0])]⟩ (by kernel_rfl) (by kernel_rfl) hT (by kernel_rfl) (by kernel_rfl) ⟨⟨(by decide), trivial⟩, trivial, ⟨(by decide), trivial⟩, trivial, ⟨(by first | omega | (simp only [lens]; omega) | (simp only [Bool.cond_decide]; omega) | (simp only [nadd_eq]; omega)), (by first | omega | (simp only [lens]; omega) | (simp only [Bool.cond_decide]; omega) | (simp only [nadd_eq]; omega)), (by first | omega | (simp only [lens]; omega) | (simp only [Bool.cond_decide]; omega) | (simp only [nadd_eq]; omega)), (by first | omega | (simp only [lens]; omega) | (simp only [Bool.cond_decide]; omega) | (simp only [nadd_eq]; omega)), trivial⟩, trivial, trivial, trivial, trivial⟩ trivial ?_)
    refine awp_run_seq [1, 7, 8, 9] [101, 120, 122] [] ⟨42, [(1, .one (.ptr 101 0 0)), (7, .one (.ptr 122 0 0)), (8, .one (.int .i64 0)), (9, .one (.int .i64 0))], [(101, .box 1 4 [(.int .i64 n), (.int .i64 s), (.int .i64 t), (.ro (.arcs es))]), (120, .flat (.ints .i64 (List.replicate es.length (0 : Int)))), (122, .tail [(.int .i64 n), (.int .i64 s), (.int .i64 t), (.ro (.arcs es)), (.rw 120 0 es.length)] [0, 0, 0, 0, 0, 0, 0, 0, 0, 0, 0, 0])]⟩ hT (by kernel_rfl) trivial ?_
    refine awp_seq ?_
    refine awp_block ?_
    refine awp_loop (I := fun κ σ => ∃ (r v : Int) (L F : List Int), ((RoundL n s t es r v L F) ∧ (n - r).toNat = κ) ∧ σ = ⟨42, [(1, .one (.ptr 101 0 0)), (7, .one (.ptr 122 0 0)), (8, .one (.int .i64 v)), (9, .one (.int .i64 r))], [(101, .box 1 4 [(.int .i64 n), (.int .i64 s), (.int .i64 t), (.ro (.arcs es))]), (120, .flat (.ints .i64 F)), (122, .tail [(.int .i64 n), (.int .i64 s), (.int .i64 t), (.ro (.arcs es)), (.rw 120 0 es.length)] L)]⟩) _ ⟨0, 0, [0, 0, 0, 0, 0, 0, 0, 0, 0, 0, 0, 0], (List.replicate es.length (0 : Int)), ⟨(by exact RoundL.start hE rfl), rfl⟩, (by kernel_rfl)⟩ ?_
    rintro κ _ ⟨r, v, L, F, ⟨hR, rfl⟩, rfl⟩
    have hr1 := hR.r1
    have hr0 := hR.r0
    have hlL := hR.lL
    have hlF := hR.fl.fin.len
    refine awp_seq ?_
    refine awp_seq (awp_region ?_)
    refine aops_run 1 [1, 7, 8, 9, 23] [101, 120, 122] [] ⟨42, [(1, .one (.ptr 101 0 0)), (7, .one (.ptr 122 0 0)), (8, .one (.int .i64 v)), (9, .one (.int .i64 r)), (23, .one (.ptr 122 0 0))], [(101, .box 1 4 [(.int .i64 n), (.int .i64 s), (.int .i64 t), (.ro (.arcs es))]), (120, .flat (.ints .i64 F)), (122, .tail [(.int .i64 n), (.int .i64 s), (.int .i64 t), (.ro (.arcs es)), (.rw 120 0 es.length)] L)]⟩ hT (by kernel_rfl) (by kernel_rfl) trivial ?_
    refine aops_call [(1, 122), (2, 120)] [] false ⟨true, [], 24, [.one (.ptr 1 0 0)], [(1, .tail [(.int .i64 n), (.int .i64 s), (.int .i64 t), (.ro (.arcs es)), (.rw 2 0 es.length)] L), (2, .flat (.ints .i64 F))]⟩ [.one (.ptr 1 0 0)] (sm := ⟨42, [(1, .one (.ptr 101 0 0)), (7, .one (.ptr 122 0 0)), (8, .one (.int .i64 v)), (9, .one (.int .i64 r)), (23, .one (.ptr 122 0 0)), (24, .whn false (.one .any))], [(101, .box 1 4 [(.int .i64 n), (.int .i64 s), (.int .i64 t), (.ro (.arcs es))]), (120, .flat (.ints .i64 F)), (122, .tail [(.int .i64 n), (.int .i64 s), (.int .i64 t), (.ro (.arcs es)), (.rw 120 0 es.length)] L)]⟩) (by kernel_rfl) (by kernel_rfl) (by decide) (fun _ => trivial) rfl (fun _ => level_levels n s t es L F hok (by assumption) (by assumption)) (fun _ v Hr hv => ?_) (fun h => by cases h)
    obtain ⟨L9, hl9, rfl, rfl⟩ := hv
    refine ⟨⟨42, [(1, .one (.ptr 101 0 0)), (7, .one (.ptr 122 0 0)), (8, .one (.int .i64 v)), (9, .one (.int .i64 r)), (23, .one (.ptr 122 0 0)), (24, .one (.bool (decide (0 ≤ List.getD L9 t.toNat 0))))], [(101, .box 1 4 [(.int .i64 n), (.int .i64 s), (.int .i64 t), (.ro (.arcs es))]), (120, .flat (.ints .i64 F)), (122, .tail [(.int .i64 n), (.int .i64 s), (.int .i64 t), (.ro (.arcs es)), (.rw 120 0 es.length)] L9)]⟩, by kernel_rfl, ?_⟩
    refine aops_cut [1, 7, 8, 9, 24] [101, 120, 122] ⟨42, [(1, .one (.ptr 101 0 0)), (7, .one (.ptr 122 0 0)), (8, .one (.int .i64 v)), (9, .one (.int .i64 r)), (24, .one (.bool (decide (0 ≤ List.getD L9 t.toNat 0))))], [(101, .box 1 4 [(.int .i64 n), (.int .i64 s), (.int .i64 t), (.ro (.arcs es))]), (120, .flat (.ints .i64 F)), (122, .tail [(.int .i64 n), (.int .i64 s), (.int .i64 t), (.ro (.arcs es)), (.rw 120 0 es.length)] L9)]⟩ (by kernel_rfl) ?_
    refine aops_end_seq (by kernel_rfl) ?_
    refine awp_cond (b := (decide (0 ≤ List.getD L9 t.toNat 0))) (by kernel_rfl) (fun c6 => ?_) (fun c6 => ?_)
    · -- yes 6
      try simp only [bs] at c6
      refine awp_skip ?_
      refine awp_block ?_
      refine awp_run_seq [1, 7, 8, 9] [101, 120, 122] [(-9223372036854775808 ≤ (r + 1) ∧ (r + 1) ≤ 9223372036854775807)] ⟨42, [(1, .one (.ptr 101 0 0)), (7, .one (.ptr 122 0 0)), (8, .one (.int .i64 v)), (9, .one (.int .i64 (r + 1)))], [(101, .box 1 4 [(.int .i64 n), (.int .i64 s), (.int .i64 t), (.ro (.arcs es))]), (120, .flat (.ints .i64 F)), (122, .tail [(.int .i64 n), (.int .i64 s), (.int .i64 t), (.ro (.arcs es)), (.rw 120 0 es.length)] L9)]⟩ hT (by kernel_rfl) ⟨(by first | omega | (simp only [lens]; omega) | (simp only [Bool.cond_decide]; omega) | (simp only [nadd_eq]; omega)), trivial⟩ ?_
      refine awp_block ?_
      refine awp_loop (I := fun κ σ => ∃ (v2 : Int) (L2 F2 : List Int), ((InnerL n s t es v L9 F v2 L2 F2) ∧ (600000 - v2).toNat = κ) ∧ σ = ⟨42, [(1, .one (.ptr 101 0 0)), (7, .one (.ptr 122 0 0)), (8, .one (.int .i64 v2)), (9, .one (.int .i64 (r + 1)))], [(101, .box 1 4 [(.int .i64 n), (.int .i64 s), (.int .i64 t), (.ro (.arcs es))]), (120, .flat (.ints .i64 F2)), (122, .tail [(.int .i64 n), (.int .i64 s), (.int .i64 t), (.ro (.arcs es)), (.rw 120 0 es.length)] L2)]⟩) _ ⟨v, L9, F, ⟨(by exact InnerL.start hR.fl hR.val hl9 (by omega)), rfl⟩, (by kernel_rfl)⟩ ?_
      rintro κ _ ⟨v2, L2, F2, ⟨hI, rfl⟩, rfl⟩
      refine awp_block ?_
      refine awp_seq (awp_region ?_)
      refine aops_run 3 [1, 7, 8, 9, 27, 29] [101, 120, 122] [(0 < 1)] ⟨42, [(1, .one (.ptr 101 0 0)), (7, .one (.ptr 122 0 0)), (8, .one (.int .i64 v2)), (9, .one (.int .i64 (r + 1))), (27, .one (.ptr 122 0 0)), (29, .one (.int .i64 s))], [(101, .box 1 4 [(.int .i64 n), (.int .i64 s), (.int .i64 t), (.ro (.arcs es))]), (120, .flat (.ints .i64 F2)), (122, .tail [(.int .i64 n), (.int .i64 s), (.int .i64 t), (.ro (.arcs es)), (.rw 120 0 es.length)] L2)]⟩ hT (by kernel_rfl) (by kernel_rfl) ⟨(by decide), trivial⟩ ?_
      refine aops_call [(1, 122), (2, 120)] [] false ⟨true, [], 25, [.one (.ptr 1 0 0), .one (.int .i64 s), .one (.int .i64 600000)], [(1, .tail [(.int .i64 n), (.int .i64 s), (.int .i64 t), (.ro (.arcs es)), (.rw 2 0 es.length)] L2), (2, .flat (.ints .i64 F2))]⟩ [.one (.ptr 1 0 0), .one (.int .i64 s), .one (.int .i64 600000)] (sm := ⟨42, [(1, .one (.ptr 101 0 0)), (7, .one (.ptr 122 0 0)), (8, .one (.int .i64 v2)), (9, .one (.int .i64 (r + 1))), (27, .one (.ptr 122 0 0)), (29, .one (.int .i64 s)), (30, .whn false (.one .any))], [(101, .box 1 4 [(.int .i64 n), (.int .i64 s), (.int .i64 t), (.ro (.arcs es))]), (120, .flat (.ints .i64 F2)), (122, .tail [(.int .i64 n), (.int .i64 s), (.int .i64 t), (.ro (.arcs es)), (.rw 120 0 es.length)] L2)]⟩) (by kernel_rfl) (by kernel_rfl) (by decide) (fun _ => trivial) rfl (fun _ => send_all n s t es L9 hok 12 s 600000 L2 F2 hI.ask) (fun _ v Hr hv => ?_) (fun h => by cases h)
      obtain ⟨x9, L8, F8, hx9, rfl, rfl⟩ := hv
      refine ⟨⟨42, [(1, .one (.ptr 101 0 0)), (7, .one (.ptr 122 0 0)), (8, .one (.int .i64 v2)), (9, .one (.int .i64 (r + 1))), (27, .one (.ptr 122 0 0)), (29, .one (.int .i64 s)), (30, .one (.int .i64 x9))], [(101, .box 1 4 [(.int .i64 n), (.int .i64 s), (.int .i64 t), (.ro (.arcs es))]), (120, .flat (.ints .i64 F8)), (122, .tail [(.int .i64 n), (.int .i64 s), (.int .i64 t), (.ro (.arcs es)), (.rw 120 0 es.length)] L8)]⟩, by kernel_rfl, ?_⟩
      refine aops_run 1 [1, 7, 8, 9, 10] [101, 120, 122] [] ⟨42, [(1, .one (.ptr 101 0 0)), (7, .one (.ptr 122 0 0)), (8, .one (.int .i64 v2)), (9, .one (.int .i64 (r + 1))), (10, .one (.int .i64 x9))], [(101, .box 1 4 [(.int .i64 n), (.int .i64 s), (.int .i64 t), (.ro (.arcs es))]), (120, .flat (.ints .i64 F8)), (122, .tail [(.int .i64 n), (.int .i64 s), (.int .i64 t), (.ro (.arcs es)), (.rw 120 0 es.length)] L8)]⟩ hT (by kernel_rfl) (by kernel_rfl) trivial ?_
      refine aops_end_seq (by kernel_rfl) ?_
      refine awp_seq ?_
      refine awp_run_seq [1, 7, 8, 9, 10, 32] [101, 120, 122] [] ⟨42, [(1, .one (.ptr 101 0 0)), (7, .one (.ptr 122 0 0)), (8, .one (.int .i64 v2)), (9, .one (.int .i64 (r + 1))), (10, .one (.int .i64 x9)), (32, .one (.bool (decide (x9 = 0))))], [(101, .box 1 4 [(.int .i64 n), (.int .i64 s), (.int .i64 t), (.ro (.arcs es))]), (120, .flat (.ints .i64 F8)), (122, .tail [(.int .i64 n), (.int .i64 s), (.int .i64 t), (.ro (.arcs es)), (.rw 120 0 es.length)] L8)]⟩ hT (by kernel_rfl) trivial ?_
      refine awp_cond (b := (decide (x9 = 0))) (by kernel_rfl) (fun c9 => ?_) (fun c9 => ?_)
      · -- yes 9
        try simp only [bs] at c9
        rw [c9] at hx9
        have hRn := InnerL.fin hR hI hx9
        refine awp_cut [1, 7, 8, 9] [101, 120, 122] ⟨42, [(1, .one (.ptr 101 0 0)), (7, .one (.ptr 122 0 0)), (8, .one (.int .i64 v2)), (9, .one (.int .i64 (r + 1)))], [(101, .box 1 4 [(.int .i64 n), (.int .i64 s), (.int .i64 t), (.ro (.arcs es))]), (120, .flat (.ints .i64 F8)), (122, .tail [(.int .i64 n), (.int .i64 s), (.int .i64 t), (.ro (.arcs es)), (.rw 120 0 es.length)] L8)]⟩ (by kernel_rfl) ?_
        refine awp_exit ?_
        refine loop_end _ ?_ ⟨(r + 1), v2, L8, F8, ⟨(by exact hRn), rfl⟩, (by kernel_rfl)⟩
        omega
      · -- no 9
        try simp only [bs] at c9
        have hIn := hI.step hx9 c9
        have hbd := hIn.fl.bound s
        rw [hIn.val] at hbd
        have hx0 := hx9.x0
        refine awp_skip ?_
        refine awp_run [1, 7, 8, 9] [101, 120, 122] [(-9223372036854775808 ≤ (v2 + x9) ∧ (v2 + x9) ≤ 9223372036854775807)] ⟨42, [(1, .one (.ptr 101 0 0)), (7, .one (.ptr 122 0 0)), (8, .one (.int .i64 (v2 + x9))), (9, .one (.int .i64 (r + 1)))], [(101, .box 1 4 [(.int .i64 n), (.int .i64 s), (.int .i64 t), (.ro (.arcs es))]), (120, .flat (.ints .i64 F8)), (122, .tail [(.int .i64 n), (.int .i64 s), (.int .i64 t), (.ro (.arcs es)), (.rw 120 0 es.length)] L8)]⟩ hT (by kernel_rfl) ⟨(by first | omega | (simp only [lens]; omega) | (simp only [Bool.cond_decide]; omega) | (simp only [nadd_eq]; omega)), trivial⟩ ?_
        refine loop_end _ ?_ ⟨(v2 + x9), L8, F8, ⟨(by exact hIn), rfl⟩, (by kernel_rfl)⟩
        omega
    · -- no 6
      try simp only [bs] at c6
      refine awp_exit ?_
      refine awp_run_seq [2, 3, 4, 5] [120] [(4 < (5 + L9.length))] ⟨42, [(2, .one (.rw 120 0 es.length)), (3, .one (.int .i64 v)), (4, .one (.int .i64 r)), (5, .one (.int .i64 0))], [(120, .flat (.ints .i64 F))]⟩ hT (by kernel_rfl) ⟨(by first | omega | (simp only [lens]; omega) | (simp only [Bool.cond_decide]; omega) | (simp only [nadd_eq]; omega)), trivial⟩ ?_
      refine awp_weak (awk_ren 120 9001 (s' := ⟨42, [(2, .one (.rw 9001 0 es.length)), (3, .one (.int .i64 v)), (4, .one (.int .i64 r)), (5, .one (.int .i64 0))], [(9001, .flat (.ints .i64 F))]⟩) (by kernel_rfl)) ?_
      refine awp_ret ?_
      refine kRet.ret _ [9001] [] (.tup [(false, [(.rw 9001 0 es.length)]), (false, [(.int .i64 v)]), (false, [(.int .i64 r)]), (false, [(.int .i64 0)])]) [(9001, .flat (.ints .i64 F))] (by kernel_rfl) trivial ?_
      exact ⟨F, v, r, (by rw [hE]; exact hR.end_ hE hl9 (by omega)), (by rw [hE, hlF]), (by kernel_rfl)⟩

end Go.Ab
