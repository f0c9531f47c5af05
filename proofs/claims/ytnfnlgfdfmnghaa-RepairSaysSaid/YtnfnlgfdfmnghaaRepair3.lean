/- Of a net that changes: an arc more. -/
import Derived.Test.YtnfnlgfdfmnghaaTab
import Derived.Test.YtnfnlgfdfmnghaaRepair1
set_option maxRecDepth 100000
namespace Go.Ab
open Go Go.Proofs
theorem rep_add (n s t : Int) (es : List Arc) (f : List Int) (a : Arc) : ACall Try.prog 11 [.agg [(.i n), (.i s), (.i t), (.ro (.arcs es))], .one (.ro (.ints .i64 f)), .agg [(.i a.src), (.i a.dst), (.i a.cap)]] [] (fun ov oh => ∃ (N S T : Int) (A : List Arc) (g : List Int) (v e : Int), (RepRes n s t (es ++ [⟨a.src, a.dst, a.cap⟩]) (addErr n s t es f n s t (es ++ [⟨a.src, a.dst, a.cap⟩])) N S T A g v e) ∧ ov = .tup [(true, [(.i N), (.i S), (.i T), (.w 9001 A.length)]), (false, [(.w 9002 g.length)]), (false, [(.i v)]), (false, [(.i e)])] ∧ oh = [(9001, .fa A), (9002, .fi g)]) := by
  refine acall_intro hT Try.func11 rfl (by kernel_rfl) rfl (by kernel_rfl) ?_
  refine awp_run_seq [1, 3, 5, 6] [103, 105, 106] [] ⟨42, [(1, .one (.ro (.ints .i64 f))), (3, .p 103), (5, .p 105), (6, .p 106)], [(103, .box 1 4 [(.i n), (.i s), (.i t), (.ro (.arcs es))]), (105, .box 1 3 [(.i a.src), (.i a.dst), (.i a.cap)]), (106, .box 1 4 [(.i 0), (.i 0), (.i 0), .nils])]⟩ hT (by kernel_rfl) trivial ?_
  refine awp_seq ?_
  refine awp_seq (awp_region ?_)
  refine aops_run 2 [1, 3, 5, 6, 12, 13] [103, 105, 106] [(0 < 1)] ⟨42, [(1, .one (.ro (.ints .i64 f))), (3, .p 103), (5, .p 105), (6, .p 106), (12, .agg [(.i n), (.i s), (.i t), (.ro (.arcs es))]), (13, .one (.ro (.ints .i64 f)))], [(103, .box 1 4 [(.i n), (.i s), (.i t), (.ro (.arcs es))]), (105, .box 1 3 [(.i a.src), (.i a.dst), (.i a.cap)]), (106, .box 1 4 [(.i 0), (.i 0), (.i 0), .nils])]⟩ hT (by kernel_rfl) (by kernel_rfl) ⟨(by decide), trivial⟩ ?_
  refine aops_pure false ⟨true, [], 9, [.agg [(.i n), (.i s), (.i t), (.ro (.arcs es))], .one (.ro (.ints .i64 f))], []⟩ [.agg [(.i n), (.i s), (.i t), (.ro (.arcs es))], .one (.ro (.ints .i64 f))] (.i (repErr n s t es f)) ⟨42, [(1, .one (.ro (.ints .i64 f))), (3, .p 103), (5, .p 105), (6, .p 106), (12, .agg [(.i n), (.i s), (.i t), (.ro (.arcs es))]), (13, .one (.ro (.ints .i64 f))), (14, .i (repErr n s t es f))], [(103, .box 1 4 [(.i n), (.i s), (.i t), (.ro (.arcs es))]), (105, .box 1 3 [(.i a.src), (.i a.dst), (.i a.cap)]), (106, .box 1 4 [(.i 0), (.i 0), (.i 0), .nils])]⟩ (by kernel_rfl) (by kernel_rfl) (fun _ => trivial) rfl (fun _ => rep_check n s t es f) ?_
  refine aops_run 1 [1, 3, 5, 6, 10] [103, 105, 106] [] ⟨42, [(1, .one (.ro (.ints .i64 f))), (3, .p 103), (5, .p 105), (6, .p 106), (10, .i (repErr n s t es f))], [(103, .box 1 4 [(.i n), (.i s), (.i t), (.ro (.arcs es))]), (105, .box 1 3 [(.i a.src), (.i a.dst), (.i a.cap)]), (106, .box 1 4 [(.i 0), (.i 0), (.i 0), .nils])]⟩ hT (by kernel_rfl) (by kernel_rfl) trivial ?_
  refine aops_end_seq (by kernel_rfl) ?_
  refine awp_run_seq [1, 3, 5, 6, 10, 16] [103, 105, 106] [] ⟨42, [(1, .one (.ro (.ints .i64 f))), (3, .p 103), (5, .p 105), (6, .p 106), (10, .i (repErr n s t es f)), (16, .one (.bool (decide ((repErr n s t es f) ≠ 0))))], [(103, .box 1 4 [(.i n), (.i s), (.i t), (.ro (.arcs es))]), (105, .box 1 3 [(.i a.src), (.i a.dst), (.i a.cap)]), (106, .box 1 4 [(.i 0), (.i 0), (.i 0), .nils])]⟩ hT (by kernel_rfl) trivial ?_
  refine awp_cond (b := (decide ((repErr n s t es f) ≠ 0))) (by kernel_rfl) (fun c2 => ?_) (fun c2 => ?_)
  ·
    try simp only [bs] at c2
    refine awp_run_seq [6, 7, 8, 9] [106] [(0 < 1)] ⟨42, [(6, .p 106), (7, .one .nils), (8, .i 0), (9, .i (repErr n s t es f))], [(106, .box 1 4 [(.i 0), (.i 0), (.i 0), .nils])]⟩ hT (by kernel_rfl) ⟨(by decide), trivial⟩ ?_
    refine awp_weak (awk_empty 6603 (.fa []) rfl (by decide) _) ?_
    refine awp_weak (awk_boxcell 106 3 1 4 [(.i 0), (.i 0), (.i 0), .nils] .nils (.w 6603 0) _ (by kernel_rfl) rfl (wkv_nils (o := .fa []) (by kernel_rfl))) ?_
    refine awp_weak (awk_empty 5007 (.fi []) rfl (by decide) _) ?_
    refine awp_weak (awk_slot 7 (.one .nils) (.w 5007 0) _ (by kernel_rfl) (.one (wkv_nils (o := .fi []) (by kernel_rfl)))) ?_
    refine awp_weak (awk_ren 6603 9001 (s' := ⟨42, [(6, .p 106), (7, .w 5007 0), (8, .i 0), (9, .i (repErr n s t es f))], [(106, .box 1 4 [(.i 0), (.i 0), (.i 0), (.w 9001 0)]), (5007, .fi []), (9001, .fa [])]⟩) (by kernel_rfl)) ?_
    refine awp_weak (awk_ren 5007 9002 (s' := ⟨42, [(6, .p 106), (7, .w 9002 0), (8, .i 0), (9, .i (repErr n s t es f))], [(106, .box 1 4 [(.i 0), (.i 0), (.i 0), (.w 9001 0)]), (9001, .fa []), (9002, .fi [])]⟩) (by kernel_rfl)) ?_
    refine awp_ret ?_
    refine kRet.ret _ [9001, 9002] [(0 < 1)] (.tup [(true, [(.i 0), (.i 0), (.i 0), (.w 9001 0)]), (false, [(.w 9002 0)]), (false, [(.i 0)]), (false, [(.i (repErr n s t es f))])]) [(9001, .fa []), (9002, .fi [])] (by kernel_rfl) ⟨(by decide), trivial⟩ ?_
    exact ⟨0, 0, 0, [], [], 0, (repErr n s t es f), (by rw [addErr_rep c2]; exact RepRes.bad c2), (by kernel_rfl), (by kernel_rfl)⟩
  ·
    try simp only [bs] at c2
    have hX : (repErr n s t es f) = 0 := by omega
    obtain ⟨hfo, hF, hgv⟩ := repErr_ok hX
    have hok := hfo.net
    have hE := hok.err
    have h1 := hok.n1
    have h2 := hok.n2
    have h3 := hok.len
    have hgn := gone_nn hfo hgv
    have hfl := hfo.fin.len
    obtain ⟨E2, hE2⟩ : ∃ x, es ++ [(⟨a.src, a.dst, a.cap⟩ : Arc)] = x := ⟨_, rfl⟩
    have hE2l : es.length + 1 = E2.length := by rw [← hE2]; simp
    refine awp_skip ?_
    refine awp_seq (awp_calm2 [(2, ⟨[.one (.ro (.arcs es))], .w 9001 es.length, [(9001, .fa es)], [(9001, 121)]⟩)] false [[], [0], [0, 1], [], [3], [0, 1, 2, 3, 4], [0, 1, 2, 3, 4, 5], [0, 1, 2, 3, 4, 5, 6]] 5 [1, 3, 6] [103, 106, 121] [(0, []), (1, [(0 < 1)]), (2, [(AllP [] ∧ [.one (.ro (.arcs es))] = ([.one (.ro (.arcs es))] : List AV) ∧ ACall Try.prog 14 [.one (.ro (.arcs es))] [] (fun ov oh => ov = .w 9001 es.length ∧ oh = [(9001, .fa es)]))]), (3, [(0 < 1)]), (4, [])] [(5, [(es.length = es.length), ((es.length + 1) * 24 ≤ 140737488355328), ((es.length + 1) ≤ 9223372036854775807)]), (6, []), (7, [(0 < 1)])] 1 ⟨42, [(1, .one (.ro (.ints .i64 f))), (3, .p 103), (6, .p 106)], [(103, .box 1 4 [(.i n), (.i s), (.i t), (.w 121 (es.length + 1))]), (106, .box 1 4 [(.i 0), (.i 0), (.i 0), .nils]), (121, .fa (es ++ [⟨a.src, a.dst, a.cap⟩]))]⟩ (by kernel_rfl) (by kernel_rfl) hT (by kernel_rfl) (by kernel_rfl) ⟨trivial, ⟨(by decide), trivial⟩, ⟨⟨trivial, rfl, clone_arcs es (by first | omega | (simp; omega))⟩, trivial⟩, ⟨(by decide), trivial⟩, trivial, trivial⟩ ⟨⟨(by omega), (by omega), (by omega), trivial⟩, trivial, ⟨(by decide), trivial⟩, trivial⟩ ?_)
    refine awp_seq ?_
    rw [show (es ++ [⟨a.src, a.dst, a.cap⟩]) = E2 from hE2]
    rw [show (es.length + 1) = E2.length from hE2l]
    refine awp_seq (awp_region ?_)
    refine aops_run 1 [1, 3, 6, 26] [103, 106, 121] [(0 < 1)] ⟨42, [(1, .one (.ro (.ints .i64 f))), (3, .p 103), (6, .p 106), (26, .agg [(.i n), (.i s), (.i t), (.w 121 E2.length)])], [(103, .box 1 4 [(.i n), (.i s), (.i t), (.w 121 E2.length)]), (106, .box 1 4 [(.i 0), (.i 0), (.i 0), .nils]), (121, .fa E2)]⟩ hT (by kernel_rfl) (by kernel_rfl) ⟨(by decide), trivial⟩ ?_
    refine aops_pure true ⟨true, [], 39, [.agg [(.i n), (.i s), (.i t), (.ro (.arcs (List.take E2.length E2)))]], []⟩ [.agg [(.i n), (.i s), (.i t), (.ro (.arcs E2))]] (.i (netErr n s t E2)) ⟨42, [(1, .one (.ro (.ints .i64 f))), (3, .p 103), (6, .p 106), (26, .agg [(.i n), (.i s), (.i t), (.w 121 E2.length)]), (27, .i (netErr n s t E2))], [(103, .box 1 4 [(.i n), (.i s), (.i t), (.w 121 E2.length)]), (106, .box 1 4 [(.i 0), (.i 0), (.i 0), .nils]), (121, .fa E2)]⟩ (by kernel_rfl) (by kernel_rfl) (fun _ => trivial) (by rw [show (List.take E2.length E2) = E2 from List.take_of_length_le (by first | omega | simp)]) (fun _ => graph_CheckNet n s t E2) ?_
    refine aops_run 1 [1, 3, 6, 11] [103, 106, 121] [] ⟨42, [(1, .one (.ro (.ints .i64 f))), (3, .p 103), (6, .p 106), (11, .i (netErr n s t E2))], [(103, .box 1 4 [(.i n), (.i s), (.i t), (.w 121 E2.length)]), (106, .box 1 4 [(.i 0), (.i 0), (.i 0), .nils]), (121, .fa E2)]⟩ hT (by kernel_rfl) (by kernel_rfl) trivial ?_
    refine aops_end_seq (by kernel_rfl) ?_
    refine awp_run_seq [1, 3, 6, 11, 29] [103, 106, 121] [] ⟨42, [(1, .one (.ro (.ints .i64 f))), (3, .p 103), (6, .p 106), (11, .i (netErr n s t E2)), (29, .one (.bool (decide ((netErr n s t E2) ≠ 0))))], [(103, .box 1 4 [(.i n), (.i s), (.i t), (.w 121 E2.length)]), (106, .box 1 4 [(.i 0), (.i 0), (.i 0), .nils]), (121, .fa E2)]⟩ hT (by kernel_rfl) trivial ?_
    refine awp_cond (b := (decide ((netErr n s t E2) ≠ 0))) (by kernel_rfl) (fun c6 => ?_) (fun c6 => ?_)
    ·
      try simp only [bs] at c6
      refine awp_run_seq [6, 7, 8, 9] [106] [(0 < 1)] ⟨42, [(6, .p 106), (7, .one .nils), (8, .i 0), (9, .i (netErr n s t E2))], [(106, .box 1 4 [(.i 0), (.i 0), (.i 0), .nils])]⟩ hT (by kernel_rfl) ⟨(by decide), trivial⟩ ?_
      refine awp_weak (awk_empty 6603 (.fa []) rfl (by decide) _) ?_
      refine awp_weak (awk_boxcell 106 3 1 4 [(.i 0), (.i 0), (.i 0), .nils] .nils (.w 6603 0) _ (by kernel_rfl) rfl (wkv_nils (o := .fa []) (by kernel_rfl))) ?_
      refine awp_weak (awk_empty 5007 (.fi []) rfl (by decide) _) ?_
      refine awp_weak (awk_slot 7 (.one .nils) (.w 5007 0) _ (by kernel_rfl) (.one (wkv_nils (o := .fi []) (by kernel_rfl)))) ?_
      refine awp_weak (awk_ren 6603 9001 (s' := ⟨42, [(6, .p 106), (7, .w 5007 0), (8, .i 0), (9, .i (netErr n s t E2))], [(106, .box 1 4 [(.i 0), (.i 0), (.i 0), (.w 9001 0)]), (5007, .fi []), (9001, .fa [])]⟩) (by kernel_rfl)) ?_
      refine awp_weak (awk_ren 5007 9002 (s' := ⟨42, [(6, .p 106), (7, .w 9002 0), (8, .i 0), (9, .i (netErr n s t E2))], [(106, .box 1 4 [(.i 0), (.i 0), (.i 0), (.w 9001 0)]), (9001, .fa []), (9002, .fi [])]⟩) (by kernel_rfl)) ?_
      refine awp_ret ?_
      refine kRet.ret _ [9001, 9002] [(0 < 1)] (.tup [(true, [(.i 0), (.i 0), (.i 0), (.w 9001 0)]), (false, [(.w 9002 0)]), (false, [(.i 0)]), (false, [(.i (netErr n s t E2))])]) [(9001, .fa []), (9002, .fi [])] (by kernel_rfl) ⟨(by decide), trivial⟩ ?_
      exact ⟨0, 0, 0, [], [], 0, (netErr n s t E2), (by rw [addErr_net hX]; exact RepRes.bad c6), (by kernel_rfl), (by kernel_rfl)⟩
    ·
      try simp only [bs] at c6
      have hN : netErr n s t E2 = 0 := by omega
      have hY : addErr n s t es f n s t E2 = 0 := (addErr_net hX).trans hN
      have hfin : FlOk n s t E2 (f ++ [0]) := by have h9 := netErr_ok hN; rw [← hE2] at h9 ⊢; exact add_flow hfo h9
      refine awp_skip ?_
      refine awp_seq (awp_calm3 [] false [[], [], [1], [], [1, 2, 3], [0, 1, 2, 3, 4], [0, 1, 2, 3, 4, 5], [0, 1, 2, 3, 4, 5], [0, 1, 2, 3, 4, 5], [0, 1, 2, 3, 4, 5], [0, 1, 2, 3, 4, 5, 6, 7, 8, 9], [0, 1, 2, 3, 4, 5, 6, 7, 8, 9, 10], [0, 1, 2, 3, 4, 5, 6, 7, 8, 9, 10, 11], [0, 1, 2, 3, 4, 5, 6, 7, 8, 9, 10, 11, 12]] 0 14 #[false, false, false, false, false, false, false, false, false, false, false, false, false, false] [1, 3, 6] [103, 106, 121] [] ⟨42, [(1, .one (.ro (.ints .i64 f))), (3, .p 103), (6, .p 106)], [(103, .box 1 4 [(.i n), (.i s), (.i t), (.w 121 E2.length)]), (106, .box 1 4 [(.i 0), (.i 0), (.i 0), .nils]), (121, .fa E2)]⟩ (by kernel_rfl) hT (by kernel_rfl) (by kernel_rfl) (by kernel_rfl) (by kernel_rfl) trivial ?_)
      refine aany_part (n := 9) (L := #[true, true, true, true, true, false, false, false, false, false, false, false, false, false]) [(2, ⟨[.one (.ro (.ints .i64 f))], .w 9001 f.length, [(9001, .fi f)], [(9001, 134)]⟩)] false 5 [6, 32, 36] [106, 121, 134] 8 [(0, [(0 < 1)]), (1, []), (2, [(AllP [] ∧ [.one (.ro (.ints .i64 f))] = ([.one (.ro (.ints .i64 f))] : List AV) ∧ ACall Try.prog 35 [.one (.ro (.ints .i64 f))] [] (fun ov oh => ov = .w 9001 f.length ∧ oh = [(9001, .fi f)]))]), (3, []), (4, [(f.length = f.length), ((f.length + 1) * 8 ≤ 140737488355328), ((f.length + 1) ≤ 9223372036854775807)])] ⟨42, [(6, .p 106), (32, .agg [(.i n), (.i s), (.i t), (.w 121 E2.length)]), (36, .w 134 (f.length + 1))], [(106, .box 1 4 [(.i 0), (.i 0), (.i 0), .nils]), (121, .fa E2), (134, .fi (f ++ [0]))]⟩ (by kernel_rfl) hT (by kernel_rfl) ⟨⟨(by decide), trivial⟩, trivial, ⟨⟨trivial, rfl, clone_ints f (by first | omega | (simp; omega))⟩, trivial⟩, trivial, ⟨(by omega), (by omega), (by omega), trivial⟩, trivial⟩ ?_
      refine aany_call (n := 8) (k := 5) (L := #[true, true, true, true, true, true, false, false, false, false, false, false, false, false]) [] [(9001, 137), (9002, 10137)] true ⟨true, [], 38, [.agg [(.i n), (.i s), (.i t), (.ro (.arcs (List.take E2.length E2)))], .one (.ro (.ints .i64 (List.take (f.length + 1) (f ++ [0]))))], []⟩ [.agg [(.i n), (.i s), (.i t), (.ro (.arcs E2))], .one (.ro (.ints .i64 (f ++ [0])))] (sm := ⟨42, [(6, .p 106), (32, .agg [(.i n), (.i s), (.i t), (.w 121 E2.length)]), (36, .w 134 (f.length + 1)), (37, .whn false (.one .any))], [(106, .box 1 4 [(.i 0), (.i 0), (.i 0), .nils]), (121, .fa E2), (134, .fi (f ++ [0]))]⟩) (by kernel_rfl) (by kernel_rfl) (by kernel_rfl) (by kernel_rfl) (by decide) (fun _ => trivial) (by rw [show (List.take E2.length E2) = E2 from List.take_of_length_le (by first | omega | simp)]; rw [show (List.take (f.length + 1) (f ++ [0])) = (f ++ [0]) from List.take_of_length_le (by first | omega | simp)]) (fun _ => rep_on n s t E2 (f ++ [0]) (by omega)) (fun _ v Hr hv => ?_) (fun h => by cases h)
      obtain ⟨g8, v8, hm8, rfl, rfl⟩ := hv
      refine ⟨⟨42, [(6, .p 106), (32, .agg [(.i n), (.i s), (.i t), (.w 121 E2.length)]), (36, .w 134 (f.length + 1)), (37, .tup [(true, [(.i n), (.i s), (.i t), (.w 137 E2.length)]), (false, [(.w 10137 g8.length)]), (false, [(.i v8)]), (false, [(.i (flowErr n s t E2 (f ++ [0])))])])], [(106, .box 1 4 [(.i 0), (.i 0), (.i 0), .nils]), (121, .fa E2), (134, .fi (f ++ [0])), (137, .fa E2), (10137, .fi g8)]⟩, by kernel_rfl, ?_⟩
      refine aany_weak (awk_cut [6, 37] [106, 137, 10137] _) ?_
      refine aany_end [] false [6, 7, 8, 9] [106, 137, 10137] 1 [(6, []), (7, []), (8, []), (9, []), (10, [(0 < 1)]), (11, []), (12, []), (13, [])] ⟨42, [(6, .p 106), (7, .w 10137 g8.length), (8, .i v8), (9, .i (flowErr n s t E2 (f ++ [0])))], [(106, .box 1 4 [(.i n), (.i s), (.i t), (.w 137 E2.length)]), (137, .fa E2), (10137, .fi g8)]⟩ (by kernel_rfl) hT (by kernel_rfl) ⟨trivial, trivial, trivial, trivial, ⟨(by decide), trivial⟩, trivial, trivial, trivial, trivial⟩ ?_
      refine awp_weak (awk_ren 137 9001 (s' := ⟨42, [(6, .p 106), (7, .w 10137 g8.length), (8, .i v8), (9, .i (flowErr n s t E2 (f ++ [0])))], [(106, .box 1 4 [(.i n), (.i s), (.i t), (.w 9001 E2.length)]), (9001, .fa E2), (10137, .fi g8)]⟩) (by kernel_rfl)) ?_
      refine awp_weak (awk_ren 10137 9002 (s' := ⟨42, [(6, .p 106), (7, .w 9002 g8.length), (8, .i v8), (9, .i (flowErr n s t E2 (f ++ [0])))], [(106, .box 1 4 [(.i n), (.i s), (.i t), (.w 9001 E2.length)]), (9001, .fa E2), (9002, .fi g8)]⟩) (by kernel_rfl)) ?_
      refine awp_ret ?_
      refine kRet.ret _ [9001, 9002] [(0 < 1)] (.tup [(true, [(.i n), (.i s), (.i t), (.w 9001 E2.length)]), (false, [(.w 9002 g8.length)]), (false, [(.i v8)]), (false, [(.i (flowErr n s t E2 (f ++ [0])))])]) [(9001, .fa E2), (9002, .fi g8)] (by kernel_rfl) ⟨(by decide), trivial⟩ ?_
      exact ⟨n, s, t, E2, g8, v8, (flowErr n s t E2 (f ++ [0])), (by obtain ⟨q1, q2⟩ := RepRes.good hfin hm8; exact ⟨q1.trans hY.symm, .inr ⟨hY, rfl, rfl, rfl, rfl, (q2.resolve_left (fun q => q.1 rfl)).2.2.2.2.2⟩⟩), (by kernel_rfl), (by kernel_rfl)⟩
end Go.Ab
