/- Of a net that changes: other ends. -/
import Derived.Test.YtnfnlgfdfmnghaaTab
import Derived.Test.YtnfnlgfdfmnghaaRepair1
import Derived.Test.YtnfnlgfdfmnghaaSplit2
set_option maxRecDepth 100000
namespace Go.Ab
open Go Go.Proofs
theorem rep_ends (n s t : Int) (es : List Arc) (f : List Int) (u w : Int) : ACall Try.prog 13 [.agg [(.i n), (.i s), (.i t), (.ro (.arcs es))], .one (.ro (.ints .i64 f)), .i u, .i w] [] (fun ov oh => ∃ (N S T : Int) (A : List Arc) (g : List Int) (v e : Int), (RepRes n u w es (addErr n s t es f n u w es) N S T A g v e) ∧ ov = .tup [(true, [(.i N), (.i S), (.i T), (.w 9001 A.length)]), (false, [(.w 9002 g.length)]), (false, [(.i v)]), (false, [(.i e)])] ∧ oh = [(9001, .fa A), (9002, .fi g)]) := by
  refine acall_intro hT Try.func13 rfl (by kernel_rfl) rfl (by kernel_rfl) ?_
  refine awp_run_seq [1, 2, 3, 4, 8] [104, 108] [] ⟨82, [(1, .one (.ro (.ints .i64 f))), (2, .i u), (3, .i w), (4, .p 104), (8, .p 108)], [(104, .box 1 4 [(.i n), (.i s), (.i t), (.ro (.arcs es))]), (108, .box 1 4 [(.i 0), (.i 0), (.i 0), .nils])]⟩ hT (by kernel_rfl) trivial ?_
  refine awp_seq ?_
  refine awp_seq (awp_region ?_)
  refine aops_run 2 [1, 2, 3, 4, 8, 22, 23] [104, 108] [(0 < 1)] ⟨82, [(1, .one (.ro (.ints .i64 f))), (2, .i u), (3, .i w), (4, .p 104), (8, .p 108), (22, .agg [(.i n), (.i s), (.i t), (.ro (.arcs es))]), (23, .one (.ro (.ints .i64 f)))], [(104, .box 1 4 [(.i n), (.i s), (.i t), (.ro (.arcs es))]), (108, .box 1 4 [(.i 0), (.i 0), (.i 0), .nils])]⟩ hT (by kernel_rfl) (by kernel_rfl) ⟨(by decide), trivial⟩ ?_
  refine aops_pure false ⟨true, [], 9, [.agg [(.i n), (.i s), (.i t), (.ro (.arcs es))], .one (.ro (.ints .i64 f))], []⟩ [.agg [(.i n), (.i s), (.i t), (.ro (.arcs es))], .one (.ro (.ints .i64 f))] (.i (repErr n s t es f)) ⟨82, [(1, .one (.ro (.ints .i64 f))), (2, .i u), (3, .i w), (4, .p 104), (8, .p 108), (22, .agg [(.i n), (.i s), (.i t), (.ro (.arcs es))]), (23, .one (.ro (.ints .i64 f))), (24, .i (repErr n s t es f))], [(104, .box 1 4 [(.i n), (.i s), (.i t), (.ro (.arcs es))]), (108, .box 1 4 [(.i 0), (.i 0), (.i 0), .nils])]⟩ (by kernel_rfl) (by kernel_rfl) (fun _ => trivial) rfl (fun _ => rep_check n s t es f) ?_
  refine aops_run 1 [1, 2, 3, 4, 8, 12] [104, 108] [] ⟨82, [(1, .one (.ro (.ints .i64 f))), (2, .i u), (3, .i w), (4, .p 104), (8, .p 108), (12, .i (repErr n s t es f))], [(104, .box 1 4 [(.i n), (.i s), (.i t), (.ro (.arcs es))]), (108, .box 1 4 [(.i 0), (.i 0), (.i 0), .nils])]⟩ hT (by kernel_rfl) (by kernel_rfl) trivial ?_
  refine aops_end_seq (by kernel_rfl) ?_
  refine awp_run_seq [1, 2, 3, 4, 8, 12, 26] [104, 108] [] ⟨82, [(1, .one (.ro (.ints .i64 f))), (2, .i u), (3, .i w), (4, .p 104), (8, .p 108), (12, .i (repErr n s t es f)), (26, .one (.bool (decide ((repErr n s t es f) ≠ 0))))], [(104, .box 1 4 [(.i n), (.i s), (.i t), (.ro (.arcs es))]), (108, .box 1 4 [(.i 0), (.i 0), (.i 0), .nils])]⟩ hT (by kernel_rfl) trivial ?_
  refine awp_cond (b := (decide ((repErr n s t es f) ≠ 0))) (by kernel_rfl) (fun c2 => ?_) (fun c2 => ?_)
  ·
    try simp only [bs] at c2
    refine awp_run_seq [8, 9, 10, 11] [108] [(0 < 1)] ⟨82, [(8, .p 108), (9, .one .nils), (10, .i 0), (11, .i (repErr n s t es f))], [(108, .box 1 4 [(.i 0), (.i 0), (.i 0), .nils])]⟩ hT (by kernel_rfl) ⟨(by decide), trivial⟩ ?_
    refine awp_weak (awk_empty 6803 (.fa []) rfl (by decide) _) ?_
    refine awp_weak (awk_boxcell 108 3 1 4 [(.i 0), (.i 0), (.i 0), .nils] .nils (.w 6803 0) _ (by kernel_rfl) rfl (wkv_nils (o := .fa []) (by kernel_rfl))) ?_
    refine awp_weak (awk_empty 5009 (.fi []) rfl (by decide) _) ?_
    refine awp_weak (awk_slot 9 (.one .nils) (.w 5009 0) _ (by kernel_rfl) (.one (wkv_nils (o := .fi []) (by kernel_rfl)))) ?_
    refine awp_weak (awk_ren 6803 9001 (s' := ⟨82, [(8, .p 108), (9, .w 5009 0), (10, .i 0), (11, .i (repErr n s t es f))], [(108, .box 1 4 [(.i 0), (.i 0), (.i 0), (.w 9001 0)]), (5009, .fi []), (9001, .fa [])]⟩) (by kernel_rfl)) ?_
    refine awp_weak (awk_ren 5009 9002 (s' := ⟨82, [(8, .p 108), (9, .w 9002 0), (10, .i 0), (11, .i (repErr n s t es f))], [(108, .box 1 4 [(.i 0), (.i 0), (.i 0), (.w 9001 0)]), (9001, .fa []), (9002, .fi [])]⟩) (by kernel_rfl)) ?_
    refine awp_ret ?_
    refine kRet.ret _ [9001, 9002] [(0 < 1)] (.tup [(true, [(.i 0), (.i 0), (.i 0), (.w 9001 0)]), (false, [(.w 9002 0)]), (false, [(.i 0)]), (false, [(.i (repErr n s t es f))])]) [(9001, .fa []), (9002, .fi [])] (by kernel_rfl) ⟨(by decide), trivial⟩ ?_
    exact ⟨0, 0, 0, [], [], 0, (repErr n s t es f), (by rw [addErr_rep c2]; exact RepRes.bad c2), (by kernel_rfl), (by kernel_rfl)⟩
  ·
    try simp only [bs] at c2
    have hX : (repErr n s t es f) = 0 := by omega
    obtain ⟨hfo, hF, hgv⟩ := repErr_ok hX
    have hok := hfo.net
    have hE := hok.err
    have h1 := hok.n1
    have h2 := hok.n2
    have h3 := hok.len
    have hgn := gone_nn hfo hgv
    have hfl := hfo.fin.len
    refine awp_skip ?_
    refine awp_run_seq [1, 4, 8, 13] [104, 108, 113] [(0 < 1), (0 < 1), (0 < 1)] ⟨82, [(1, .one (.ro (.ints .i64 f))), (4, .p 104), (8, .p 108), (13, .p 113)], [(104, .box 1 4 [(.i n), (.i s), (.i t), (.ro (.arcs es))]), (108, .box 1 4 [(.i 0), (.i 0), (.i 0), .nils]), (113, .box 1 4 [(.i n), (.i u), (.i w), (.ro (.arcs es))])]⟩ hT (by kernel_rfl) ⟨(by decide), (by decide), (by decide), trivial⟩ ?_
    refine awp_seq ?_
    refine awp_seq (awp_region ?_)
    refine aops_run 1 [1, 4, 8, 13, 36] [104, 108, 113] [(0 < 1)] ⟨82, [(1, .one (.ro (.ints .i64 f))), (4, .p 104), (8, .p 108), (13, .p 113), (36, .agg [(.i n), (.i u), (.i w), (.ro (.arcs es))])], [(104, .box 1 4 [(.i n), (.i s), (.i t), (.ro (.arcs es))]), (108, .box 1 4 [(.i 0), (.i 0), (.i 0), .nils]), (113, .box 1 4 [(.i n), (.i u), (.i w), (.ro (.arcs es))])]⟩ hT (by kernel_rfl) (by kernel_rfl) ⟨(by decide), trivial⟩ ?_
    refine aops_pure false ⟨true, [], 39, [.agg [(.i n), (.i u), (.i w), (.ro (.arcs es))]], []⟩ [.agg [(.i n), (.i u), (.i w), (.ro (.arcs es))]] (.i (netErr n u w es)) ⟨82, [(1, .one (.ro (.ints .i64 f))), (4, .p 104), (8, .p 108), (13, .p 113), (36, .agg [(.i n), (.i u), (.i w), (.ro (.arcs es))]), (37, .i (netErr n u w es))], [(104, .box 1 4 [(.i n), (.i s), (.i t), (.ro (.arcs es))]), (108, .box 1 4 [(.i 0), (.i 0), (.i 0), .nils]), (113, .box 1 4 [(.i n), (.i u), (.i w), (.ro (.arcs es))])]⟩ (by kernel_rfl) (by kernel_rfl) (fun _ => trivial) rfl (fun _ => graph_CheckNet n u w es) ?_
    refine aops_run 1 [1, 4, 8, 13, 14] [104, 108, 113] [] ⟨82, [(1, .one (.ro (.ints .i64 f))), (4, .p 104), (8, .p 108), (13, .p 113), (14, .i (netErr n u w es))], [(104, .box 1 4 [(.i n), (.i s), (.i t), (.ro (.arcs es))]), (108, .box 1 4 [(.i 0), (.i 0), (.i 0), .nils]), (113, .box 1 4 [(.i n), (.i u), (.i w), (.ro (.arcs es))])]⟩ hT (by kernel_rfl) (by kernel_rfl) trivial ?_
    refine aops_end_seq (by kernel_rfl) ?_
    refine awp_run_seq [1, 4, 8, 13, 14, 39] [104, 108, 113] [] ⟨82, [(1, .one (.ro (.ints .i64 f))), (4, .p 104), (8, .p 108), (13, .p 113), (14, .i (netErr n u w es)), (39, .one (.bool (decide ((netErr n u w es) ≠ 0))))], [(104, .box 1 4 [(.i n), (.i s), (.i t), (.ro (.arcs es))]), (108, .box 1 4 [(.i 0), (.i 0), (.i 0), .nils]), (113, .box 1 4 [(.i n), (.i u), (.i w), (.ro (.arcs es))])]⟩ hT (by kernel_rfl) trivial ?_
    refine awp_cond (b := (decide ((netErr n u w es) ≠ 0))) (by kernel_rfl) (fun c6 => ?_) (fun c6 => ?_)
    ·
      try simp only [bs] at c6
      refine awp_run_seq [8, 9, 10, 11] [108] [(0 < 1)] ⟨82, [(8, .p 108), (9, .one .nils), (10, .i 0), (11, .i (netErr n u w es))], [(108, .box 1 4 [(.i 0), (.i 0), (.i 0), .nils])]⟩ hT (by kernel_rfl) ⟨(by decide), trivial⟩ ?_
      refine awp_weak (awk_empty 6803 (.fa []) rfl (by decide) _) ?_
      refine awp_weak (awk_boxcell 108 3 1 4 [(.i 0), (.i 0), (.i 0), .nils] .nils (.w 6803 0) _ (by kernel_rfl) rfl (wkv_nils (o := .fa []) (by kernel_rfl))) ?_
      refine awp_weak (awk_empty 5009 (.fi []) rfl (by decide) _) ?_
      refine awp_weak (awk_slot 9 (.one .nils) (.w 5009 0) _ (by kernel_rfl) (.one (wkv_nils (o := .fi []) (by kernel_rfl)))) ?_
      refine awp_weak (awk_ren 6803 9001 (s' := ⟨82, [(8, .p 108), (9, .w 5009 0), (10, .i 0), (11, .i (netErr n u w es))], [(108, .box 1 4 [(.i 0), (.i 0), (.i 0), (.w 9001 0)]), (5009, .fi []), (9001, .fa [])]⟩) (by kernel_rfl)) ?_
      refine awp_weak (awk_ren 5009 9002 (s' := ⟨82, [(8, .p 108), (9, .w 9002 0), (10, .i 0), (11, .i (netErr n u w es))], [(108, .box 1 4 [(.i 0), (.i 0), (.i 0), (.w 9001 0)]), (9001, .fa []), (9002, .fi [])]⟩) (by kernel_rfl)) ?_
      refine awp_ret ?_
      refine kRet.ret _ [9001, 9002] [(0 < 1)] (.tup [(true, [(.i 0), (.i 0), (.i 0), (.w 9001 0)]), (false, [(.w 9002 0)]), (false, [(.i 0)]), (false, [(.i (netErr n u w es))])]) [(9001, .fa []), (9002, .fi [])] (by kernel_rfl) ⟨(by decide), trivial⟩ ?_
      exact ⟨0, 0, 0, [], [], 0, (netErr n u w es), (by rw [addErr_net hX]; exact RepRes.bad c6), (by kernel_rfl), (by kernel_rfl)⟩
    ·
      try simp only [bs] at c6
      have hN : netErr n u w es = 0 := by omega
      have hY : (addErr n s t es f n u w es) = 0 := (addErr_net hX).trans hN
      have hnn := netErr_ok hN
      refine awp_skip ?_
      refine awp_seq (awp_region ?_)
      refine aops_run 2 [1, 8, 13, 43, 44] [108, 113] [(0 < 1)] ⟨82, [(1, .one (.ro (.ints .i64 f))), (8, .p 108), (13, .p 113), (43, .agg [(.i n), (.i s), (.i t), (.ro (.arcs es))]), (44, .one (.ro (.ints .i64 f)))], [(108, .box 1 4 [(.i 0), (.i 0), (.i 0), .nils]), (113, .box 1 4 [(.i n), (.i u), (.i w), (.ro (.arcs es))])]⟩ hT (by kernel_rfl) (by kernel_rfl) ⟨(by decide), trivial⟩ ?_
      refine aops_call [] [] false ⟨true, [], 34, [.agg [(.i n), (.i s), (.i t), (.ro (.arcs es))], .one (.ro (.ints .i64 f))], []⟩ [.agg [(.i n), (.i s), (.i t), (.ro (.arcs es))], .one (.ro (.ints .i64 f))] (sm := ⟨82, [(1, .one (.ro (.ints .i64 f))), (8, .p 108), (13, .p 113), (43, .agg [(.i n), (.i s), (.i t), (.ro (.arcs es))]), (44, .one (.ro (.ints .i64 f))), (45, .whn false (.one .any))], [(108, .box 1 4 [(.i 0), (.i 0), (.i 0), .nils]), (113, .box 1 4 [(.i n), (.i u), (.i w), (.ro (.arcs es))])]⟩) (by kernel_rfl) (by kernel_rfl) (by decide) (fun _ => trivial) rfl (fun _ => flow_split n s t es f) (fun _ v Hr hv => ?_) (fun h => by cases h)
      obtain ⟨ways, rounds, e1, hso, rfl, rfl⟩ := hv
      refine ⟨⟨82, [(1, .one (.ro (.ints .i64 f))), (8, .p 108), (13, .p 113), (43, .agg [(.i n), (.i s), (.i t), (.ro (.arcs es))]), (44, .one (.ro (.ints .i64 f))), (45, .tup [(false, [(.rs (.pieces ways))]), (false, [(.rs (.pieces rounds))]), (false, [(.i e1)])])], [(108, .box 1 4 [(.i 0), (.i 0), (.i 0), .nils]), (113, .box 1 4 [(.i n), (.i u), (.i w), (.ro (.arcs es))])]⟩, by kernel_rfl, ?_⟩
      refine aops_run 7 [1, 8, 13, 16] [108, 113] [] ⟨82, [(1, .one (.ro (.ints .i64 f))), (8, .p 108), (13, .p 113), (16, .one (.rs (.pieces rounds)))], [(108, .box 1 4 [(.i 0), (.i 0), (.i 0), .nils]), (113, .box 1 4 [(.i n), (.i u), (.i w), (.ro (.arcs es))])]⟩ hT (by kernel_rfl) (by kernel_rfl) trivial ?_
      refine aops_end_seq (by kernel_rfl) ?_
      have hrl := split_rounds hso
      have hrr := split_rr hso
      refine awp_run_seq [1, 8, 13, 16] [108, 113, 151] [((0 : Int) ≤ ((f.length : Nat) : Int)), (((f.length : Nat) : Int) ≤ ((f.length : Nat) : Int)), ((8 : Int) * ((f.length : Nat) : Int) ≤ 281474976710656), (((f.length : Nat) : Int) ≤ 9223372036854775807)] ⟨82, [(1, .w 151 f.length), (8, .p 108), (13, .p 113), (16, .one (.rs (.pieces rounds)))], [(108, .box 1 4 [(.i 0), (.i 0), (.i 0), .nils]), (113, .box 1 4 [(.i n), (.i u), (.i w), (.ro (.arcs es))]), (151, .fi (List.replicate f.length (0 : Int)))]⟩ hT (by kernel_rfl) ⟨(by omega), (by omega), (by omega), (by omega), trivial⟩ ?_
      refine awp_seq ?_
      refine awp_run_seq [1, 8, 13, 52, 53, 54] [108, 113, 151] [] ⟨82, [(1, .w 151 f.length), (8, .p 108), (13, .p 113), (52, .one (.rs (.pieces rounds))), (53, .i ((rounds.length : Nat) : Int)), (54, .i 0)], [(108, .box 1 4 [(.i 0), (.i 0), (.i 0), .nils]), (113, .box 1 4 [(.i n), (.i u), (.i w), (.ro (.arcs es))]), (151, .fi (List.replicate f.length (0 : Int)))]⟩ hT (by kernel_rfl) trivial ?_
      refine awp_block ?_
      refine awp_loop (I := fun κ σ => ∃ (i : Nat) (g : List Int), ((i ≤ rounds.length) ∧ (EndInv es g (rounds.take i)) ∧ rounds.length - i = κ) ∧ σ = ⟨82, [(1, .w 151 g.length), (8, .p 108), (13, .p 113), (52, .one (.rs (.pieces rounds))), (53, .i ((rounds.length : Nat) : Int)), (54, .i (i : Int))], [(108, .box 1 4 [(.i 0), (.i 0), (.i 0), .nils]), (113, .box 1 4 [(.i n), (.i u), (.i w), (.ro (.arcs es))]), (151, .fi g)]⟩) _ ⟨0, (List.replicate f.length 0), ⟨(by omega), (by rw [hfl]; exact EndInv.start es), rfl⟩, (by simp only [lens]; rfl)⟩ ?_
      rintro κ _ ⟨i, g, ⟨hi, hQ, rfl⟩, rfl⟩
      have hgl := hQ.len
      refine awp_run_seq [1, 8, 13, 52, 53, 54, 55] [108, 113, 151] [] ⟨82, [(1, .w 151 g.length), (8, .p 108), (13, .p 113), (52, .one (.rs (.pieces rounds))), (53, .i ((rounds.length : Nat) : Int)), (54, .i (i : Int)), (55, .one (.bool (decide ((i : Int) < ((rounds.length : Nat) : Int)))))], [(108, .box 1 4 [(.i 0), (.i 0), (.i 0), .nils]), (113, .box 1 4 [(.i n), (.i u), (.i w), (.ro (.arcs es))]), (151, .fi g)]⟩ hT (by kernel_rfl) trivial ?_
      refine awp_seq ?_
      refine awp_cond (b := (decide ((i : Int) < ((rounds.length : Nat) : Int)))) (by kernel_rfl) (fun c11 => ?_) (fun c11 => ?_)
      ·
        try simp only [bs] at c11
        have hil : i < rounds.length := by omega
        have hpm := getD_mem (d := ((0, []) : Int × List Int)) hil
        obtain ⟨px, hP⟩ := hrr _ hpm
        have hQs := hQ.step ⟨px, hP⟩
        rw [← take_getD rounds ((0, []) : Int × List Int) i hil] at hQs
        have hPl : (List.getD rounds i (0, [])).2.length ≤ es.length := by have := nodup_int (n := (es.length : Int)) hP.nd (fun v hv => hP.kr v hv); omega
        have hub := fun j hj => ends_in hso hfo hgn (i := i) (by omega) j hj
        have hub2 := fun j hj => ends_in hso hfo hgn (i := i + 1) (by omega) j hj
        refine awp_skip ?_
        refine awp_seq ?_
        refine awp_block ?_
        refine awp_run_seq [1, 8, 13, 19, 52, 53, 54] [108, 113, 119, 151] [((0 : Int) ≤ (i : Int)), ((i : Int) < ((rounds.length : Nat) : Int)), (0 < 1)] ⟨82, [(1, .w 151 g.length), (8, .p 108), (13, .p 113), (19, .p 119), (52, .one (.rs (.pieces rounds))), (53, .i ((rounds.length : Nat) : Int)), (54, .i (i : Int))], [(108, .box 1 4 [(.i 0), (.i 0), (.i 0), .nils]), (113, .box 1 4 [(.i n), (.i u), (.i w), (.ro (.arcs es))]), (119, .box 1 2 [(.i ((List.getD rounds i (0, [])).1)), (.ro (.ints .i64 ((List.getD rounds i (0, [])).2)))]), (151, .fi g)]⟩ hT (by kernel_rfl) ⟨(by omega), (by omega), (by decide), trivial⟩ ?_
        refine awp_run_seq [1, 8, 13, 19, 52, 53, 54, 59, 60, 61] [108, 113, 119, 151] [(0 < 1)] ⟨82, [(1, .w 151 g.length), (8, .p 108), (13, .p 113), (19, .p 119), (52, .one (.rs (.pieces rounds))), (53, .i ((rounds.length : Nat) : Int)), (54, .i (i : Int)), (59, .one (.ro (.ints .i64 ((List.getD rounds i (0, [])).2)))), (60, .i (((List.length ((List.getD rounds i (0, [])).2)) : Nat) : Int)), (61, .i 0)], [(108, .box 1 4 [(.i 0), (.i 0), (.i 0), .nils]), (113, .box 1 4 [(.i n), (.i u), (.i w), (.ro (.arcs es))]), (119, .box 1 2 [(.i ((List.getD rounds i (0, [])).1)), (.ro (.ints .i64 ((List.getD rounds i (0, [])).2)))]), (151, .fi g)]⟩ hT (by kernel_rfl) ⟨(by decide), trivial⟩ ?_
        refine awp_block ?_
        refine awp_loop (I := fun κ σ => ∃ (j : Nat) (g2 : List Int), ((j ≤ (List.getD rounds i (0, [])).2.length) ∧ (g2 = takeOff (-(List.getD rounds i (0, [])).1) g ((List.getD rounds i (0, [])).2.take j)) ∧ (List.getD rounds i (0, [])).2.length - j = κ) ∧ σ = ⟨82, [(1, .w 151 g2.length), (8, .p 108), (13, .p 113), (19, .p 119), (52, .one (.rs (.pieces rounds))), (53, .i ((rounds.length : Nat) : Int)), (54, .i (i : Int)), (59, .one (.ro (.ints .i64 ((List.getD rounds i (0, [])).2)))), (60, .i (((List.length ((List.getD rounds i (0, [])).2)) : Nat) : Int)), (61, .i (j : Int))], [(108, .box 1 4 [(.i 0), (.i 0), (.i 0), .nils]), (113, .box 1 4 [(.i n), (.i u), (.i w), (.ro (.arcs es))]), (119, .box 1 2 [(.i ((List.getD rounds i (0, [])).1)), (.ro (.ints .i64 ((List.getD rounds i (0, [])).2)))]), (151, .fi g2)]⟩) _ ⟨0, g, ⟨(by omega), (by rfl), rfl⟩, (by kernel_rfl)⟩ ?_
        rintro κ _ ⟨j, g2, ⟨hj, hg2, rfl⟩, rfl⟩
        have hg2l : g2.length = g.length := by rw [hg2, takeOff_len]
        refine awp_run_seq [1, 8, 13, 19, 52, 53, 54, 59, 60, 61, 62] [108, 113, 119, 151] [] ⟨82, [(1, .w 151 g2.length), (8, .p 108), (13, .p 113), (19, .p 119), (52, .one (.rs (.pieces rounds))), (53, .i ((rounds.length : Nat) : Int)), (54, .i (i : Int)), (59, .one (.ro (.ints .i64 ((List.getD rounds i (0, [])).2)))), (60, .i (((List.length ((List.getD rounds i (0, [])).2)) : Nat) : Int)), (61, .i (j : Int)), (62, .one (.bool (decide ((j : Int) < (((List.length ((List.getD rounds i (0, [])).2)) : Nat) : Int)))))], [(108, .box 1 4 [(.i 0), (.i 0), (.i 0), .nils]), (113, .box 1 4 [(.i n), (.i u), (.i w), (.ro (.arcs es))]), (119, .box 1 2 [(.i ((List.getD rounds i (0, [])).1)), (.ro (.ints .i64 ((List.getD rounds i (0, [])).2)))]), (151, .fi g2)]⟩ hT (by kernel_rfl) trivial ?_
        refine awp_seq ?_
        refine awp_cond (b := (decide ((j : Int) < (((List.length ((List.getD rounds i (0, [])).2)) : Nat) : Int)))) (by kernel_rfl) (fun c14 => ?_) (fun c14 => ?_)
        ·
          try simp only [bs] at c14
          have hjl : j < (List.getD rounds i (0, [])).2.length := by omega
          have hkr := hP.kr _ (getD_mem (d := 0) hjl)
          have hnow := takeOff_now (a := -(List.getD rounds i (0, [])).1) (left := g) hjl hP.nd (fun q hq => (hP.kr q hq).1)
          rw [← hg2] at hnow
          have hga := hQ.at_ (List.getD (List.getD rounds i (0, [])).2 j 0).toNat (by omega)
          have hg1 := hub (List.getD (List.getD rounds i (0, [])).2 j 0).toNat (by omega)
          have hstp := takeOff_step (a := -(List.getD rounds i (0, [])).1) (left := g) hjl
          have ha1 := hP.a1
          have hat := top_piece hso hfo hgn hil
          refine awp_skip ?_
          refine awp_seq ?_
          refine awp_block ?_
          refine awp_run_seq [1, 8, 13, 19, 21, 52, 53, 54, 59, 60, 61] [108, 113, 119, 151] [((0 : Int) ≤ (j : Int)), ((j : Int) < (((List.length ((List.getD rounds i (0, [])).2)) : Nat) : Int))] ⟨82, [(1, .w 151 g2.length), (8, .p 108), (13, .p 113), (19, .p 119), (21, .i (List.getD ((List.getD rounds i (0, [])).2) j 0)), (52, .one (.rs (.pieces rounds))), (53, .i ((rounds.length : Nat) : Int)), (54, .i (i : Int)), (59, .one (.ro (.ints .i64 ((List.getD rounds i (0, [])).2)))), (60, .i (((List.length ((List.getD rounds i (0, [])).2)) : Nat) : Int)), (61, .i (j : Int))], [(108, .box 1 4 [(.i 0), (.i 0), (.i 0), .nils]), (113, .box 1 4 [(.i n), (.i u), (.i w), (.ro (.arcs es))]), (119, .box 1 2 [(.i ((List.getD rounds i (0, [])).1)), (.ro (.ints .i64 ((List.getD rounds i (0, [])).2)))]), (151, .fi g2)]⟩ hT (by kernel_rfl) ⟨(by omega), (by omega), trivial⟩ ?_
          refine awp_tail 8 [1, 8, 13, 19, 52, 53, 54, 59, 60, 61, 71, 72] [108, 113, 119, 151] [((0 : Int) ≤ (List.getD ((List.getD rounds i (0, [])).2) j 0)), ((List.getD ((List.getD rounds i (0, [])).2) j 0) < ((g2.length : Nat) : Int)), ((Int.toNat (List.getD ((List.getD rounds i (0, [])).2) j 0)) < g2.length), (0 < 1), (-9223372036854775808 ≤ ((List.getD g2 (Int.toNat (List.getD ((List.getD rounds i (0, [])).2) j 0)) 0) + ((List.getD rounds i (0, [])).1)) ∧ ((List.getD g2 (Int.toNat (List.getD ((List.getD rounds i (0, [])).2) j 0)) 0) + ((List.getD rounds i (0, [])).1)) ≤ 9223372036854775807), ((0 : Int) ≤ (List.getD ((List.getD rounds i (0, [])).2) j 0)), ((List.getD ((List.getD rounds i (0, [])).2) j 0) < ((g2.length : Nat) : Int))] ⟨82, [(1, .w 151 g2.length), (8, .p 108), (13, .p 113), (19, .p 119), (52, .one (.rs (.pieces rounds))), (53, .i ((rounds.length : Nat) : Int)), (54, .i (i : Int)), (59, .one (.ro (.ints .i64 ((List.getD rounds i (0, [])).2)))), (60, .i (((List.length ((List.getD rounds i (0, [])).2)) : Nat) : Int)), (61, .i (j : Int)), (71, .i ((List.getD g2 (Int.toNat (List.getD ((List.getD rounds i (0, [])).2) j 0)) 0) + ((List.getD rounds i (0, [])).1))), (72, .one (.ptr 151 (Int.toNat (List.getD ((List.getD rounds i (0, [])).2) j 0)) 0))], [(108, .box 1 4 [(.i 0), (.i 0), (.i 0), .nils]), (113, .box 1 4 [(.i n), (.i u), (.i w), (.ro (.arcs es))]), (119, .box 1 2 [(.i ((List.getD rounds i (0, [])).1)), (.ro (.ints .i64 ((List.getD rounds i (0, [])).2)))]), (151, .fi g2)]⟩ (by kernel_rfl) (by kernel_rfl) hT (by kernel_rfl) ⟨(by omega), (by omega), (by omega), (by decide), (by omega), (by omega), (by omega), trivial⟩ ?_
          refine aops_run 1 [1, 8, 13, 19, 52, 53, 54, 59, 60, 61] [108, 113, 119, 151] [((Int.toNat (List.getD ((List.getD rounds i (0, [])).2) j 0)) < g2.length)] ⟨82, [(1, .w 151 g2.length), (8, .p 108), (13, .p 113), (19, .p 119), (52, .one (.rs (.pieces rounds))), (53, .i ((rounds.length : Nat) : Int)), (54, .i (i : Int)), (59, .one (.ro (.ints .i64 ((List.getD rounds i (0, [])).2)))), (60, .i (((List.length ((List.getD rounds i (0, [])).2)) : Nat) : Int)), (61, .i (j : Int))], [(108, .box 1 4 [(.i 0), (.i 0), (.i 0), .nils]), (113, .box 1 4 [(.i n), (.i u), (.i w), (.ro (.arcs es))]), (119, .box 1 2 [(.i ((List.getD rounds i (0, [])).1)), (.ro (.ints .i64 ((List.getD rounds i (0, [])).2)))]), (151, .fi (List.set g2 (Int.toNat (List.getD ((List.getD rounds i (0, [])).2) j 0)) ((List.getD g2 (Int.toNat (List.getD ((List.getD rounds i (0, [])).2) j 0)) 0) + ((List.getD rounds i (0, [])).1))))]⟩ hT (by kernel_rfl) (by kernel_rfl) ⟨(by omega), trivial⟩ ?_
          refine aops_end (by kernel_rfl) ?_
          refine awp_run [1, 8, 13, 19, 52, 53, 54, 59, 60, 61] [108, 113, 119, 151] [(-9223372036854775808 ≤ (((j + 1) : Nat) : Int) ∧ (((j + 1) : Nat) : Int) ≤ 9223372036854775807)] ⟨82, [(1, .w 151 g2.length), (8, .p 108), (13, .p 113), (19, .p 119), (52, .one (.rs (.pieces rounds))), (53, .i ((rounds.length : Nat) : Int)), (54, .i (i : Int)), (59, .one (.ro (.ints .i64 ((List.getD rounds i (0, [])).2)))), (60, .i (((List.length ((List.getD rounds i (0, [])).2)) : Nat) : Int)), (61, .i (((j + 1) : Nat) : Int))], [(108, .box 1 4 [(.i 0), (.i 0), (.i 0), .nils]), (113, .box 1 4 [(.i n), (.i u), (.i w), (.ro (.arcs es))]), (119, .box 1 2 [(.i ((List.getD rounds i (0, [])).1)), (.ro (.ints .i64 ((List.getD rounds i (0, [])).2)))]), (151, .fi (List.set g2 (Int.toNat (List.getD ((List.getD rounds i (0, [])).2) j 0)) ((List.getD g2 (Int.toNat (List.getD ((List.getD rounds i (0, [])).2) j 0)) 0) + ((List.getD rounds i (0, [])).1))))]⟩ hT (by kernel_rfl) ⟨(by omega), trivial⟩ ?_
          refine loop_end _ ?_ ⟨(j + 1), (List.set g2 (Int.toNat (List.getD ((List.getD rounds i (0, [])).2) j 0)) ((List.getD g2 (Int.toNat (List.getD ((List.getD rounds i (0, [])).2) j 0)) 0) + ((List.getD rounds i (0, [])).1))), ⟨(by omega), (by rw [hstp, ← hg2, Int.sub_neg]), rfl⟩, (by first | (simp only [lens]; done) | (simp only [Nat.zero_add]; done) | simp only [lens, Nat.zero_add])⟩
          omega
        ·
          try simp only [bs] at c14
          have hg2f : g2 = takeOff (-(List.getD rounds i (0, [])).1) g (List.getD rounds i (0, [])).2 := by rw [hg2, List.take_of_length_le (by omega)]
          refine awp_exit ?_
          refine awp_run [1, 8, 13, 52, 53, 54] [108, 113, 151] [(-9223372036854775808 ≤ (((i + 1) : Nat) : Int) ∧ (((i + 1) : Nat) : Int) ≤ 9223372036854775807)] ⟨82, [(1, .w 151 g2.length), (8, .p 108), (13, .p 113), (52, .one (.rs (.pieces rounds))), (53, .i ((rounds.length : Nat) : Int)), (54, .i (((i + 1) : Nat) : Int))], [(108, .box 1 4 [(.i 0), (.i 0), (.i 0), .nils]), (113, .box 1 4 [(.i n), (.i u), (.i w), (.ro (.arcs es))]), (151, .fi g2)]⟩ hT (by kernel_rfl) ⟨(by omega), trivial⟩ ?_
          refine loop_end _ ?_ ⟨(i + 1), g2, ⟨(by omega), (by rw [hg2f]; exact hQs), rfl⟩, (by kernel_rfl)⟩
          omega
      ·
        try simp only [bs] at c11
        have hfin := (show EndInv es g rounds from by have h9 := hQ; rw [List.take_of_length_le (by omega)] at h9; exact h9).end_ hfo hgn hso hnn
        refine awp_exit ?_
        refine awp_seq (awp_region ?_)
        refine aops_run 2 [8, 75, 76] [108, 151] [(0 < 1)] ⟨82, [(8, .p 108), (75, .agg [(.i n), (.i u), (.i w), (.ro (.arcs es))]), (76, .w 151 g.length)], [(108, .box 1 4 [(.i 0), (.i 0), (.i 0), .nils]), (151, .fi g)]⟩ hT (by kernel_rfl) (by kernel_rfl) ⟨(by decide), trivial⟩ ?_
        refine aops_call [] [(9001, 177), (9002, 10177)] true ⟨true, [], 38, [.agg [(.i n), (.i u), (.i w), (.ro (.arcs es))], .one (.ro (.ints .i64 (List.take g.length g)))], []⟩ [.agg [(.i n), (.i u), (.i w), (.ro (.arcs es))], .one (.ro (.ints .i64 g))] (sm := ⟨82, [(8, .p 108), (75, .agg [(.i n), (.i u), (.i w), (.ro (.arcs es))]), (76, .w 151 g.length), (77, .whn false (.one .any))], [(108, .box 1 4 [(.i 0), (.i 0), (.i 0), .nils]), (151, .fi g)]⟩) (by kernel_rfl) (by kernel_rfl) (by decide) (fun _ => trivial) (by rw [show (List.take g.length g) = g from List.take_of_length_le (by first | omega | simp)]) (fun _ => rep_on n u w es g (by omega)) (fun _ v Hr hv => ?_) (fun h => by cases h)
        obtain ⟨g19, v19, hm19, rfl, rfl⟩ := hv
        refine ⟨⟨82, [(8, .p 108), (75, .agg [(.i n), (.i u), (.i w), (.ro (.arcs es))]), (76, .w 151 g.length), (77, .tup [(true, [(.i n), (.i u), (.i w), (.w 177 es.length)]), (false, [(.w 10177 g19.length)]), (false, [(.i v19)]), (false, [(.i (flowErr n u w es g))])])], [(108, .box 1 4 [(.i 0), (.i 0), (.i 0), .nils]), (151, .fi g), (177, .fa es), (10177, .fi g19)]⟩, by kernel_rfl, ?_⟩
        refine aops_run 8 [8, 9, 10, 11] [108, 177, 10177] [(0 < 1)] ⟨82, [(8, .p 108), (9, .w 10177 g19.length), (10, .i v19), (11, .i (flowErr n u w es g))], [(108, .box 1 4 [(.i n), (.i u), (.i w), (.w 177 es.length)]), (177, .fa es), (10177, .fi g19)]⟩ hT (by kernel_rfl) (by kernel_rfl) ⟨(by decide), trivial⟩ ?_
        refine aops_end_seq (by kernel_rfl) ?_
        refine awp_weak (awk_ren 177 9001 (s' := ⟨82, [(8, .p 108), (9, .w 10177 g19.length), (10, .i v19), (11, .i (flowErr n u w es g))], [(108, .box 1 4 [(.i n), (.i u), (.i w), (.w 9001 es.length)]), (9001, .fa es), (10177, .fi g19)]⟩) (by kernel_rfl)) ?_
        refine awp_weak (awk_ren 10177 9002 (s' := ⟨82, [(8, .p 108), (9, .w 9002 g19.length), (10, .i v19), (11, .i (flowErr n u w es g))], [(108, .box 1 4 [(.i n), (.i u), (.i w), (.w 9001 es.length)]), (9001, .fa es), (9002, .fi g19)]⟩) (by kernel_rfl)) ?_
        refine awp_ret ?_
        refine kRet.ret _ [9001, 9002] [(0 < 1)] (.tup [(true, [(.i n), (.i u), (.i w), (.w 9001 es.length)]), (false, [(.w 9002 g19.length)]), (false, [(.i v19)]), (false, [(.i (flowErr n u w es g))])]) [(9001, .fa es), (9002, .fi g19)] (by kernel_rfl) ⟨(by decide), trivial⟩ ?_
        exact ⟨n, u, w, es, g19, v19, (flowErr n u w es g), (by obtain ⟨q1, q2⟩ := RepRes.good hfin hm19; exact ⟨q1.trans hY.symm, .inr ⟨hY, rfl, rfl, rfl, rfl, (q2.resolve_left (fun q => q.1 rfl)).2.2.2.2.2⟩⟩), (by kernel_rfl), (by kernel_rfl)⟩
end Go.Ab
