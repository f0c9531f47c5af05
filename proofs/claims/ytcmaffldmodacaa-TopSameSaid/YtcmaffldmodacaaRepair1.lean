/- Of a net that changes: Check, and on with what went. -/
import Derived.Test.YtcmaffldmodacaaTab
import Derived.Test.YtcmaffldmodacaaFlow2
import Derived.Test.YtcmaffldmodacaaCut1
import Derived.Test.YtcmaffldmodacaaMost2
import Derived.Test.YtcmaffldmodacaaF2
import Derived.Test.YtcmaffldmodacaaPlRepair2
set_option maxRecDepth 100000
namespace Go.Ab
open Go Go.Proofs
theorem rep_check (n s t : Int) (es : List Arc) (f : List Int) : ACall Try.prog 67 [.agg [(.int .i64 n), (.int .i64 s), (.int .i64 t), (.ro (.arcs es))], .one (.ro (.ints .i64 f))] [] (fun ov oh => ov = .one (.int .i64 (repErr n s t es f)) ∧ oh = []) := by
  refine acall_intro hT Try.func67 rfl (by kernel_rfl) rfl (by kernel_rfl) ?_
  refine awp_run_seq [1, 2] [102] [] ⟨28, [(1, .one (.ro (.ints .i64 f))), (2, .one (.ptr 102 0 0))], [(102, .box 1 4 [(.int .i64 n), (.int .i64 s), (.int .i64 t), (.ro (.arcs es))])]⟩ hT (by kernel_rfl) trivial ?_
  refine awp_seq (awp_region ?_)
  refine aops_run 2 [2, 11, 12] [102] [(0 < 1)] ⟨28, [(2, .one (.ptr 102 0 0)), (11, .agg [(.int .i64 n), (.int .i64 s), (.int .i64 t), (.ro (.arcs es))]), (12, .one (.ro (.ints .i64 f)))], [(102, .box 1 4 [(.int .i64 n), (.int .i64 s), (.int .i64 t), (.ro (.arcs es))])]⟩ hT (by kernel_rfl) (by kernel_rfl) ⟨(by decide), trivial⟩ ?_
  refine aops_pure false ⟨true, [], 44, [.agg [(.int .i64 n), (.int .i64 s), (.int .i64 t), (.ro (.arcs es))], .one (.ro (.ints .i64 f))], []⟩ [.agg [(.int .i64 n), (.int .i64 s), (.int .i64 t), (.ro (.arcs es))], .one (.ro (.ints .i64 f))] (.tup [(false, [(.int .i64 (okI (flowErr n s t es f) (gone es f s)))]), (false, [(.int .i64 (flowErr n s t es f))])]) ⟨28, [(2, .one (.ptr 102 0 0)), (11, .agg [(.int .i64 n), (.int .i64 s), (.int .i64 t), (.ro (.arcs es))]), (12, .one (.ro (.ints .i64 f))), (13, .tup [(false, [(.int .i64 (okI (flowErr n s t es f) (gone es f s)))]), (false, [(.int .i64 (flowErr n s t es f))])])], [(102, .box 1 4 [(.int .i64 n), (.int .i64 s), (.int .i64 t), (.ro (.arcs es))])]⟩ (by kernel_rfl) (by kernel_rfl) (fun _ => trivial) rfl (fun _ => flow_value n s t es f) ?_
  refine aops_run 5 [2, 5, 6] [102] [] ⟨28, [(2, .one (.ptr 102 0 0)), (5, .one (.int .i64 (okI (flowErr n s t es f) (gone es f s)))), (6, .one (.int .i64 (flowErr n s t es f)))], [(102, .box 1 4 [(.int .i64 n), (.int .i64 s), (.int .i64 t), (.ro (.arcs es))])]⟩ hT (by kernel_rfl) (by kernel_rfl) trivial ?_
  refine aops_end_seq (by kernel_rfl) ?_
  refine awp_seq ?_
  refine awp_run_seq [2, 5, 6, 17] [102] [] ⟨28, [(2, .one (.ptr 102 0 0)), (5, .one (.int .i64 (okI (flowErr n s t es f) (gone es f s)))), (6, .one (.int .i64 (flowErr n s t es f))), (17, .one (.bool (decide ((flowErr n s t es f) ≠ 0))))], [(102, .box 1 4 [(.int .i64 n), (.int .i64 s), (.int .i64 t), (.ro (.arcs es))])]⟩ hT (by kernel_rfl) trivial ?_
  refine awp_cond (b := (decide ((flowErr n s t es f) ≠ 0))) (by kernel_rfl) (fun c2 => ?_) (fun c2 => ?_)
  · -- yes 2
    try simp only [bs] at c2
    refine awp_run_seq [4] [] [] ⟨28, [(4, .one (.int .i64 (flowErr n s t es f)))], []⟩ hT (by kernel_rfl) trivial ?_
    refine awp_ret ?_
    refine kRet.ret _ [] [] (.one (.int .i64 (flowErr n s t es f))) [] (by kernel_rfl) trivial ?_
    exact ⟨congrArg (fun x1 => (.one (.int .i64 x1) : AV)) (show (flowErr n s t es f) = (repErr n s t es f) from by exact (repErr_flow c2).symm), rfl⟩
  · -- no 2
    try simp only [bs] at c2
    have hF : (flowErr n s t es f) = 0 := by omega
    have hfo := flowErr_ok hF
    have hE := hfo.net.err
    refine awp_skip ?_
    refine awp_seq ?_
    rw [show (okI (flowErr n s t es f) (gone es f s)) = (gone es f s) from by exact okI_ok _ hF]
    refine awp_seq (awp_region ?_)
    refine aops_run 1 [5, 20] [] [(0 < 1)] ⟨28, [(5, .one (.int .i64 (gone es f s))), (20, .agg [(.int .i64 n), (.int .i64 s), (.int .i64 t), (.ro (.arcs es))])], []⟩ hT (by kernel_rfl) (by kernel_rfl) ⟨(by decide), trivial⟩ ?_
    refine aops_pure false ⟨true, [], 17, [.agg [(.int .i64 n), (.int .i64 s), (.int .i64 t), (.ro (.arcs es))]], []⟩ [.agg [(.int .i64 n), (.int .i64 s), (.int .i64 t), (.ro (.arcs es))]] (.tup [(false, [(.int .u16 (okI (netErr n s t es) (parted n s t es).2.1))]), (false, [(.int .i64 (okI (netErr n s t es) (parted n s t es).1))]), (false, [(.int .i64 (netErr n s t es))])]) ⟨28, [(5, .one (.int .i64 (gone es f s))), (20, .agg [(.int .i64 n), (.int .i64 s), (.int .i64 t), (.ro (.arcs es))]), (21, .tup [(false, [(.int .u16 (okI (netErr n s t es) (parted n s t es).2.1))]), (false, [(.int .i64 (okI (netErr n s t es) (parted n s t es).1))]), (false, [(.int .i64 (netErr n s t es))])])], []⟩ (by kernel_rfl) (by kernel_rfl) (fun _ => trivial) rfl (fun _ => cut_least n s t es) ?_
    refine aops_run 7 [5, 8] [] [] ⟨28, [(5, .one (.int .i64 (gone es f s))), (8, .one (.int .i64 (okI (netErr n s t es) (parted n s t es).1)))], []⟩ hT (by kernel_rfl) (by kernel_rfl) trivial ?_
    refine aops_end_seq (by kernel_rfl) ?_
    rw [show (okI (netErr n s t es) (parted n s t es).1) = (parted n s t es).1 from by exact okI_ok _ hE]
    refine awp_run_seq [27] [] [] ⟨28, [(27, .one (.bool (decide ((gone es f s) ≠ (parted n s t es).1))))], []⟩ hT (by kernel_rfl) trivial ?_
    refine awp_cond (b := (decide ((gone es f s) ≠ (parted n s t es).1))) (by kernel_rfl) (fun c5 => ?_) (fun c5 => ?_)
    · -- yes 5
      try simp only [bs] at c5
      refine awp_run_seq [4] [] [] ⟨28, [(4, .one (.int .i64 9))], []⟩ hT (by kernel_rfl) trivial ?_
      refine awp_ret ?_
      refine kRet.ret _ [] [] (.one (.int .i64 9)) [] (by kernel_rfl) trivial ?_
      exact ⟨congrArg (fun x1 => (.one (.int .i64 x1) : AV)) (show 9 = (repErr n s t es f) from by exact (repErr_best hF c5).symm), rfl⟩
    · -- no 5
      try simp only [bs] at c5
      refine awp_skip ?_
      refine awp_run_seq [4] [] [] ⟨28, [(4, .one (.int .i64 0))], []⟩ hT (by kernel_rfl) trivial ?_
      refine awp_ret ?_
      refine kRet.ret _ [] [] (.one (.int .i64 0)) [] (by kernel_rfl) trivial ?_
      exact ⟨congrArg (fun x1 => (.one (.int .i64 x1) : AV)) (show 0 = (repErr n s t es f) from by exact (repErr_none hF (by omega)).symm), rfl⟩

theorem rep_on (n s t : Int) (es : List Arc) (f : List Int) (hl : es.length ≤ 1000) : ACall Try.prog 68 [.agg [(.int .i64 n), (.int .i64 s), (.int .i64 t), (.ro (.arcs es))], .one (.ro (.ints .i64 f))] [] (fun ov oh => ∃ (g : List Int) (v : Int), (MostOk n s t es (flowErr n s t es f) g v) ∧ ov = .tup [(true, [(.int .i64 n), (.int .i64 s), (.int .i64 t), (.rw 9001 0 es.length)]), (false, [(.rw 9002 0 g.length)]), (false, [(.int .i64 v)]), (false, [(.int .i64 (flowErr n s t es f))])] ∧ oh = [(9001, .flat (.arcs es)), (9002, .flat (.ints .i64 g))]) := by
  refine acall_intro hT Try.func68 rfl (by kernel_rfl) rfl (by kernel_rfl) ?_
  refine awp_run_seq [1, 2, 4] [102, 104] [] ⟨26, [(1, .one (.ro (.ints .i64 f))), (2, .one (.ptr 102 0 0)), (4, .one (.ptr 104 0 0))], [(102, .box 1 4 [(.int .i64 n), (.int .i64 s), (.int .i64 t), (.ro (.arcs es))]), (104, .box 1 4 [(.int .i64 0), (.int .i64 0), (.int .i64 0), .nils])]⟩ hT (by kernel_rfl) trivial ?_
  refine awp_seq (awp_region ?_)
  refine aops_run 2 [1, 2, 4, 12] [102, 104] [(0 < 1)] ⟨26, [(1, .one (.ro (.ints .i64 f))), (2, .one (.ptr 102 0 0)), (4, .one (.ptr 104 0 0)), (12, .one (.ro (.arcs es)))], [(102, .box 1 4 [(.int .i64 n), (.int .i64 s), (.int .i64 t), (.ro (.arcs es))]), (104, .box 1 4 [(.int .i64 0), (.int .i64 0), (.int .i64 0), .nils])]⟩ hT (by kernel_rfl) (by kernel_rfl) ⟨(by decide), trivial⟩ ?_
  refine aops_call [] [(9001, 113)] false ⟨true, [], 61, [.one (.ro (.arcs es))], []⟩ [.one (.ro (.arcs es))] (sm := ⟨26, [(1, .one (.ro (.ints .i64 f))), (2, .one (.ptr 102 0 0)), (4, .one (.ptr 104 0 0)), (12, .one (.ro (.arcs es))), (13, .whn false (.one .any))], [(102, .box 1 4 [(.int .i64 n), (.int .i64 s), (.int .i64 t), (.ro (.arcs es))]), (104, .box 1 4 [(.int .i64 0), (.int .i64 0), (.int .i64 0), .nils])]⟩) (by kernel_rfl) (by kernel_rfl) (by decide) (fun _ => trivial) rfl (fun _ => clone_arcs es (by first | omega | (simp; omega))) (fun _ v Hr hv => ?_) (fun h => by cases h)
  obtain ⟨rfl, rfl⟩ := hv
  refine ⟨⟨26, [(1, .one (.ro (.ints .i64 f))), (2, .one (.ptr 102 0 0)), (4, .one (.ptr 104 0 0)), (12, .one (.ro (.arcs es))), (13, .one (.rw 113 0 es.length))], [(102, .box 1 4 [(.int .i64 n), (.int .i64 s), (.int .i64 t), (.ro (.arcs es))]), (104, .box 1 4 [(.int .i64 0), (.int .i64 0), (.int .i64 0), .nils]), (113, .flat (.arcs es))]⟩, by kernel_rfl, ?_⟩
  refine aops_run 2 [1, 2, 4] [102, 104, 113] [(0 < 1)] ⟨26, [(1, .one (.ro (.ints .i64 f))), (2, .one (.ptr 102 0 0)), (4, .one (.ptr 104 0 0))], [(102, .box 1 4 [(.int .i64 n), (.int .i64 s), (.int .i64 t), (.rw 113 0 es.length)]), (104, .box 1 4 [(.int .i64 0), (.int .i64 0), (.int .i64 0), .nils]), (113, .flat (.arcs es))]⟩ hT (by kernel_rfl) (by kernel_rfl) ⟨(by decide), trivial⟩ ?_
  refine aops_end_seq (by kernel_rfl) ?_
  refine awp_seq (awp_region ?_)
  refine aops_run 2 [2, 4, 16, 17] [102, 104, 113] [(0 < 1)] ⟨26, [(2, .one (.ptr 102 0 0)), (4, .one (.ptr 104 0 0)), (16, .agg [(.int .i64 n), (.int .i64 s), (.int .i64 t), (.rw 113 0 es.length)]), (17, .one (.ro (.ints .i64 f)))], [(102, .box 1 4 [(.int .i64 n), (.int .i64 s), (.int .i64 t), (.rw 113 0 es.length)]), (104, .box 1 4 [(.int .i64 0), (.int .i64 0), (.int .i64 0), .nils]), (113, .flat (.arcs es))]⟩ hT (by kernel_rfl) (by kernel_rfl) ⟨(by decide), trivial⟩ ?_
  refine aops_call [] [(9001, 118)] true ⟨true, [], 42, [.agg [(.int .i64 n), (.int .i64 s), (.int .i64 t), (.ro (.arcs (List.take es.length es)))], .one (.ro (.ints .i64 f))], []⟩ [.agg [(.int .i64 n), (.int .i64 s), (.int .i64 t), (.ro (.arcs es))], .one (.ro (.ints .i64 f))] (sm := ⟨26, [(2, .one (.ptr 102 0 0)), (4, .one (.ptr 104 0 0)), (16, .agg [(.int .i64 n), (.int .i64 s), (.int .i64 t), (.rw 113 0 es.length)]), (17, .one (.ro (.ints .i64 f))), (18, .whn false (.one .any))], [(102, .box 1 4 [(.int .i64 n), (.int .i64 s), (.int .i64 t), (.rw 113 0 es.length)]), (104, .box 1 4 [(.int .i64 0), (.int .i64 0), (.int .i64 0), .nils]), (113, .flat (.arcs es))]⟩) (by kernel_rfl) (by kernel_rfl) (by decide) (fun _ => trivial) (by rw [show (List.take es.length es) = es from List.take_of_length_le (by first | omega | simp)]) (fun _ => most_more n s t es f) (fun _ v Hr hv => ?_) (fun h => by cases h)
  obtain ⟨g2, v2, hm2, rfl, rfl⟩ := hv
  refine ⟨⟨26, [(2, .one (.ptr 102 0 0)), (4, .one (.ptr 104 0 0)), (16, .agg [(.int .i64 n), (.int .i64 s), (.int .i64 t), (.rw 113 0 es.length)]), (17, .one (.ro (.ints .i64 f))), (18, .tup [(false, [(.rw 118 0 g2.length)]), (false, [(.int .i64 v2)]), (false, [(.int .i64 (flowErr n s t es f))])])], [(102, .box 1 4 [(.int .i64 n), (.int .i64 s), (.int .i64 t), (.rw 113 0 es.length)]), (104, .box 1 4 [(.int .i64 0), (.int .i64 0), (.int .i64 0), .nils]), (113, .flat (.arcs es)), (118, .flat (.ints .i64 g2))]⟩, by kernel_rfl, ?_⟩
  refine aops_run 7 [2, 4, 8, 9, 10] [102, 104, 113, 118] [] ⟨26, [(2, .one (.ptr 102 0 0)), (4, .one (.ptr 104 0 0)), (8, .one (.rw 118 0 g2.length)), (9, .one (.int .i64 v2)), (10, .one (.int .i64 (flowErr n s t es f)))], [(102, .box 1 4 [(.int .i64 n), (.int .i64 s), (.int .i64 t), (.rw 113 0 es.length)]), (104, .box 1 4 [(.int .i64 0), (.int .i64 0), (.int .i64 0), .nils]), (113, .flat (.arcs es)), (118, .flat (.ints .i64 g2))]⟩ hT (by kernel_rfl) (by kernel_rfl) trivial ?_
  refine aops_end_seq (by kernel_rfl) ?_
  refine awp_run_seq [4, 5, 6, 7] [104, 113, 118] [(0 < 1), (0 < 1)] ⟨26, [(4, .one (.ptr 104 0 0)), (5, .one (.rw 118 0 g2.length)), (6, .one (.int .i64 v2)), (7, .one (.int .i64 (flowErr n s t es f)))], [(104, .box 1 4 [(.int .i64 n), (.int .i64 s), (.int .i64 t), (.rw 113 0 es.length)]), (113, .flat (.arcs es)), (118, .flat (.ints .i64 g2))]⟩ hT (by kernel_rfl) ⟨(by decide), (by decide), trivial⟩ ?_
  refine awp_weak (awk_ren 113 9001 (s' := ⟨26, [(4, .one (.ptr 104 0 0)), (5, .one (.rw 118 0 g2.length)), (6, .one (.int .i64 v2)), (7, .one (.int .i64 (flowErr n s t es f)))], [(104, .box 1 4 [(.int .i64 n), (.int .i64 s), (.int .i64 t), (.rw 9001 0 es.length)]), (118, .flat (.ints .i64 g2)), (9001, .flat (.arcs es))]⟩) (by kernel_rfl)) ?_
  refine awp_weak (awk_ren 118 9002 (s' := ⟨26, [(4, .one (.ptr 104 0 0)), (5, .one (.rw 9002 0 g2.length)), (6, .one (.int .i64 v2)), (7, .one (.int .i64 (flowErr n s t es f)))], [(104, .box 1 4 [(.int .i64 n), (.int .i64 s), (.int .i64 t), (.rw 9001 0 es.length)]), (9001, .flat (.arcs es)), (9002, .flat (.ints .i64 g2))]⟩) (by kernel_rfl)) ?_
  refine awp_ret ?_
  refine kRet.ret _ [9001, 9002] [(0 < 1)] (.tup [(true, [(.int .i64 n), (.int .i64 s), (.int .i64 t), (.rw 9001 0 es.length)]), (false, [(.rw 9002 0 g2.length)]), (false, [(.int .i64 v2)]), (false, [(.int .i64 (flowErr n s t es f))])]) [(9001, .flat (.arcs es)), (9002, .flat (.ints .i64 g2))] (by kernel_rfl) ⟨(by decide), trivial⟩ ?_
  exact ⟨g2, v2, (by exact hm2), (by kernel_rfl), (by kernel_rfl)⟩

end Go.Ab
