/- Of flows: how they fall into pieces. -/
import Derived.Test.YtnfnlgfdfmnghaaTab
import Derived.Test.YtnfnlgfdfmnghaaSplit1
import Derived.Test.YtnfnlgfdfmnghaaFlow2
set_option maxRecDepth 100000
namespace Go.Ab
open Go Go.Proofs
set_option maxHeartbeats 1000000 in
theorem flow_split (n s t : Int) (es : List Arc) (f : List Int) : ACall Try.prog 34 [.agg [(.i n), (.i s), (.i t), (.ro (.arcs es))], .one (.ro (.ints .i64 f))] [] (fun ov oh => ∃ (ways rounds : List (Int × List Int)) (e : Int), (SplitOk n s t es f ways rounds e) ∧ ov = .tup [(false, [(.rs (.pieces ways))]), (false, [(.rs (.pieces rounds))]), (false, [(.i e)])] ∧ oh = []) := by
  refine acall_intro hT Try.func34 rfl (by kernel_rfl) rfl (by kernel_rfl) ?_
  refine awp_run_seq [1, 2] [102] [] ⟨97, [(1, .one (.ro (.ints .i64 f))), (2, .p 102)], [(102, .box 1 4 [(.i n), (.i s), (.i t), (.ro (.arcs es))])]⟩ hT (by kernel_rfl) trivial ?_
  refine awp_seq (awp_region ?_)
  refine aops_run 2 [1, 2, 18, 19] [102] [(0 < 1)] ⟨97, [(1, .one (.ro (.ints .i64 f))), (2, .p 102), (18, .agg [(.i n), (.i s), (.i t), (.ro (.arcs es))]), (19, .one (.ro (.ints .i64 f)))], [(102, .box 1 4 [(.i n), (.i s), (.i t), (.ro (.arcs es))])]⟩ hT (by kernel_rfl) (by kernel_rfl) ⟨(by decide), trivial⟩ ?_
  refine aops_pure false ⟨true, [], 33, [.agg [(.i n), (.i s), (.i t), (.ro (.arcs es))], .one (.ro (.ints .i64 f))], []⟩ [.agg [(.i n), (.i s), (.i t), (.ro (.arcs es))], .one (.ro (.ints .i64 f))] (.tup [(false, [(.i (okI (flowErr n s t es f) (gone es f s)))]), (false, [(.i (flowErr n s t es f))])]) ⟨97, [(1, .one (.ro (.ints .i64 f))), (2, .p 102), (18, .agg [(.i n), (.i s), (.i t), (.ro (.arcs es))]), (19, .one (.ro (.ints .i64 f))), (20, .tup [(false, [(.i (okI (flowErr n s t es f) (gone es f s)))]), (false, [(.i (flowErr n s t es f))])])], [(102, .box 1 4 [(.i n), (.i s), (.i t), (.ro (.arcs es))])]⟩ (by kernel_rfl) (by kernel_rfl) (fun _ => trivial) rfl (fun _ => flow_value n s t es f) ?_
  refine aops_run 5 [1, 2, 7, 8] [102] [] ⟨97, [(1, .one (.ro (.ints .i64 f))), (2, .p 102), (7, .i (okI (flowErr n s t es f) (gone es f s))), (8, .i (flowErr n s t es f))], [(102, .box 1 4 [(.i n), (.i s), (.i t), (.ro (.arcs es))])]⟩ hT (by kernel_rfl) (by kernel_rfl) trivial ?_
  refine aops_end_seq (by kernel_rfl) ?_
  refine awp_seq ?_
  refine awp_run_seq [1, 2, 7, 8, 24] [102] [] ⟨97, [(1, .one (.ro (.ints .i64 f))), (2, .p 102), (7, .i (okI (flowErr n s t es f) (gone es f s))), (8, .i (flowErr n s t es f)), (24, .one (.bool (decide ((flowErr n s t es f) ≠ 0))))], [(102, .box 1 4 [(.i n), (.i s), (.i t), (.ro (.arcs es))])]⟩ hT (by kernel_rfl) trivial ?_
  refine awp_cond (b := (decide ((flowErr n s t es f) ≠ 0))) (by kernel_rfl) (fun c2 => ?_) (fun c2 => ?_)
  ·
    try simp only [bs] at c2
    refine awp_run_seq [4, 5, 6] [] [] ⟨97, [(4, .one .nils), (5, .one .nils), (6, .i (flowErr n s t es f))], []⟩ hT (by kernel_rfl) trivial ?_
    refine awp_weak (awk_slot 4 (.one .nils) (.one (.rs (.pieces []))) _ (by kernel_rfl) (.one (wkv_nil1 rfl))) ?_
    refine awp_weak (awk_slot 5 (.one .nils) (.one (.rs (.pieces []))) _ (by kernel_rfl) (.one (wkv_nil1 rfl))) ?_
    refine awp_ret ?_
    refine kRet.ret _ [] [] (.tup [(false, [(.rs (.pieces []))]), (false, [(.rs (.pieces []))]), (false, [(.i (flowErr n s t es f))])]) [] (by kernel_rfl) trivial ?_
    exact ⟨[], [], (flowErr n s t es f), (by exact .inl ⟨c2, rfl, rfl, rfl⟩), (by kernel_rfl), (by kernel_rfl)⟩
  ·
    try simp only [bs] at c2
    have hE : flowErr n s t es f = 0 := by omega
    have hfl := flowErr_ok hE
    have hok := hfl.net
    have h1 := hok.n1
    have h2 := hok.n2
    have h3 := hok.len
    have h4 := hok.s0
    have h5 := hok.s1
    have h6 := hok.t0
    have h7 := hok.t1
    have hlen := hfl.fin.len
    have hf10 := hfl.f10
    refine awp_skip ?_
    refine awp_seq ?_
    rw [show (okI (flowErr n s t es f) (gone es f s)) = (gone es f s) from by exact okI_ok _ hE]
    refine awp_run_seq [1, 2, 7, 27] [102] [] ⟨97, [(1, .one (.ro (.ints .i64 f))), (2, .p 102), (7, .i (gone es f s)), (27, .one (.bool (decide ((gone es f s) < 0))))], [(102, .box 1 4 [(.i n), (.i s), (.i t), (.ro (.arcs es))])]⟩ hT (by kernel_rfl) trivial ?_
    refine awp_cond (b := (decide ((gone es f s) < 0))) (by kernel_rfl) (fun c4 => ?_) (fun c4 => ?_)
    ·
      try simp only [bs] at c4
      refine awp_run_seq [4, 5, 6] [] [] ⟨97, [(4, .one .nils), (5, .one .nils), (6, .i 9)], []⟩ hT (by kernel_rfl) trivial ?_
      refine awp_weak (awk_slot 4 (.one .nils) (.one (.rs (.pieces []))) _ (by kernel_rfl) (.one (wkv_nil1 rfl))) ?_
      refine awp_weak (awk_slot 5 (.one .nils) (.one (.rs (.pieces []))) _ (by kernel_rfl) (.one (wkv_nil1 rfl))) ?_
      refine awp_ret ?_
      refine kRet.ret _ [] [] (.tup [(false, [(.rs (.pieces []))]), (false, [(.rs (.pieces []))]), (false, [(.i 9)])]) [] (by kernel_rfl) trivial ?_
      exact ⟨[], [], 9, (by exact .inr (.inl ⟨hE, c4, rfl, rfl, rfl⟩)), (by kernel_rfl), (by kernel_rfl)⟩
    ·
      try simp only [bs] at c4
      have hst0 := hok.ne
      have hG := hok.toGOk
      refine awp_skip ?_
      refine awp_seq (awp_region ?_)
      refine aops_run 1 [2, 7, 28] [102] [] ⟨97, [(2, .p 102), (7, .i (gone es f s)), (28, .one (.ro (.ints .i64 f)))], [(102, .box 1 4 [(.i n), (.i s), (.i t), (.ro (.arcs es))])]⟩ hT (by kernel_rfl) (by kernel_rfl) trivial ?_
      refine aops_call [] [(9001, 129)] false ⟨true, [], 35, [.one (.ro (.ints .i64 f))], []⟩ [.one (.ro (.ints .i64 f))] (sm := ⟨97, [(2, .p 102), (7, .i (gone es f s)), (28, .one (.ro (.ints .i64 f))), (29, .whn false (.one .any))], [(102, .box 1 4 [(.i n), (.i s), (.i t), (.ro (.arcs es))])]⟩) (by kernel_rfl) (by kernel_rfl) (by decide) (fun _ => trivial) rfl (fun _ => clone_ints f (by first | omega | (simp; omega))) (fun _ v Hr hv => ?_) (fun h => by cases h)
      obtain ⟨rfl, rfl⟩ := hv
      refine ⟨⟨97, [(2, .p 102), (7, .i (gone es f s)), (28, .one (.ro (.ints .i64 f))), (29, .w 129 f.length)], [(102, .box 1 4 [(.i n), (.i s), (.i t), (.ro (.arcs es))]), (129, .fi f)]⟩, by kernel_rfl, ?_⟩
      refine aops_run 1 [2, 7, 9] [102, 129] [] ⟨97, [(2, .p 102), (7, .i (gone es f s)), (9, .w 129 f.length)], [(102, .box 1 4 [(.i n), (.i s), (.i t), (.ro (.arcs es))]), (129, .fi f)]⟩ hT (by kernel_rfl) (by kernel_rfl) trivial ?_
      refine aops_end_seq (by kernel_rfl) ?_
      refine awp_run_seq [2, 7, 9, 10, 11] [102, 129] [] ⟨97, [(2, .p 102), (7, .i (gone es f s)), (9, .w 129 f.length), (10, .one .nils), (11, .one .nils)], [(102, .box 1 4 [(.i n), (.i s), (.i t), (.ro (.arcs es))]), (129, .fi f)]⟩ hT (by kernel_rfl) trivial ?_
      refine awp_seq ?_
      refine awp_block ?_
      refine awp_weak (awk_empty 5010 (.recs (.pieces [])) rfl (by decide) _) ?_
      refine awp_weak (awk_slot 10 (.one .nils) (.w 5010 0) _ (by kernel_rfl) (.one (wkv_nils (o := .recs (.pieces [])) (by kernel_rfl)))) ?_
      refine awp_weak (awk_empty 5011 (.recs (.pieces [])) rfl (by decide) _) ?_
      refine awp_weak (awk_slot 11 (.one .nils) (.w 5011 0) _ (by kernel_rfl) (.one (wkv_nils (o := .recs (.pieces [])) (by kernel_rfl)))) ?_
      have hS0 := Spl.start hfl (by omega)
      have hle0 : InB f := fun j => by by_cases hj : j < es.length; exact hf10 j hj; rw [getD_ge _ _ _ (by omega)]; omega
      refine awp_loop (I := fun κ σ => ∃ (left : List Int) (value : Int) (ways rounds : List (Int × List Int)), ((Spl n s t es f left value ways rounds) ∧ (InB left) ∧ value.toNat + (posL left).length = κ) ∧ σ = ⟨97, [(2, .p 102), (7, .i value), (9, .w 129 left.length), (10, .w 5010 ways.length), (11, .w 5011 rounds.length)], [(102, .box 1 4 [(.i n), (.i s), (.i t), (.ro (.arcs es))]), (129, .fi left), (5010, .recs (.pieces ways)), (5011, .recs (.pieces rounds))]⟩) _ ⟨f, (gone es f s), [], [], ⟨(by exact hS0), (by exact hle0), rfl⟩, (by kernel_rfl)⟩ ?_
      rintro κ _ ⟨left, value, ways, rounds, ⟨hS, hle, rfl⟩, rfl⟩
      have hll := hS.ll
      have hcw := hS.cnt
      have hpl := posL_le left
      have hv00 := hS.v0
      have hgb := hfl.bound s
      have htot := hS.tot
      refine awp_seq ?_
      refine awp_run_seq [2, 7, 9, 10, 11, 31] [102, 129, 5010, 5011] [] ⟨97, [(2, .p 102), (7, .i value), (9, .w 129 left.length), (10, .w 5010 ways.length), (11, .w 5011 rounds.length), (31, .one (.bool (decide ((0 : Int) < value))))], [(102, .box 1 4 [(.i n), (.i s), (.i t), (.ro (.arcs es))]), (129, .fi left), (5010, .recs (.pieces ways)), (5011, .recs (.pieces rounds))]⟩ hT (by kernel_rfl) trivial ?_
      refine awp_cond (b := (decide ((0 : Int) < value))) (by kernel_rfl) (fun c8 => ?_) (fun c8 => ?_)
      ·
        try simp only [bs] at c8
        have hgo := hS.goes (by omega)
        have hp0 := h4
        have hp1 := h5
        have hpt := hst0
        have hvle : value ≤ 600000 := by have hs9 := sum_nonneg hS.okw; omega
        refine awp_skip ?_
        refine awp_block ?_
        refine awp_seq (awp_region ?_)
        refine aops_run 4 [2, 7, 9, 10, 11, 33, 34, 36] [102, 129, 5010, 5011] [(0 < 1), (0 < 1)] ⟨97, [(2, .p 102), (7, .i value), (9, .w 129 left.length), (10, .w 5010 ways.length), (11, .w 5011 rounds.length), (33, .agg [(.i n), (.i s), (.i t), (.ro (.arcs es))]), (34, .w 129 left.length), (36, .i s)], [(102, .box 1 4 [(.i n), (.i s), (.i t), (.ro (.arcs es))]), (129, .fi left), (5010, .recs (.pieces ways)), (5011, .recs (.pieces rounds))]⟩ hT (by kernel_rfl) (by kernel_rfl) ⟨(by decide), (by decide), trivial⟩ ?_
        refine aops_call [] [(9001, 137)] true ⟨true, [], 68, [.agg [(.i n), (.i s), (.i t), (.ro (.arcs es))], .one (.ro (.ints .i64 (List.take left.length left))), .i s], []⟩ [.agg [(.i n), (.i s), (.i t), (.ro (.arcs es))], .one (.ro (.ints .i64 left)), .i s] (sm := ⟨97, [(2, .p 102), (7, .i value), (9, .w 129 left.length), (10, .w 5010 ways.length), (11, .w 5011 rounds.length), (33, .agg [(.i n), (.i s), (.i t), (.ro (.arcs es))]), (34, .w 129 left.length), (36, .i s), (37, .whn false (.one .any))], [(102, .box 1 4 [(.i n), (.i s), (.i t), (.ro (.arcs es))]), (129, .fi left), (5010, .recs (.pieces ways)), (5011, .recs (.pieces rounds))]⟩) (by kernel_rfl) (by kernel_rfl) (by decide) (fun _ => trivial) (by rw [show (List.take left.length left) = left from List.take_of_length_le (by first | omega | simp)]) (fun _ => flow_piece n s t es left s hG hS.ll hS.nn hp0 hp1 hpt hgo) (fun _ v Hr hv => ?_) (fun h => by cases h)
        obtain ⟨m, B, r, hpc, hex, rfl, rfl⟩ := hv
        refine ⟨⟨97, [(2, .p 102), (7, .i value), (9, .w 129 left.length), (10, .w 5010 ways.length), (11, .w 5011 rounds.length), (33, .agg [(.i n), (.i s), (.i t), (.ro (.arcs es))]), (34, .w 129 left.length), (36, .i s), (37, .tup [(true, [(.i m), (.w 137 B.length)]), (false, [(.bool r)])])], [(102, .box 1 4 [(.i n), (.i s), (.i t), (.ro (.arcs es))]), (129, .fi left), (137, .fi B), (5010, .recs (.pieces ways)), (5011, .recs (.pieces rounds))]⟩, by kernel_rfl, ?_⟩
        refine aops_run 6 [2, 7, 9, 10, 11, 12, 13] [102, 112, 129, 137, 5010, 5011] [(0 < 1)] ⟨97, [(2, .p 102), (7, .i value), (9, .w 129 left.length), (10, .w 5010 ways.length), (11, .w 5011 rounds.length), (12, .p 112), (13, .one (.bool r))], [(102, .box 1 4 [(.i n), (.i s), (.i t), (.ro (.arcs es))]), (112, .box 1 2 [(.i m), (.w 137 B.length)]), (129, .fi left), (137, .fi B), (5010, .recs (.pieces ways)), (5011, .recs (.pieces rounds))]⟩ hT (by kernel_rfl) (by kernel_rfl) ⟨(by decide), trivial⟩ ?_
        refine aops_end_seq (by kernel_rfl) ?_
        refine awp_seq ?_
        refine awp_weak (awk_seal 137 (s' := ⟨97, [(2, .p 102), (7, .i value), (9, .w 129 left.length), (10, .w 5010 ways.length), (11, .w 5011 rounds.length), (12, .p 112), (13, .one (.bool r))], [(102, .box 1 4 [(.i n), (.i s), (.i t), (.ro (.arcs es))]), (112, .box 1 2 [(.i m), (.ro (.ints .i64 (List.take B.length B)))]), (129, .fi left), (5010, .recs (.pieces ways)), (5011, .recs (.pieces rounds))]⟩) (by kernel_rfl)) ?_
        rw [show (List.take B.length B) = B from List.take_of_length_le (by first | omega | simp)]
        refine awp_run_seq [2, 7, 9, 10, 11, 12, 40] [102, 112, 129, 5010, 5011] [] ⟨97, [(2, .p 102), (7, .i value), (9, .w 129 left.length), (10, .w 5010 ways.length), (11, .w 5011 rounds.length), (12, .p 112), (40, .one (.bool r))], [(102, .box 1 4 [(.i n), (.i s), (.i t), (.ro (.arcs es))]), (112, .box 1 2 [(.i m), (.ro (.ints .i64 B))]), (129, .fi left), (5010, .recs (.pieces ways)), (5011, .recs (.pieces rounds))]⟩ hT (by kernel_rfl) trivial ?_
        refine awp_cond (b := r) (by kernel_rfl) (fun c10 => ?_) (fun c10 => ?_)
        ·
          have hP9 : ∃ x, PieceOk es left (m, B) x x := by rcases hpc with ⟨_, q⟩ | ⟨q, _⟩; exact q; rw [c10] at q; cases q
          obtain ⟨x9, hP⟩ := hP9
          have hnd := hP.nd
          have hal : B.length ≤ 100 := by have := hP.many; simp only at this; omega
          have hlt := hP.lt hS.ll
          simp only at hlt hnd
          have hm1 := hP.a1
          have hm2 := hP.top hle
          simp only at hm1 hm2
          have hSn := hS.round_step hP
          have hlen := hle.take hP hS.ll (by omega) (Int.le_refl _)
          have hls := taken_less hP hS.ll hS.nn
          simp only at hSn hlen hls
          refine awp_run [2, 7, 9, 10, 11, 12] [102, 112, 129, 5010, 5011] [(0 < 1), (rounds.length = rounds.length), ((rounds.length + 1) * 32 ≤ 140737488355328), ((rounds.length + 1) ≤ 9223372036854775807)] ⟨97, [(2, .p 102), (7, .i value), (9, .w 129 left.length), (10, .w 5010 ways.length), (11, .w 5011 (rounds.length + 1)), (12, .p 112)], [(102, .box 1 4 [(.i n), (.i s), (.i t), (.ro (.arcs es))]), (112, .box 1 2 [(.i m), (.ro (.ints .i64 B))]), (129, .fi left), (5010, .recs (.pieces ways)), (5011, .recs (.pieces (rounds ++ [(m, B)])))]⟩ hT (by kernel_rfl) ⟨(by decide), (by omega), (by omega), (by omega), trivial⟩ ?_
          refine awp_region ?_
          refine aops_run 2 [2, 7, 9, 10, 11, 58, 59] [102, 129, 5010, 5011] [(0 < 1)] ⟨97, [(2, .p 102), (7, .i value), (9, .w 129 left.length), (10, .w 5010 ways.length), (11, .w 5011 (rounds.length + 1)), (58, .w 129 left.length), (59, .agg [(.i m), (.ro (.ints .i64 B))])], [(102, .box 1 4 [(.i n), (.i s), (.i t), (.ro (.arcs es))]), (129, .fi left), (5010, .recs (.pieces ways)), (5011, .recs (.pieces (rounds ++ [(m, B)])))]⟩ hT (by kernel_rfl) (by kernel_rfl) ⟨(by decide), trivial⟩ ?_
          refine aops_call [(1, 129)] [] false ⟨true, [], 69, [.w 1 left.length, .agg [(.i m), (.ro (.ints .i64 B))]], [(1, .fi left)]⟩ [.w 1 left.length, .agg [(.i m), (.ro (.ints .i64 B))]] (sm := ⟨97, [(2, .p 102), (7, .i value), (9, .w 129 left.length), (10, .w 5010 ways.length), (11, .w 5011 (rounds.length + 1)), (58, .w 129 left.length), (59, .agg [(.i m), (.ro (.ints .i64 B))]), (60, .whn false (.one .any))], [(102, .box 1 4 [(.i n), (.i s), (.i t), (.ro (.arcs es))]), (129, .fi left), (5010, .recs (.pieces ways)), (5011, .recs (.pieces (rounds ++ [(m, B)])))]⟩) (by kernel_rfl) (by kernel_rfl) (by decide) (fun _ => trivial) rfl (fun _ => flow_take left B m (by assumption) (by assumption) (by assumption) (by omega) (by assumption)) (fun _ v Hr hv => ?_) (fun h => by cases h)
          obtain ⟨rfl, rfl⟩ := hv
          refine ⟨⟨97, [(2, .p 102), (7, .i value), (9, .w 129 left.length), (10, .w 5010 ways.length), (11, .w 5011 (rounds.length + 1)), (58, .w 129 left.length), (59, .agg [(.i m), (.ro (.ints .i64 B))]), (60, .tup [])], [(102, .box 1 4 [(.i n), (.i s), (.i t), (.ro (.arcs es))]), (129, .fi (takeOff m left B)), (5010, .recs (.pieces ways)), (5011, .recs (.pieces (rounds ++ [(m, B)])))]⟩, by kernel_rfl, ?_⟩
          refine aops_cut [2, 7, 9, 10, 11] [102, 129, 5010, 5011] ⟨97, [(2, .p 102), (7, .i value), (9, .w 129 left.length), (10, .w 5010 ways.length), (11, .w 5011 (rounds.length + 1))], [(102, .box 1 4 [(.i n), (.i s), (.i t), (.ro (.arcs es))]), (129, .fi (takeOff m left B)), (5010, .recs (.pieces ways)), (5011, .recs (.pieces (rounds ++ [(m, B)])))]⟩ (by kernel_rfl) ?_
          refine aops_end (by kernel_rfl) ?_
          refine loop_end _ ?_ ⟨(takeOff m left B), value, ways, (rounds ++ [(m, B)]), ⟨(by exact hSn), (by exact hlen), rfl⟩, (by simp only [lens, takeOff_len])⟩
          omega
        ·
          have hP : PieceOk es left (m, B) s t := by rcases hpc with ⟨q, _⟩ | ⟨_, q⟩; rw [c10] at q; cases q; exact q
          have hnd := hP.nd
          have hal : B.length ≤ 100 := by have := hP.many; simp only at this; omega
          have hlt := hP.lt hS.ll
          simp only at hlt hnd
          have hm1 := hP.a1
          have hm2 := hP.top hle
          simp only at hm1 hm2
          have hlt2 : ∀ k ∈ B, 0 ≤ k ∧ k < left.length ∧ min m value ≤ left.getD k.toNat 0 := fun k hk => by have := hlt k hk; omega
          have hSn := hS.way_step hP hst0 (by omega) (a := min m value) rfl
          have hlen := hle.take hP hS.ll (a := min m value) (by omega) (by show min m value ≤ m; omega)
          have hls := taken_mono hP hS.ll hS.nn (a := min m value) (by omega) (by show min m value ≤ m; omega)
          simp only at hSn hlen hls
          refine awp_run_seq [2, 7, 9, 10, 11, 12] [102, 112, 129, 5010, 5011] [(0 < 1), (0 < 1)] ⟨97, [(2, .p 102), (7, .i value), (9, .w 129 left.length), (10, .w 5010 ways.length), (11, .w 5011 rounds.length), (12, .p 112)], [(102, .box 1 4 [(.i n), (.i s), (.i t), (.ro (.arcs es))]), (112, .box 1 2 [(.i (min m value)), (.ro (.ints .i64 B))]), (129, .fi left), (5010, .recs (.pieces ways)), (5011, .recs (.pieces rounds))]⟩ hT (by kernel_rfl) ⟨(by decide), (by decide), trivial⟩ ?_
          refine awp_run_seq [2, 7, 9, 10, 11, 12] [102, 112, 129, 5010, 5011] [(0 < 1), (ways.length = ways.length), ((ways.length + 1) * 32 ≤ 140737488355328), ((ways.length + 1) ≤ 9223372036854775807)] ⟨97, [(2, .p 102), (7, .i value), (9, .w 129 left.length), (10, .w 5010 (ways.length + 1)), (11, .w 5011 rounds.length), (12, .p 112)], [(102, .box 1 4 [(.i n), (.i s), (.i t), (.ro (.arcs es))]), (112, .box 1 2 [(.i (min m value)), (.ro (.ints .i64 B))]), (129, .fi left), (5010, .recs (.pieces (ways ++ [((min m value), B)]))), (5011, .recs (.pieces rounds))]⟩ hT (by kernel_rfl) ⟨(by decide), (by omega), (by omega), (by omega), trivial⟩ ?_
          refine awp_run [2, 7, 9, 10, 11, 12] [102, 112, 129, 5010, 5011] [(0 < 1), (-9223372036854775808 ≤ (value - (min m value)) ∧ (value - (min m value)) ≤ 9223372036854775807)] ⟨97, [(2, .p 102), (7, .i (value - (min m value))), (9, .w 129 left.length), (10, .w 5010 (ways.length + 1)), (11, .w 5011 rounds.length), (12, .p 112)], [(102, .box 1 4 [(.i n), (.i s), (.i t), (.ro (.arcs es))]), (112, .box 1 2 [(.i (min m value)), (.ro (.ints .i64 B))]), (129, .fi left), (5010, .recs (.pieces (ways ++ [((min m value), B)]))), (5011, .recs (.pieces rounds))]⟩ hT (by kernel_rfl) ⟨(by decide), (by omega), trivial⟩ ?_
          refine awp_region ?_
          refine aops_run 2 [2, 7, 9, 10, 11, 58, 59] [102, 129, 5010, 5011] [(0 < 1)] ⟨97, [(2, .p 102), (7, .i (value - (min m value))), (9, .w 129 left.length), (10, .w 5010 (ways.length + 1)), (11, .w 5011 rounds.length), (58, .w 129 left.length), (59, .agg [(.i (min m value)), (.ro (.ints .i64 B))])], [(102, .box 1 4 [(.i n), (.i s), (.i t), (.ro (.arcs es))]), (129, .fi left), (5010, .recs (.pieces (ways ++ [((min m value), B)]))), (5011, .recs (.pieces rounds))]⟩ hT (by kernel_rfl) (by kernel_rfl) ⟨(by decide), trivial⟩ ?_
          refine aops_call [(1, 129)] [] false ⟨true, [], 69, [.w 1 left.length, .agg [(.i (min m value)), (.ro (.ints .i64 B))]], [(1, .fi left)]⟩ [.w 1 left.length, .agg [(.i (min m value)), (.ro (.ints .i64 B))]] (sm := ⟨97, [(2, .p 102), (7, .i (value - (min m value))), (9, .w 129 left.length), (10, .w 5010 (ways.length + 1)), (11, .w 5011 rounds.length), (58, .w 129 left.length), (59, .agg [(.i (min m value)), (.ro (.ints .i64 B))]), (60, .whn false (.one .any))], [(102, .box 1 4 [(.i n), (.i s), (.i t), (.ro (.arcs es))]), (129, .fi left), (5010, .recs (.pieces (ways ++ [((min m value), B)]))), (5011, .recs (.pieces rounds))]⟩) (by kernel_rfl) (by kernel_rfl) (by decide) (fun _ => trivial) rfl (fun _ => flow_take left B (min m value) (by assumption) (by assumption) (by assumption) (by omega) (by assumption)) (fun _ v Hr hv => ?_) (fun h => by cases h)
          obtain ⟨rfl, rfl⟩ := hv
          refine ⟨⟨97, [(2, .p 102), (7, .i (value - (min m value))), (9, .w 129 left.length), (10, .w 5010 (ways.length + 1)), (11, .w 5011 rounds.length), (58, .w 129 left.length), (59, .agg [(.i (min m value)), (.ro (.ints .i64 B))]), (60, .tup [])], [(102, .box 1 4 [(.i n), (.i s), (.i t), (.ro (.arcs es))]), (129, .fi (takeOff (min m value) left B)), (5010, .recs (.pieces (ways ++ [((min m value), B)]))), (5011, .recs (.pieces rounds))]⟩, by kernel_rfl, ?_⟩
          refine aops_cut [2, 7, 9, 10, 11] [102, 129, 5010, 5011] ⟨97, [(2, .p 102), (7, .i (value - (min m value))), (9, .w 129 left.length), (10, .w 5010 (ways.length + 1)), (11, .w 5011 rounds.length)], [(102, .box 1 4 [(.i n), (.i s), (.i t), (.ro (.arcs es))]), (129, .fi (takeOff (min m value) left B)), (5010, .recs (.pieces (ways ++ [((min m value), B)]))), (5011, .recs (.pieces rounds))]⟩ (by kernel_rfl) ?_
          refine aops_end (by kernel_rfl) ?_
          refine loop_end _ ?_ ⟨(takeOff (min m value) left B), (value - (min m value)), (ways ++ [((min m value), B)]), rounds, ⟨(by exact hSn), (by exact hlen), rfl⟩, (by simp only [lens, takeOff_len])⟩
          omega
      ·
        try simp only [bs] at c8
        have hv0 : value = 0 := by omega
        rw [hv0] at hS
        refine awp_exit ?_
        refine awp_seq ?_
        refine awp_run_seq [2, 9, 10, 11, 62, 63] [102, 129, 5010, 5011] [] ⟨97, [(2, .p 102), (9, .w 129 left.length), (10, .w 5010 ways.length), (11, .w 5011 rounds.length), (62, .i ((left.length : Nat) : Int)), (63, .i 0)], [(102, .box 1 4 [(.i n), (.i s), (.i t), (.ro (.arcs es))]), (129, .fi left), (5010, .recs (.pieces ways)), (5011, .recs (.pieces rounds))]⟩ hT (by kernel_rfl) trivial ?_
        refine awp_block ?_
        refine awp_loop (I := fun κ σ => ∃ (k : Nat) (left2 : List Int) (rounds2 : List (Int × List Int)), ((k ≤ left.length) ∧ (left2.length = left.length) ∧ (Spl n s t es f left2 0 ways rounds2) ∧ (∀ j, j < k → left2.getD j 0 = 0) ∧ (InB left2) ∧ left.length - k = κ) ∧ σ = ⟨97, [(2, .p 102), (9, .w 129 left2.length), (10, .w 5010 ways.length), (11, .w 5011 rounds2.length), (62, .i ((left.length : Nat) : Int)), (63, .i (k : Int))], [(102, .box 1 4 [(.i n), (.i s), (.i t), (.ro (.arcs es))]), (129, .fi left2), (5010, .recs (.pieces ways)), (5011, .recs (.pieces rounds2))]⟩) _ ⟨0, left, rounds, ⟨(by omega), (by omega), (by exact hS), (by intro j hj; omega), (by exact hle), rfl⟩, (by kernel_rfl)⟩ ?_
        rintro κ _ ⟨k, left2, rounds2, ⟨hk, hl2, hS, hz, hle, rfl⟩, rfl⟩
        have hll2 := hS.ll
        refine awp_run_seq [2, 9, 10, 11, 62, 63, 64] [102, 129, 5010, 5011] [] ⟨97, [(2, .p 102), (9, .w 129 left2.length), (10, .w 5010 ways.length), (11, .w 5011 rounds2.length), (62, .i ((left.length : Nat) : Int)), (63, .i (k : Int)), (64, .one (.bool (decide ((k : Int) < ((left.length : Nat) : Int)))))], [(102, .box 1 4 [(.i n), (.i s), (.i t), (.ro (.arcs es))]), (129, .fi left2), (5010, .recs (.pieces ways)), (5011, .recs (.pieces rounds2))]⟩ hT (by kernel_rfl) trivial ?_
        refine awp_seq ?_
        refine awp_cond (b := (decide ((k : Int) < ((left.length : Nat) : Int)))) (by kernel_rfl) (fun c17 => ?_) (fun c17 => ?_)
        ·
          try simp only [bs] at c17
          have hkl : k < es.length := by omega
          obtain ⟨a1, a2, a3, a4, a5, a6⟩ := hok.at_ hkl
          refine awp_skip ?_
          refine awp_seq ?_
          refine awp_block ?_
          refine awp_run_seq [2, 9, 10, 11, 14, 62, 63] [102, 129, 5010, 5011] [] ⟨97, [(2, .p 102), (9, .w 129 left2.length), (10, .w 5010 ways.length), (11, .w 5011 rounds2.length), (14, .i (k : Int)), (62, .i ((left.length : Nat) : Int)), (63, .i (k : Int))], [(102, .box 1 4 [(.i n), (.i s), (.i t), (.ro (.arcs es))]), (129, .fi left2), (5010, .recs (.pieces ways)), (5011, .recs (.pieces rounds2))]⟩ hT (by kernel_rfl) trivial ?_
          refine awp_block ?_
          refine awp_loop (I := fun κ σ => ∃ (left3 : List Int) (rounds3 : List (Int × List Int)), ((left3.length = left.length) ∧ (Spl n s t es f left3 0 ways rounds3) ∧ (∀ j, j < k → left3.getD j 0 = 0) ∧ (InB left3) ∧ (posL left3).length = κ) ∧ σ = ⟨97, [(2, .p 102), (9, .w 129 left3.length), (10, .w 5010 ways.length), (11, .w 5011 rounds3.length), (14, .i (k : Int)), (62, .i ((left.length : Nat) : Int)), (63, .i (k : Int))], [(102, .box 1 4 [(.i n), (.i s), (.i t), (.ro (.arcs es))]), (129, .fi left3), (5010, .recs (.pieces ways)), (5011, .recs (.pieces rounds3))]⟩) _ ⟨left2, rounds2, ⟨(by omega), (by exact hS), (by exact hz), (by exact hle), rfl⟩, (by kernel_rfl)⟩ ?_
          rintro κ _ ⟨left3, rounds3, ⟨hl3, hS, hz, hle, rfl⟩, rfl⟩
          have hll3 := hS.ll
          have hcw := hS.cnt
          have hpl := posL_le left3
          have hwl3 : left3.length = left2.length := by omega
          refine awp_seq ?_
          refine awp_run_seq [2, 9, 10, 11, 14, 62, 63, 70] [102, 129, 5010, 5011] [((0 : Int) ≤ (k : Int)), ((k : Int) < ((left3.length : Nat) : Int)), (k < left3.length)] ⟨97, [(2, .p 102), (9, .w 129 left3.length), (10, .w 5010 ways.length), (11, .w 5011 rounds3.length), (14, .i (k : Int)), (62, .i ((left.length : Nat) : Int)), (63, .i (k : Int)), (70, .one (.bool (decide ((0 : Int) < (List.getD left3 k 0)))))], [(102, .box 1 4 [(.i n), (.i s), (.i t), (.ro (.arcs es))]), (129, .fi left3), (5010, .recs (.pieces ways)), (5011, .recs (.pieces rounds3))]⟩ hT (by kernel_rfl) ⟨(by omega), (by omega), (by omega), trivial⟩ ?_
          refine awp_cond (b := (decide ((0 : Int) < (List.getD left3 k 0)))) (by kernel_rfl) (fun c19 => ?_) (fun c19 => ?_)
          ·
            try simp only [bs] at c19
            have hgo := hS.goes2 hkl (by omega)
            have hp0 := a1
            have hp1 := a2
            have hpt : (es.getD k default).src ≠ -1 := by omega
            refine awp_skip ?_
            refine awp_block ?_
            refine awp_seq (awp_any [(12, ⟨[.agg [(.i n), (.i (-1)), (.i (-1)), (.ro (.arcs es))], .one (.ro (.ints .i64 left3)), .i ((List.getD es k default).src)], .tup [(true, [(.i ((pieceF es left3 (-1) (n.toNat + 1) [] [((List.getD es k default).src)] ((List.getD es k default).src)).1.1)), (.w 9001 (List.length (pieceF es left3 (-1) (n.toNat + 1) [] [((List.getD es k default).src)] ((List.getD es k default).src)).1.2))]), (false, [(.bool ((pieceF es left3 (-1) (n.toNat + 1) [] [((List.getD es k default).src)] ((List.getD es k default).src)).2))])], [(9001, .fi ((pieceF es left3 (-1) (n.toNat + 1) [] [((List.getD es k default).src)] ((List.getD es k default).src)).1.2))], [(9001, 184)]⟩)] true [2, 9, 10, 11, 14, 15, 62, 63] [102, 115, 129, 184, 5010, 5011] 140 [(0, []), (1, [(0 < 1)]), (2, []), (3, [(0 < 1)]), (4, []), (5, []), (6, []), (7, [(0 < 1)]), (8, []), (9, [((0 : Int) ≤ (k : Int)), ((k : Int) < ((es.length : Nat) : Int))]), (10, []), (11, []), (12, [(AllP [] ∧ [.agg [(.i n), (.i (-1)), (.i (-1)), (.ro (.arcs es))], .one (.ro (.ints .i64 (List.take left3.length left3))), .i ((List.getD es k default).src)] = ([.agg [(.i n), (.i (-1)), (.i (-1)), (.ro (.arcs es))], .one (.ro (.ints .i64 left3)), .i ((List.getD es k default).src)] : List AV) ∧ ACall Try.prog 68 [.agg [(.i n), (.i (-1)), (.i (-1)), (.ro (.arcs es))], .one (.ro (.ints .i64 left3)), .i ((List.getD es k default).src)] [] (fun ov oh => ov = .tup [(true, [(.i ((pieceF es left3 (-1) (n.toNat + 1) [] [((List.getD es k default).src)] ((List.getD es k default).src)).1.1)), (.w 9001 (List.length (pieceF es left3 (-1) (n.toNat + 1) [] [((List.getD es k default).src)] ((List.getD es k default).src)).1.2))]), (false, [(.bool ((pieceF es left3 (-1) (n.toNat + 1) [] [((List.getD es k default).src)] ((List.getD es k default).src)).2))])] ∧ oh = [(9001, .fi ((pieceF es left3 (-1) (n.toNat + 1) [] [((List.getD es k default).src)] ((List.getD es k default).src)).1.2))]))]), (13, []), (14, []), (15, []), (16, []), (17, [(0 < 1)]), (18, [])] ⟨97, [(2, .p 102), (9, .w 129 left3.length), (10, .w 5010 ways.length), (11, .w 5011 rounds3.length), (14, .i (k : Int)), (15, .p 115), (62, .i ((left.length : Nat) : Int)), (63, .i (k : Int))], [(102, .box 1 4 [(.i n), (.i s), (.i t), (.ro (.arcs es))]), (115, .box 1 2 [(.i ((pieceF es left3 (-1) (n.toNat + 1) [] [((List.getD es k default).src)] ((List.getD es k default).src)).1.1)), (.w 184 (List.length (pieceF es left3 (-1) (n.toNat + 1) [] [((List.getD es k default).src)] ((List.getD es k default).src)).1.2))]), (129, .fi left3), (184, .fi ((pieceF es left3 (-1) (n.toNat + 1) [] [((List.getD es k default).src)] ((List.getD es k default).src)).1.2)), (5010, .recs (.pieces ways)), (5011, .recs (.pieces rounds3))]⟩ (by kernel_rfl) (by kernel_rfl) hT (by kernel_rfl) ⟨trivial, ⟨(by decide), trivial⟩, trivial, ⟨(by decide), trivial⟩, trivial, trivial, trivial, ⟨(by decide), trivial⟩, trivial, ⟨(by omega), (by omega), trivial⟩, trivial, trivial, ⟨⟨trivial, (by rw [show (List.take left3.length left3) = left3 from List.take_of_length_le (by first | omega | simp)]), (flow_piece n (-1) (-1) es left3 ((List.getD es k default).src) hG hS.ll hS.nn hp0 hp1 hpt hgo).mono (fun ov oh h => by obtain ⟨m, B, r, _, hex, rfl, rfl⟩ := h; rw [← hex]; exact ⟨rfl, rfl⟩)⟩, trivial⟩, trivial, trivial, trivial, trivial, ⟨(by decide), trivial⟩, trivial, trivial⟩ ?_)
            have hpc := pieceF_ok (left := left3) hG hp0 hp1 hpt hgo
            obtain ⟨m, hRm⟩ : ∃ m, (pieceF es left3 (-1) (n.toNat + 1) [] [((List.getD es k default).src)] ((List.getD es k default).src)).1.1 = m := ⟨_, rfl⟩
            obtain ⟨B, hRB⟩ : ∃ B, (pieceF es left3 (-1) (n.toNat + 1) [] [((List.getD es k default).src)] ((List.getD es k default).src)).1.2 = B := ⟨_, rfl⟩
            have hRe : (pieceF es left3 (-1) (n.toNat + 1) [] [((List.getD es k default).src)] ((List.getD es k default).src)).1 = (m, B) := by rw [← hRm, ← hRB]
            rw [hRe] at hpc
            have hP9 : ∃ x, PieceOk es left3 (m, B) x x := by rcases hpc with ⟨_, q⟩ | ⟨_, q⟩; exact q; exfalso; obtain ⟨k9, _, q1, q2, q3⟩ := way_end q.ne q.way; obtain ⟨_, _, z3, _⟩ := hok.at_ (i := k9.toNat) (by omega); omega
            obtain ⟨x9, hP⟩ := hP9
            have hnd := hP.nd
            have hal : B.length ≤ 100 := by have := hP.many; simp only at this; omega
            have hlt := hP.lt hS.ll
            simp only at hlt hnd
            have hm1 := hP.a1
            have hm2 := hP.top hle
            simp only at hm1 hm2
            have hSn := hS.round_step hP
            have hlen := hle.take hP hS.ll (by omega) (Int.le_refl _)
            have hls := taken_less hP hS.ll hS.nn
            obtain ⟨tf1, tf2, tf3⟩ := taken_facts hP hS.ll hS.nn (show 0 ≤ m by omega) (Int.le_refl _)
            simp only at hSn hlen hls tf1 tf2 tf3
            refine awp_weak (awk_seal 184 (s' := ⟨97, [(2, .p 102), (9, .w 129 left3.length), (10, .w 5010 ways.length), (11, .w 5011 rounds3.length), (14, .i (k : Int)), (15, .p 115), (62, .i ((left.length : Nat) : Int)), (63, .i (k : Int))], [(102, .box 1 4 [(.i n), (.i s), (.i t), (.ro (.arcs es))]), (115, .box 1 2 [(.i ((pieceF es left3 (-1) (n.toNat + 1) [] [((List.getD es k default).src)] ((List.getD es k default).src)).1.1)), (.ro (.ints .i64 (List.take (List.length (pieceF es left3 (-1) (n.toNat + 1) [] [((List.getD es k default).src)] ((List.getD es k default).src)).1.2) ((pieceF es left3 (-1) (n.toNat + 1) [] [((List.getD es k default).src)] ((List.getD es k default).src)).1.2))))]), (129, .fi left3), (5010, .recs (.pieces ways)), (5011, .recs (.pieces rounds3))]⟩) (by kernel_rfl)) ?_
            rw [show (List.take (List.length (pieceF es left3 (-1) (n.toNat + 1) [] [((List.getD es k default).src)] ((List.getD es k default).src)).1.2) ((pieceF es left3 (-1) (n.toNat + 1) [] [((List.getD es k default).src)] ((List.getD es k default).src)).1.2)) = (pieceF es left3 (-1) (n.toNat + 1) [] [((List.getD es k default).src)] ((List.getD es k default).src)).1.2 from List.take_of_length_le (by first | omega | simp)]
            rw [show (pieceF es left3 (-1) (n.toNat + 1) [] [((List.getD es k default).src)] ((List.getD es k default).src)).1.2 = B from hRB]
            rw [show (pieceF es left3 (-1) (n.toNat + 1) [] [((List.getD es k default).src)] ((List.getD es k default).src)).1.1 = m from hRm]
            refine awp_seq (awp_region ?_)
            refine aops_run 2 [2, 9, 10, 11, 14, 15, 62, 63, 87, 88] [102, 115, 129, 5010, 5011] [(0 < 1)] ⟨97, [(2, .p 102), (9, .w 129 left3.length), (10, .w 5010 ways.length), (11, .w 5011 rounds3.length), (14, .i (k : Int)), (15, .p 115), (62, .i ((left.length : Nat) : Int)), (63, .i (k : Int)), (87, .w 129 left3.length), (88, .agg [(.i m), (.ro (.ints .i64 B))])], [(102, .box 1 4 [(.i n), (.i s), (.i t), (.ro (.arcs es))]), (115, .box 1 2 [(.i m), (.ro (.ints .i64 B))]), (129, .fi left3), (5010, .recs (.pieces ways)), (5011, .recs (.pieces rounds3))]⟩ hT (by kernel_rfl) (by kernel_rfl) ⟨(by decide), trivial⟩ ?_
            refine aops_call [(1, 129)] [] false ⟨true, [], 69, [.w 1 left3.length, .agg [(.i m), (.ro (.ints .i64 B))]], [(1, .fi left3)]⟩ [.w 1 left3.length, .agg [(.i m), (.ro (.ints .i64 B))]] (sm := ⟨97, [(2, .p 102), (9, .w 129 left3.length), (10, .w 5010 ways.length), (11, .w 5011 rounds3.length), (14, .i (k : Int)), (15, .p 115), (62, .i ((left.length : Nat) : Int)), (63, .i (k : Int)), (87, .w 129 left3.length), (88, .agg [(.i m), (.ro (.ints .i64 B))]), (89, .whn false (.one .any))], [(102, .box 1 4 [(.i n), (.i s), (.i t), (.ro (.arcs es))]), (115, .box 1 2 [(.i m), (.ro (.ints .i64 B))]), (129, .fi left3), (5010, .recs (.pieces ways)), (5011, .recs (.pieces rounds3))]⟩) (by kernel_rfl) (by kernel_rfl) (by decide) (fun _ => trivial) rfl (fun _ => flow_take left3 B m (by assumption) (by assumption) (by assumption) (by omega) (by assumption)) (fun _ v Hr hv => ?_) (fun h => by cases h)
            obtain ⟨rfl, rfl⟩ := hv
            refine ⟨⟨97, [(2, .p 102), (9, .w 129 left3.length), (10, .w 5010 ways.length), (11, .w 5011 rounds3.length), (14, .i (k : Int)), (15, .p 115), (62, .i ((left.length : Nat) : Int)), (63, .i (k : Int)), (87, .w 129 left3.length), (88, .agg [(.i m), (.ro (.ints .i64 B))]), (89, .tup [])], [(102, .box 1 4 [(.i n), (.i s), (.i t), (.ro (.arcs es))]), (115, .box 1 2 [(.i m), (.ro (.ints .i64 B))]), (129, .fi (takeOff m left3 B)), (5010, .recs (.pieces ways)), (5011, .recs (.pieces rounds3))]⟩, by kernel_rfl, ?_⟩
            refine aops_cut [2, 9, 10, 11, 14, 15, 62, 63] [102, 115, 129, 5010, 5011] ⟨97, [(2, .p 102), (9, .w 129 left3.length), (10, .w 5010 ways.length), (11, .w 5011 rounds3.length), (14, .i (k : Int)), (15, .p 115), (62, .i ((left.length : Nat) : Int)), (63, .i (k : Int))], [(102, .box 1 4 [(.i n), (.i s), (.i t), (.ro (.arcs es))]), (115, .box 1 2 [(.i m), (.ro (.ints .i64 B))]), (129, .fi (takeOff m left3 B)), (5010, .recs (.pieces ways)), (5011, .recs (.pieces rounds3))]⟩ (by kernel_rfl) ?_
            refine aops_end_seq (by kernel_rfl) ?_
            refine awp_run [2, 9, 10, 11, 14, 62, 63] [102, 129, 5010, 5011] [(0 < 1), (rounds3.length = rounds3.length), ((rounds3.length + 1) * 32 ≤ 140737488355328), ((rounds3.length + 1) ≤ 9223372036854775807)] ⟨97, [(2, .p 102), (9, .w 129 left3.length), (10, .w 5010 ways.length), (11, .w 5011 (rounds3.length + 1)), (14, .i (k : Int)), (62, .i ((left.length : Nat) : Int)), (63, .i (k : Int))], [(102, .box 1 4 [(.i n), (.i s), (.i t), (.ro (.arcs es))]), (129, .fi (takeOff m left3 B)), (5010, .recs (.pieces ways)), (5011, .recs (.pieces (rounds3 ++ [(m, B)])))]⟩ hT (by kernel_rfl) ⟨(by decide), (by omega), (by omega), (by omega), trivial⟩ ?_
            refine loop_end _ ?_ ⟨(takeOff m left3 B), (rounds3 ++ [(m, B)]), ⟨(by rw [tf1]; omega), (by exact hSn), (by intro j hj; have := hz j hj; have := tf3 j (by omega); omega), (by exact hlen), rfl⟩, (by simp only [lens, takeOff_len])⟩
            omega
          ·
            try simp only [bs] at c19
            have hz9 : ∀ j, j < k + 1 → left3.getD j 0 = 0 := fun j hj => by rcases Nat.lt_succ_iff_lt_or_eq.1 hj with q | q; exact hz j q; subst q; have := hle j; omega
            refine awp_exit ?_
            refine awp_run [2, 9, 10, 11, 62, 63] [102, 129, 5010, 5011] [(-9223372036854775808 ≤ (((k + 1) : Nat) : Int) ∧ (((k + 1) : Nat) : Int) ≤ 9223372036854775807)] ⟨97, [(2, .p 102), (9, .w 129 left3.length), (10, .w 5010 ways.length), (11, .w 5011 rounds3.length), (62, .i ((left.length : Nat) : Int)), (63, .i (((k + 1) : Nat) : Int))], [(102, .box 1 4 [(.i n), (.i s), (.i t), (.ro (.arcs es))]), (129, .fi left3), (5010, .recs (.pieces ways)), (5011, .recs (.pieces rounds3))]⟩ hT (by kernel_rfl) ⟨(by omega), trivial⟩ ?_
            refine loop_end _ ?_ ⟨(k + 1), left3, rounds3, ⟨(by omega), (by omega), (by exact hS), (by exact hz9), (by exact hle), rfl⟩, (by kernel_rfl)⟩
            omega
        ·
          try simp only [bs] at c17
          refine awp_exit ?_
          refine awp_weak (awk_seal 5010 (s' := ⟨97, [(2, .p 102), (9, .w 129 left2.length), (10, .one (.rs (.pieces (List.take ways.length ways)))), (11, .w 5011 rounds2.length), (62, .i ((left.length : Nat) : Int)), (63, .i (k : Int)), (64, .one (.bool (decide ((k : Int) < ((left.length : Nat) : Int)))))], [(102, .box 1 4 [(.i n), (.i s), (.i t), (.ro (.arcs es))]), (129, .fi left2), (5011, .recs (.pieces rounds2))]⟩) (by kernel_rfl)) ?_
          rw [show (List.take ways.length ways) = ways from List.take_of_length_le (by first | omega | simp)]
          refine awp_weak (awk_seal 5011 (s' := ⟨97, [(2, .p 102), (9, .w 129 left2.length), (10, .one (.rs (.pieces ways))), (11, .one (.rs (.pieces (List.take rounds2.length rounds2)))), (62, .i ((left.length : Nat) : Int)), (63, .i (k : Int)), (64, .one (.bool (decide ((k : Int) < ((left.length : Nat) : Int)))))], [(102, .box 1 4 [(.i n), (.i s), (.i t), (.ro (.arcs es))]), (129, .fi left2)]⟩) (by kernel_rfl)) ?_
          rw [show (List.take rounds2.length rounds2) = rounds2 from List.take_of_length_le (by first | omega | simp)]
          refine awp_run_seq [4, 5, 6] [] [] ⟨97, [(4, .one (.rs (.pieces ways))), (5, .one (.rs (.pieces rounds2))), (6, .i 0)], []⟩ hT (by kernel_rfl) trivial ?_
          refine awp_ret ?_
          refine kRet.ret _ [] [] (.tup [(false, [(.rs (.pieces ways))]), (false, [(.rs (.pieces rounds2))]), (false, [(.i 0)])]) [] (by kernel_rfl) trivial ?_
          exact ⟨ways, rounds2, 0, (by exact hS.end_ hE (fun j hj => hz j (by have := hS.ll; omega))), (by kernel_rfl), (by kernel_rfl)⟩
end Go.Ab
