/- Of most: More. -/
import Derived.Test.YtcmaffldmodacaaTab
import Derived.Test.YtcmaffldmodacaaMost1
set_option maxRecDepth 100000
namespace Go.Ab
open Go Go.Proofs
theorem most_more (n s t : Int) (es : List Arc) (f : List Int) : ACall Try.prog 42 [.agg [(.int .i64 n), (.int .i64 s), (.int .i64 t), (.ro (.arcs es))], .one (.ro (.ints .i64 f))] [] (fun ov oh => ∃ (g : List Int) (v : Int), (MostOk n s t es (flowErr n s t es f) g v) ∧ ov = .tup [(false, [(.rw 9001 0 g.length)]), (false, [(.int .i64 v)]), (false, [(.int .i64 (flowErr n s t es f))])] ∧ oh = [(9001, .flat (.ints .i64 g))]) := by
  refine acall_intro hT Try.func42 rfl (by kernel_rfl) rfl (by kernel_rfl) ?_
  refine awp_run_seq [1, 2] [102] [] ⟨64, [(1, .one (.ro (.ints .i64 f))), (2, .one (.ptr 102 0 0))], [(102, .box 1 4 [(.int .i64 n), (.int .i64 s), (.int .i64 t), (.ro (.arcs es))])]⟩ hT (by kernel_rfl) trivial ?_
  refine awp_seq (awp_region ?_)
  refine aops_run 2 [1, 2, 15, 16] [102] [(0 < 1)] ⟨64, [(1, .one (.ro (.ints .i64 f))), (2, .one (.ptr 102 0 0)), (15, .agg [(.int .i64 n), (.int .i64 s), (.int .i64 t), (.ro (.arcs es))]), (16, .one (.ro (.ints .i64 f)))], [(102, .box 1 4 [(.int .i64 n), (.int .i64 s), (.int .i64 t), (.ro (.arcs es))])]⟩ hT (by kernel_rfl) (by kernel_rfl) ⟨(by decide), trivial⟩ ?_
  refine aops_pure false ⟨true, [], 44, [.agg [(.int .i64 n), (.int .i64 s), (.int .i64 t), (.ro (.arcs es))], .one (.ro (.ints .i64 f))], []⟩ [.agg [(.int .i64 n), (.int .i64 s), (.int .i64 t), (.ro (.arcs es))], .one (.ro (.ints .i64 f))] (.tup [(false, [(.int .i64 (okI (flowErr n s t es f) (gone es f s)))]), (false, [(.int .i64 (flowErr n s t es f))])]) ⟨64, [(1, .one (.ro (.ints .i64 f))), (2, .one (.ptr 102 0 0)), (15, .agg [(.int .i64 n), (.int .i64 s), (.int .i64 t), (.ro (.arcs es))]), (16, .one (.ro (.ints .i64 f))), (17, .tup [(false, [(.int .i64 (okI (flowErr n s t es f) (gone es f s)))]), (false, [(.int .i64 (flowErr n s t es f))])])], [(102, .box 1 4 [(.int .i64 n), (.int .i64 s), (.int .i64 t), (.ro (.arcs es))])]⟩ (by kernel_rfl) (by kernel_rfl) (fun _ => trivial) rfl (fun _ => flow_value n s t es f) ?_
  refine aops_run 5 [1, 2, 7, 8] [102] [] ⟨64, [(1, .one (.ro (.ints .i64 f))), (2, .one (.ptr 102 0 0)), (7, .one (.int .i64 (okI (flowErr n s t es f) (gone es f s)))), (8, .one (.int .i64 (flowErr n s t es f)))], [(102, .box 1 4 [(.int .i64 n), (.int .i64 s), (.int .i64 t), (.ro (.arcs es))])]⟩ hT (by kernel_rfl) (by kernel_rfl) trivial ?_
  refine aops_end_seq (by kernel_rfl) ?_
  refine awp_seq ?_
  refine awp_run_seq [1, 2, 7, 8, 21] [102] [] ⟨64, [(1, .one (.ro (.ints .i64 f))), (2, .one (.ptr 102 0 0)), (7, .one (.int .i64 (okI (flowErr n s t es f) (gone es f s)))), (8, .one (.int .i64 (flowErr n s t es f))), (21, .one (.bool (decide ((flowErr n s t es f) ≠ 0))))], [(102, .box 1 4 [(.int .i64 n), (.int .i64 s), (.int .i64 t), (.ro (.arcs es))])]⟩ hT (by kernel_rfl) trivial ?_
  refine awp_cond (b := (decide ((flowErr n s t es f) ≠ 0))) (by kernel_rfl) (fun c2 => ?_) (fun c2 => ?_)
  · -- yes 2
    try simp only [bs] at c2
    refine awp_run_seq [4, 5, 6] [] [] ⟨64, [(4, .one .nils), (5, .one (.int .i64 0)), (6, .one (.int .i64 (flowErr n s t es f)))], []⟩ hT (by kernel_rfl) trivial ?_
    refine awp_weak (awk_empty 5004 (.flat (.ints .i64 [])) rfl (by decide) _) ?_
    refine awp_weak (awk_slot 4 (.one .nils) (.one (.rw 5004 0 0)) _ (by kernel_rfl) (.one (wkv_nils (o := .flat (.ints .i64 [])) (by kernel_rfl)))) ?_
    refine awp_weak (awk_ren 5004 9001 (s' := ⟨64, [(4, .one (.rw 9001 0 0)), (5, .one (.int .i64 0)), (6, .one (.int .i64 (flowErr n s t es f)))], [(9001, .flat (.ints .i64 []))]⟩) (by kernel_rfl)) ?_
    refine awp_ret ?_
    refine kRet.ret _ [9001] [] (.tup [(false, [(.rw 9001 0 0)]), (false, [(.int .i64 0)]), (false, [(.int .i64 (flowErr n s t es f))])]) [(9001, .flat (.ints .i64 []))] (by kernel_rfl) trivial ?_
    exact ⟨[], 0, (by exact .inl ⟨c2, rfl, rfl⟩), (by kernel_rfl), (by kernel_rfl)⟩
  · -- no 2
    try simp only [bs] at c2
    have hE : flowErr n s t es f = 0 := by omega
    have hfl := flowErr_ok hE
    have hok := hfl.net
    have h1 := hok.n1
    have h2 := hok.n2
    have h3 := hok.len
    have h4 := hok.s0
    have h5 := hok.s1
    have h6 := hok.t0
    have h7 := hok.t1
    have hlen := hfl.fin.len
    have hf10 := hfl.f10
    refine awp_skip ?_
    refine awp_run_seq [2, 7, 9] [102, 123] [(0 = 0), ((0 + f.length) * 8 ≤ 140737488355328), ((0 + f.length) ≤ 9223372036854775807)] ⟨64, [(2, .one (.ptr 102 0 0)), (7, .one (.int .i64 (okI (flowErr n s t es f) (gone es f s)))), (9, .one (.rw 123 0 (0 + f.length)))], [(102, .box 1 4 [(.int .i64 n), (.int .i64 s), (.int .i64 t), (.ro (.arcs es))]), (123, .flat (.ints .i64 f))]⟩ hT (by kernel_rfl) ⟨(by decide), (by first | omega | (simp only [lens]; omega) | (simp only [Bool.cond_decide]; omega) | (simp only [nadd_eq]; omega)), (by first | omega | (simp only [lens]; omega) | (simp only [Bool.cond_decide]; omega) | (simp only [nadd_eq]; omega)), trivial⟩ ?_
    refine awp_block ?_
    refine awp_loop (I := fun κ σ => ∃ (o : List Int) (u : Int), ((FlOk n s t es o) ∧ (gone es o s = u) ∧ (600000 - u).toNat = κ) ∧ σ = ⟨64, [(2, .one (.ptr 102 0 0)), (7, .one (.int .i64 u)), (9, .one (.rw 123 0 o.length))], [(102, .box 1 4 [(.int .i64 n), (.int .i64 s), (.int .i64 t), (.ro (.arcs es))]), (123, .flat (.ints .i64 o))]⟩) _ ⟨f, (okI (flowErr n s t es f) (gone es f s)), ⟨(by exact hfl), (by exact (okI_ok _ hE).symm), rfl⟩, (by first | (simp only [lens]; done) | (simp only [Nat.zero_add]; done) | simp only [lens, Nat.zero_add])⟩ ?_
    rintro κ _ ⟨o, u, ⟨hfo, hv, rfl⟩, rfl⟩
    have hok := hfo.net
    have hfi := hfo.fin
    have hbd := hfo.bound s
    refine awp_block ?_
    refine awp_seq (awp_region ?_)
    refine aops_run 2 [2, 7, 9, 27, 28] [102, 123] [(0 < 1)] ⟨64, [(2, .one (.ptr 102 0 0)), (7, .one (.int .i64 u)), (9, .one (.rw 123 0 o.length)), (27, .agg [(.int .i64 n), (.int .i64 s), (.int .i64 t), (.ro (.arcs es))]), (28, .one (.rw 123 0 o.length))], [(102, .box 1 4 [(.int .i64 n), (.int .i64 s), (.int .i64 t), (.ro (.arcs es))]), (123, .flat (.ints .i64 o))]⟩ hT (by kernel_rfl) (by kernel_rfl) ⟨(by decide), trivial⟩ ?_
    refine aops_call [] [(9001, 129)] true ⟨true, [], 65, [.agg [(.int .i64 n), (.int .i64 s), (.int .i64 t), (.ro (.arcs es))], .one (.ro (.ints .i64 (List.take o.length o)))], []⟩ [.agg [(.int .i64 n), (.int .i64 s), (.int .i64 t), (.ro (.arcs es))], .one (.ro (.ints .i64 o))] (sm := ⟨64, [(2, .one (.ptr 102 0 0)), (7, .one (.int .i64 u)), (9, .one (.rw 123 0 o.length)), (27, .agg [(.int .i64 n), (.int .i64 s), (.int .i64 t), (.ro (.arcs es))]), (28, .one (.rw 123 0 o.length)), (29, .whn false (.one .any))], [(102, .box 1 4 [(.int .i64 n), (.int .i64 s), (.int .i64 t), (.ro (.arcs es))]), (123, .flat (.ints .i64 o))]⟩) (by kernel_rfl) (by kernel_rfl) (by decide) (fun _ => trivial) (by rw [show (List.take o.length o) = o from List.take_of_length_le (by first | omega | simp)]) (fun _ => most_way n s t es o (by assumption) (by assumption)) (fun _ v Hr hv => ?_) (fun h => by cases h)
    obtain ⟨l5, room5, hw5, rfl, rfl⟩ := hv
    refine ⟨⟨64, [(2, .one (.ptr 102 0 0)), (7, .one (.int .i64 u)), (9, .one (.rw 123 0 o.length)), (27, .agg [(.int .i64 n), (.int .i64 s), (.int .i64 t), (.ro (.arcs es))]), (28, .one (.rw 123 0 o.length)), (29, .tup [(false, [(.rw 129 0 l5.length)]), (false, [(.int .i64 room5)])])], [(102, .box 1 4 [(.int .i64 n), (.int .i64 s), (.int .i64 t), (.ro (.arcs es))]), (123, .flat (.ints .i64 o)), (129, .flat (.steps l5))]⟩, by kernel_rfl, ?_⟩
    refine aops_run 5 [2, 7, 9, 10, 11] [102, 123, 129] [] ⟨64, [(2, .one (.ptr 102 0 0)), (7, .one (.int .i64 u)), (9, .one (.rw 123 0 o.length)), (10, .one (.rw 129 0 l5.length)), (11, .one (.int .i64 room5))], [(102, .box 1 4 [(.int .i64 n), (.int .i64 s), (.int .i64 t), (.ro (.arcs es))]), (123, .flat (.ints .i64 o)), (129, .flat (.steps l5))]⟩ hT (by kernel_rfl) (by kernel_rfl) trivial ?_
    refine aops_end_seq (by kernel_rfl) ?_
    refine awp_seq ?_
    refine awp_run_seq [2, 7, 9, 10, 11, 33] [102, 123, 129] [] ⟨64, [(2, .one (.ptr 102 0 0)), (7, .one (.int .i64 u)), (9, .one (.rw 123 0 o.length)), (10, .one (.rw 129 0 l5.length)), (11, .one (.int .i64 room5)), (33, .one (.bool (decide (room5 = 0))))], [(102, .box 1 4 [(.int .i64 n), (.int .i64 s), (.int .i64 t), (.ro (.arcs es))]), (123, .flat (.ints .i64 o)), (129, .flat (.steps l5))]⟩ hT (by kernel_rfl) trivial ?_
    refine awp_cond (b := (decide (room5 = 0))) (by kernel_rfl) (fun c6 => ?_) (fun c6 => ?_)
    · -- yes 6
      try simp only [bs] at c6
      have hmax : u = (parted n s t es).1 := by
        rcases hw5 with ⟨_, _, z, z1, z2⟩ | ⟨w1, _⟩
        · rw [← hv]; exact greatest hfo z1 z2
        · omega
      refine awp_run_seq [4, 5, 6] [123] [] ⟨64, [(4, .one (.rw 123 0 o.length)), (5, .one (.int .i64 u)), (6, .one (.int .i64 0))], [(123, .flat (.ints .i64 o))]⟩ hT (by kernel_rfl) trivial ?_
      refine awp_weak (awk_ren 123 9001 (s' := ⟨64, [(4, .one (.rw 9001 0 o.length)), (5, .one (.int .i64 u)), (6, .one (.int .i64 0))], [(9001, .flat (.ints .i64 o))]⟩) (by kernel_rfl)) ?_
      refine awp_ret ?_
      refine kRet.ret _ [9001] [] (.tup [(false, [(.rw 9001 0 o.length)]), (false, [(.int .i64 u)]), (false, [(.int .i64 0)])]) [(9001, .flat (.ints .i64 o))] (by kernel_rfl) trivial ?_
      exact ⟨o, u, (by exact .inr ⟨hE, hfo, hv, hmax⟩), (by rw [hE]), (by kernel_rfl)⟩
    · -- no 6
      try simp only [bs] at c6
      rcases hw5 with ⟨w0, _⟩ | ⟨w0, w1, w2, w3, w4, w5⟩
      · exact absurd w0 c6
      have hal := hfo.along w0 w2 w3 w4
      have hbd2 := hal.1.bound s
      refine awp_skip ?_
      refine awp_seq ?_
      refine awp_run_seq [2, 7, 9, 11, 36, 37, 38] [102, 123, 129] [] ⟨64, [(2, .one (.ptr 102 0 0)), (7, .one (.int .i64 u)), (9, .one (.rw 123 0 o.length)), (11, .one (.int .i64 room5)), (36, .one (.rw 129 0 l5.length)), (37, .one (.int .i64 ((l5.length : Nat) : Int))), (38, .one (.int .i64 0))], [(102, .box 1 4 [(.int .i64 n), (.int .i64 s), (.int .i64 t), (.ro (.arcs es))]), (123, .flat (.ints .i64 o)), (129, .flat (.steps l5))]⟩ hT (by kernel_rfl) trivial ?_
      refine awp_block ?_
      refine awp_loop (I := fun κ σ => ∃ (j : Nat) (o2 : List Int), ((j ≤ l5.length) ∧ (o2 = (l5.take j).foldl (augStep room5) o) ∧ l5.length - j = κ) ∧ σ = ⟨64, [(2, .one (.ptr 102 0 0)), (7, .one (.int .i64 u)), (9, .one (.rw 123 0 o.length)), (11, .one (.int .i64 room5)), (36, .one (.rw 129 0 l5.length)), (37, .one (.int .i64 ((l5.length : Nat) : Int))), (38, .one (.int .i64 ((j : Nat) : Int)))], [(102, .box 1 4 [(.int .i64 n), (.int .i64 s), (.int .i64 t), (.ro (.arcs es))]), (123, .flat (.ints .i64 o2)), (129, .flat (.steps l5))]⟩) _ ⟨0, o, ⟨(by omega), (by rfl), rfl⟩, (by kernel_rfl)⟩ ?_
      rintro κ _ ⟨j, o2, ⟨hj, ho, rfl⟩, rfl⟩
      refine awp_run_seq [2, 7, 9, 11, 36, 37, 38, 39] [102, 123, 129] [] ⟨64, [(2, .one (.ptr 102 0 0)), (7, .one (.int .i64 u)), (9, .one (.rw 123 0 o.length)), (11, .one (.int .i64 room5)), (36, .one (.rw 129 0 l5.length)), (37, .one (.int .i64 ((l5.length : Nat) : Int))), (38, .one (.int .i64 ((j : Nat) : Int))), (39, .one (.bool (decide (((j : Nat) : Int) < ((l5.length : Nat) : Int)))))], [(102, .box 1 4 [(.int .i64 n), (.int .i64 s), (.int .i64 t), (.ro (.arcs es))]), (123, .flat (.ints .i64 o2)), (129, .flat (.steps l5))]⟩ hT (by kernel_rfl) trivial ?_
      refine awp_seq ?_
      refine awp_cond (b := (decide (((j : Nat) : Int) < ((l5.length : Nat) : Int)))) (by kernel_rfl) (fun c9 => ?_) (fun c9 => ?_)
      · -- yes 9
        try simp only [bs] at c9
        have hjl : j < l5.length := by omega
        have hpm : l5.getD j (0, false) ∈ l5 := getD_mem hjl
        have hwi := w2.ends.within _ hpm
        have hrm := w4 _ hpm
        have hat := hfi.at_ (l5.getD j (0, false)).1.toNat (by omega)
        have hge : o2.getD (l5.getD j (0, false)).1.toNat 0 = o.getD (l5.getD j (0, false)).1.toNat 0 := by
          rw [ho]
          refine aug_get _ _ _ (fun q hq => ?_)
          have h1 := w3.at_ (d := (0, false)) hjl q hq
          have h2 := (w2.ends.within q (List.mem_of_mem_take hq)).1
          omega
        have hol : o2.length = o.length := by rw [ho]; exact aug_len _ _ _
        have hfl2 := hfi.len
        obtain ⟨_, _, _, _, _, hcap⟩ := hok.at_ (i := (l5.getD j (0, false)).1.toNat) (by omega)
        unfold room1 at hrm
        refine awp_skip ?_
        refine awp_seq ?_
        refine awp_block ?_
        refine awp_run_seq [2, 7, 9, 11, 13, 36, 37, 38] [102, 113, 123, 129] [((0 : Int) ≤ ((j : Nat) : Int)), (((j : Nat) : Int) < ((l5.length : Nat) : Int)), (j < l5.length), (0 < 1)] ⟨64, [(2, .one (.ptr 102 0 0)), (7, .one (.int .i64 u)), (9, .one (.rw 123 0 o.length)), (11, .one (.int .i64 room5)), (13, .one (.ptr 113 0 0)), (36, .one (.rw 129 0 l5.length)), (37, .one (.int .i64 ((l5.length : Nat) : Int))), (38, .one (.int .i64 ((j : Nat) : Int)))], [(102, .box 1 4 [(.int .i64 n), (.int .i64 s), (.int .i64 t), (.ro (.arcs es))]), (113, .box 1 2 [(.int .i64 ((List.getD l5 j (0, false)).1)), (.bool ((List.getD l5 j (0, false)).2))]), (123, .flat (.ints .i64 o2)), (129, .flat (.steps l5))]⟩ hT (by kernel_rfl) ⟨(by first | omega | (simp only [lens]; omega) | (simp only [Bool.cond_decide]; omega) | (simp only [nadd_eq]; omega)), (by first | omega | (simp only [lens]; omega) | (simp only [Bool.cond_decide]; omega) | (simp only [nadd_eq]; omega)), (by first | omega | (simp only [lens]; omega) | (simp only [Bool.cond_decide]; omega) | (simp only [nadd_eq]; omega)), (by decide), trivial⟩ ?_
        refine awp_run_seq [2, 7, 9, 11, 13, 36, 37, 38, 43] [102, 113, 123, 129] [(0 < 1)] ⟨64, [(2, .one (.ptr 102 0 0)), (7, .one (.int .i64 u)), (9, .one (.rw 123 0 o.length)), (11, .one (.int .i64 room5)), (13, .one (.ptr 113 0 0)), (36, .one (.rw 129 0 l5.length)), (37, .one (.int .i64 ((l5.length : Nat) : Int))), (38, .one (.int .i64 ((j : Nat) : Int))), (43, .one (.bool ((List.getD l5 j (0, false)).2)))], [(102, .box 1 4 [(.int .i64 n), (.int .i64 s), (.int .i64 t), (.ro (.arcs es))]), (113, .box 1 2 [(.int .i64 ((List.getD l5 j (0, false)).1)), (.bool ((List.getD l5 j (0, false)).2))]), (123, .flat (.ints .i64 o2)), (129, .flat (.steps l5))]⟩ hT (by kernel_rfl) ⟨(by decide), trivial⟩ ?_
        refine awp_cond (b := ((List.getD l5 j (0, false)).2)) (by kernel_rfl) (fun c11 => ?_) (fun c11 => ?_)
        · -- yes 11
          try simp only [bs] at c11
          rw [if_pos c11] at hrm
          have hst : o2.set (l5.getD j (0, false)).1.toNat (o2.getD (l5.getD j (0, false)).1.toNat 0 - room5) = [l5.getD j (0, false)].foldl (augStep room5) o2 := by simp only [List.foldl_cons, List.foldl_nil, augStep]; rw [if_pos c11]
          refine awp_run [2, 7, 9, 11, 36, 37, 38] [102, 123, 129] [(0 < 1), ((0 : Int) ≤ ((List.getD l5 j (0, false)).1)), (((List.getD l5 j (0, false)).1) < ((o.length : Nat) : Int)), ((Int.toNat ((List.getD l5 j (0, false)).1)) < o2.length), (-9223372036854775808 ≤ ((List.getD o2 (Int.toNat ((List.getD l5 j (0, false)).1)) 0) - room5) ∧ ((List.getD o2 (Int.toNat ((List.getD l5 j (0, false)).1)) 0) - room5) ≤ 9223372036854775807), ((0 : Int) ≤ ((List.getD l5 j (0, false)).1)), (((List.getD l5 j (0, false)).1) < ((o.length : Nat) : Int)), ((Int.toNat ((List.getD l5 j (0, false)).1)) < o2.length)] ⟨64, [(2, .one (.ptr 102 0 0)), (7, .one (.int .i64 u)), (9, .one (.rw 123 0 o.length)), (11, .one (.int .i64 room5)), (36, .one (.rw 129 0 l5.length)), (37, .one (.int .i64 ((l5.length : Nat) : Int))), (38, .one (.int .i64 ((j : Nat) : Int)))], [(102, .box 1 4 [(.int .i64 n), (.int .i64 s), (.int .i64 t), (.ro (.arcs es))]), (123, .flat (.ints .i64 (List.set o2 (Int.toNat ((List.getD l5 j (0, false)).1)) ((List.getD o2 (Int.toNat ((List.getD l5 j (0, false)).1)) 0) - room5)))), (129, .flat (.steps l5))]⟩ hT (by kernel_rfl) ⟨(by decide), (by first | omega | (simp only [lens]; omega) | (simp only [Bool.cond_decide]; omega) | (simp only [nadd_eq]; omega)), (by first | omega | (simp only [lens]; omega) | (simp only [Bool.cond_decide]; omega) | (simp only [nadd_eq]; omega)), (by first | omega | (simp only [lens]; omega) | (simp only [Bool.cond_decide]; omega) | (simp only [nadd_eq]; omega)), (by first | omega | (simp only [lens]; omega) | (simp only [Bool.cond_decide]; omega) | (simp only [nadd_eq]; omega)), (by first | omega | (simp only [lens]; omega) | (simp only [Bool.cond_decide]; omega) | (simp only [nadd_eq]; omega)), (by first | omega | (simp only [lens]; omega) | (simp only [Bool.cond_decide]; omega) | (simp only [nadd_eq]; omega)), (by first | omega | (simp only [lens]; omega) | (simp only [Bool.cond_decide]; omega) | (simp only [nadd_eq]; omega)), trivial⟩ ?_
          refine awp_run [2, 7, 9, 11, 36, 37, 38] [102, 123, 129] [(-9223372036854775808 ≤ (((j + 1) : Nat) : Int) ∧ (((j + 1) : Nat) : Int) ≤ 9223372036854775807)] ⟨64, [(2, .one (.ptr 102 0 0)), (7, .one (.int .i64 u)), (9, .one (.rw 123 0 o.length)), (11, .one (.int .i64 room5)), (36, .one (.rw 129 0 l5.length)), (37, .one (.int .i64 ((l5.length : Nat) : Int))), (38, .one (.int .i64 (((j + 1) : Nat) : Int)))], [(102, .box 1 4 [(.int .i64 n), (.int .i64 s), (.int .i64 t), (.ro (.arcs es))]), (123, .flat (.ints .i64 (List.set o2 (Int.toNat ((List.getD l5 j (0, false)).1)) ((List.getD o2 (Int.toNat ((List.getD l5 j (0, false)).1)) 0) - room5)))), (129, .flat (.steps l5))]⟩ hT (by kernel_rfl) ⟨(by first | omega | (simp only [lens]; omega) | (simp only [Bool.cond_decide]; omega) | (simp only [nadd_eq]; omega)), trivial⟩ ?_
          refine loop_end _ ?_ ⟨(j + 1), (List.set o2 (Int.toNat ((List.getD l5 j (0, false)).1)) ((List.getD o2 (Int.toNat ((List.getD l5 j (0, false)).1)) 0) - room5)), ⟨(by omega), (by rw [take_getD l5 (0, false) j (by omega), List.foldl_append, ← ho]; exact hst), rfl⟩, (by kernel_rfl)⟩
          omega
        · -- no 11
          try simp only [bs] at c11
          rw [if_neg (by rw [c11]; decide)] at hrm
          have hst : o2.set (l5.getD j (0, false)).1.toNat (o2.getD (l5.getD j (0, false)).1.toNat 0 + room5) = [l5.getD j (0, false)].foldl (augStep room5) o2 := by simp only [List.foldl_cons, List.foldl_nil, augStep]; rw [if_neg (by rw [c11]; decide)]
          refine awp_run [2, 7, 9, 11, 36, 37, 38] [102, 123, 129] [(0 < 1), ((0 : Int) ≤ ((List.getD l5 j (0, false)).1)), (((List.getD l5 j (0, false)).1) < ((o.length : Nat) : Int)), ((Int.toNat ((List.getD l5 j (0, false)).1)) < o2.length), (-9223372036854775808 ≤ ((List.getD o2 (Int.toNat ((List.getD l5 j (0, false)).1)) 0) + room5) ∧ ((List.getD o2 (Int.toNat ((List.getD l5 j (0, false)).1)) 0) + room5) ≤ 9223372036854775807), ((0 : Int) ≤ ((List.getD l5 j (0, false)).1)), (((List.getD l5 j (0, false)).1) < ((o.length : Nat) : Int)), ((Int.toNat ((List.getD l5 j (0, false)).1)) < o2.length)] ⟨64, [(2, .one (.ptr 102 0 0)), (7, .one (.int .i64 u)), (9, .one (.rw 123 0 o.length)), (11, .one (.int .i64 room5)), (36, .one (.rw 129 0 l5.length)), (37, .one (.int .i64 ((l5.length : Nat) : Int))), (38, .one (.int .i64 ((j : Nat) : Int)))], [(102, .box 1 4 [(.int .i64 n), (.int .i64 s), (.int .i64 t), (.ro (.arcs es))]), (123, .flat (.ints .i64 (List.set o2 (Int.toNat ((List.getD l5 j (0, false)).1)) ((List.getD o2 (Int.toNat ((List.getD l5 j (0, false)).1)) 0) + room5)))), (129, .flat (.steps l5))]⟩ hT (by kernel_rfl) ⟨(by decide), (by first | omega | (simp only [lens]; omega) | (simp only [Bool.cond_decide]; omega) | (simp only [nadd_eq]; omega)), (by first | omega | (simp only [lens]; omega) | (simp only [Bool.cond_decide]; omega) | (simp only [nadd_eq]; omega)), (by first | omega | (simp only [lens]; omega) | (simp only [Bool.cond_decide]; omega) | (simp only [nadd_eq]; omega)), (by first | omega | (simp only [lens]; omega) | (simp only [Bool.cond_decide]; omega) | (simp only [nadd_eq]; omega)), (by first | omega | (simp only [lens]; omega) | (simp only [Bool.cond_decide]; omega) | (simp only [nadd_eq]; omega)), (by first | omega | (simp only [lens]; omega) | (simp only [Bool.cond_decide]; omega) | (simp only [nadd_eq]; omega)), (by first | omega | (simp only [lens]; omega) | (simp only [Bool.cond_decide]; omega) | (simp only [nadd_eq]; omega)), trivial⟩ ?_
          refine awp_run [2, 7, 9, 11, 36, 37, 38] [102, 123, 129] [(-9223372036854775808 ≤ (((j + 1) : Nat) : Int) ∧ (((j + 1) : Nat) : Int) ≤ 9223372036854775807)] ⟨64, [(2, .one (.ptr 102 0 0)), (7, .one (.int .i64 u)), (9, .one (.rw 123 0 o.length)), (11, .one (.int .i64 room5)), (36, .one (.rw 129 0 l5.length)), (37, .one (.int .i64 ((l5.length : Nat) : Int))), (38, .one (.int .i64 (((j + 1) : Nat) : Int)))], [(102, .box 1 4 [(.int .i64 n), (.int .i64 s), (.int .i64 t), (.ro (.arcs es))]), (123, .flat (.ints .i64 (List.set o2 (Int.toNat ((List.getD l5 j (0, false)).1)) ((List.getD o2 (Int.toNat ((List.getD l5 j (0, false)).1)) 0) + room5)))), (129, .flat (.steps l5))]⟩ hT (by kernel_rfl) ⟨(by first | omega | (simp only [lens]; omega) | (simp only [Bool.cond_decide]; omega) | (simp only [nadd_eq]; omega)), trivial⟩ ?_
          refine loop_end _ ?_ ⟨(j + 1), (List.set o2 (Int.toNat ((List.getD l5 j (0, false)).1)) ((List.getD o2 (Int.toNat ((List.getD l5 j (0, false)).1)) 0) + room5)), ⟨(by omega), (by rw [take_getD l5 (0, false) j (by omega), List.foldl_append, ← ho]; exact hst), rfl⟩, (by kernel_rfl)⟩
          omega
      · -- no 9
        try simp only [bs] at c9
        have hol : o2.length = o.length := by rw [ho]; exact aug_len _ _ _
        refine awp_exit ?_
        refine awp_run [2, 7, 9] [102, 123] [(-9223372036854775808 ≤ (u + room5) ∧ (u + room5) ≤ 9223372036854775807)] ⟨64, [(2, .one (.ptr 102 0 0)), (7, .one (.int .i64 (u + room5))), (9, .one (.rw 123 0 o.length))], [(102, .box 1 4 [(.int .i64 n), (.int .i64 s), (.int .i64 t), (.ro (.arcs es))]), (123, .flat (.ints .i64 o2))]⟩ hT (by kernel_rfl) ⟨(by first | omega | (simp only [lens]; omega) | (simp only [Bool.cond_decide]; omega) | (simp only [nadd_eq]; omega)), trivial⟩ ?_
        refine loop_end _ ?_ ⟨o2, (u + room5), ⟨(by rw [ho, List.take_of_length_le (by omega)]; exact hal.1), (by rw [ho, List.take_of_length_le (by omega)]; omega), rfl⟩, (by rw [hol])⟩
        omega

theorem most_of (n s t : Int) (es : List Arc) : ACall Try.prog 16 [.agg [(.int .i64 n), (.int .i64 s), (.int .i64 t), (.ro (.arcs es))]] [] (fun ov oh => ∃ (g : List Int) (v : Int), (MostOk n s t es (netErr n s t es) g v) ∧ ov = .tup [(false, [(.rw 9001 0 g.length)]), (false, [(.int .i64 v)]), (false, [(.int .i64 (netErr n s t es))])] ∧ oh = [(9001, .flat (.ints .i64 g))]) := by
  refine acall_intro hT Try.func16 rfl (by kernel_rfl) rfl (by kernel_rfl) ?_
  refine awp_run_seq [1] [101] [] ⟨20, [(1, .one (.ptr 101 0 0))], [(101, .box 1 4 [(.int .i64 n), (.int .i64 s), (.int .i64 t), (.ro (.arcs es))])]⟩ hT (by kernel_rfl) trivial ?_
  refine awp_seq ?_
  refine awp_seq (awp_region ?_)
  refine aops_run 1 [1, 6] [101] [(0 < 1)] ⟨20, [(1, .one (.ptr 101 0 0)), (6, .agg [(.int .i64 n), (.int .i64 s), (.int .i64 t), (.ro (.arcs es))])], [(101, .box 1 4 [(.int .i64 n), (.int .i64 s), (.int .i64 t), (.ro (.arcs es))])]⟩ hT (by kernel_rfl) (by kernel_rfl) ⟨(by decide), trivial⟩ ?_
  refine aops_pure false ⟨true, [], 23, [.agg [(.int .i64 n), (.int .i64 s), (.int .i64 t), (.ro (.arcs es))]], []⟩ [.agg [(.int .i64 n), (.int .i64 s), (.int .i64 t), (.ro (.arcs es))]] (.one (.int .i64 (netErr n s t es))) ⟨20, [(1, .one (.ptr 101 0 0)), (6, .agg [(.int .i64 n), (.int .i64 s), (.int .i64 t), (.ro (.arcs es))]), (7, .one (.int .i64 (netErr n s t es)))], [(101, .box 1 4 [(.int .i64 n), (.int .i64 s), (.int .i64 t), (.ro (.arcs es))])]⟩ (by kernel_rfl) (by kernel_rfl) (fun _ => trivial) rfl (fun _ => graph_CheckNet n s t es) ?_
  refine aops_run 1 [1, 5] [101] [] ⟨20, [(1, .one (.ptr 101 0 0)), (5, .one (.int .i64 (netErr n s t es)))], [(101, .box 1 4 [(.int .i64 n), (.int .i64 s), (.int .i64 t), (.ro (.arcs es))])]⟩ hT (by kernel_rfl) (by kernel_rfl) trivial ?_
  refine aops_end_seq (by kernel_rfl) ?_
  refine awp_run_seq [1, 5, 9] [101] [] ⟨20, [(1, .one (.ptr 101 0 0)), (5, .one (.int .i64 (netErr n s t es))), (9, .one (.bool (decide ((netErr n s t es) ≠ 0))))], [(101, .box 1 4 [(.int .i64 n), (.int .i64 s), (.int .i64 t), (.ro (.arcs es))])]⟩ hT (by kernel_rfl) trivial ?_
  refine awp_cond (b := (decide ((netErr n s t es) ≠ 0))) (by kernel_rfl) (fun c2 => ?_) (fun c2 => ?_)
  · -- yes 2
    try simp only [bs] at c2
    refine awp_run_seq [2, 3, 4] [] [] ⟨20, [(2, .one .nils), (3, .one (.int .i64 0)), (4, .one (.int .i64 (netErr n s t es)))], []⟩ hT (by kernel_rfl) trivial ?_
    refine awp_weak (awk_empty 5002 (.flat (.ints .i64 [])) rfl (by decide) _) ?_
    refine awp_weak (awk_slot 2 (.one .nils) (.one (.rw 5002 0 0)) _ (by kernel_rfl) (.one (wkv_nils (o := .flat (.ints .i64 [])) (by kernel_rfl)))) ?_
    refine awp_weak (awk_ren 5002 9001 (s' := ⟨20, [(2, .one (.rw 9001 0 0)), (3, .one (.int .i64 0)), (4, .one (.int .i64 (netErr n s t es)))], [(9001, .flat (.ints .i64 []))]⟩) (by kernel_rfl)) ?_
    refine awp_ret ?_
    refine kRet.ret _ [9001] [] (.tup [(false, [(.rw 9001 0 0)]), (false, [(.int .i64 0)]), (false, [(.int .i64 (netErr n s t es))])]) [(9001, .flat (.ints .i64 []))] (by kernel_rfl) trivial ?_
    exact ⟨[], 0, (by exact .inl ⟨c2, rfl, rfl⟩), (by kernel_rfl), (by kernel_rfl)⟩
  · -- no 2
    try simp only [bs] at c2
    have hE : netErr n s t es = 0 := by omega
    have hok := netErr_ok hE
    have h1 := hok.n1
    have h2 := hok.n2
    have h3 := hok.len
    have h4 := hok.s0
    have h5 := hok.s1
    have h6 := hok.t0
    have h7 := hok.t1
    have hz := flowErr_zeros hE
    refine awp_skip ?_
    -- 5 of 12 operations in any order
    refine awp_seq (awp_calm3 [] false [[], [], [1], [1, 2], [1, 2, 3], [0, 1, 2, 3, 4], [0, 1, 2, 3, 4, 5], [0, 1, 2, 3, 4, 5], [0, 1, 2, 3, 4, 5], [0, 1, 2, 3, 4, 5, 6, 7, 8], [0, 1, 2, 3, 4, 5, 6, 7, 8, 9], [0, 1, 2, 3, 4, 5, 6, 7, 8, 9, 10]] 5 7 #[true, true, true, true, true, false, false, false, false, false, false, false] [11, 15] [115] [(0, [(0 < 1)]), (1, []), (2, [(0 < 1)]), (3, []), (4, [((0 : Int) ≤ ((es.length : Nat) : Int)), (((es.length : Nat) : Int) ≤ ((es.length : Nat) : Int)), ((8 : Int) * ((es.length : Nat) : Int) ≤ 281474976710656), (((es.length : Nat) : Int) ≤ 9223372036854775807)])] ⟨20, [(11, .agg [(.int .i64 n), (.int .i64 s), (.int .i64 t), (.ro (.arcs es))]), (15, .one (.rw 115 0 es.length))], [(115, .flat (.ints .i64 (List.replicate es.length (0 : Int))))]⟩ (by kernel_rfl) hT (by kernel_rfl) (by kernel_rfl) (by kernel_rfl) (by kernel_rfl) ⟨⟨(by decide), trivial⟩, trivial, ⟨(by decide), trivial⟩, trivial, ⟨(by first | omega | (simp only [lens]; omega) | (simp only [Bool.cond_decide]; omega) | (simp only [nadd_eq]; omega)), (by first | omega | (simp only [lens]; omega) | (simp only [Bool.cond_decide]; omega) | (simp only [nadd_eq]; omega)), (by first | omega | (simp only [lens]; omega) | (simp only [Bool.cond_decide]; omega) | (simp only [nadd_eq]; omega)), (by first | omega | (simp only [lens]; omega) | (simp only [Bool.cond_decide]; omega) | (simp only [nadd_eq]; omega)), trivial⟩, trivial⟩ ?_)
    refine aany_call (n := 6) (k := 5) (L := #[true, true, true, true, true, true, false, false, false, false, false, false]) [] [(9001, 116)] true ⟨true, [], 42, [.agg [(.int .i64 n), (.int .i64 s), (.int .i64 t), (.ro (.arcs es))], .one (.ro (.ints .i64 (List.take es.length (List.replicate es.length (0 : Int)))))], []⟩ [.agg [(.int .i64 n), (.int .i64 s), (.int .i64 t), (.ro (.arcs es))], .one (.ro (.ints .i64 (List.replicate es.length (0 : Int))))] (sm := ⟨20, [(11, .agg [(.int .i64 n), (.int .i64 s), (.int .i64 t), (.ro (.arcs es))]), (15, .one (.rw 115 0 es.length)), (16, .whn false (.one .any))], [(115, .flat (.ints .i64 (List.replicate es.length (0 : Int))))]⟩) (by kernel_rfl) (by kernel_rfl) (by kernel_rfl) (by kernel_rfl) (by decide) (fun _ => trivial) (by rw [show (List.take es.length (List.replicate es.length (0 : Int))) = (List.replicate es.length (0 : Int)) from List.take_of_length_le (by first | omega | simp)]) (fun _ => most_more n s t es (List.replicate es.length (0 : Int))) (fun _ v Hr hv => ?_) (fun h => by cases h)
    obtain ⟨g4, v4, hm4, rfl, rfl⟩ := hv
    refine ⟨⟨20, [(11, .agg [(.int .i64 n), (.int .i64 s), (.int .i64 t), (.ro (.arcs es))]), (15, .one (.rw 115 0 es.length)), (16, .tup [(false, [(.rw 116 0 g4.length)]), (false, [(.int .i64 v4)]), (false, [(.int .i64 (flowErr n s t es (List.replicate es.length (0 : Int))))])])], [(115, .flat (.ints .i64 (List.replicate es.length (0 : Int)))), (116, .flat (.ints .i64 g4))]⟩, by kernel_rfl, ?_⟩
    refine aany_weak (awk_cut [16] [116] _) ?_
    refine aany_end [] false [2, 3, 4] [116] 1 [(6, []), (7, []), (8, []), (9, []), (10, []), (11, [])] ⟨20, [(2, .one (.rw 116 0 g4.length)), (3, .one (.int .i64 v4)), (4, .one (.int .i64 (flowErr n s t es (List.replicate es.length (0 : Int)))))], [(116, .flat (.ints .i64 g4))]⟩ (by kernel_rfl) hT (by kernel_rfl) ⟨trivial, trivial, trivial, trivial, trivial, trivial, trivial⟩ ?_
    refine awp_weak (awk_ren 116 9001 (s' := ⟨20, [(2, .one (.rw 9001 0 g4.length)), (3, .one (.int .i64 v4)), (4, .one (.int .i64 (flowErr n s t es (List.replicate es.length (0 : Int)))))], [(9001, .flat (.ints .i64 g4))]⟩) (by kernel_rfl)) ?_
    refine awp_ret ?_
    refine kRet.ret _ [9001] [] (.tup [(false, [(.rw 9001 0 g4.length)]), (false, [(.int .i64 v4)]), (false, [(.int .i64 (flowErr n s t es (List.replicate es.length (0 : Int))))])]) [(9001, .flat (.ints .i64 g4))] (by kernel_rfl) trivial ?_
    exact ⟨g4, v4, (by rw [hz] at hm4; rw [hE]; exact hm4), (by rw [hz, hE]), (by kernel_rfl)⟩

end Go.Ab
