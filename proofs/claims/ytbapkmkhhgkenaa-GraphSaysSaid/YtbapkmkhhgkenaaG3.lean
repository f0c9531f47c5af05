/- Of graphs: turned round, counted, with an arc left out. -/
import Derived.Test.YtbapkmkhhgkenaaTab
import Derived.Test.YtbapkmkhhgkenaaG2
import Derived.Test.YtbapkmkhhgkenaaF2
import Derived.Test.YtbapkmkhhgkenaaF3
import Derived.Test.YtbapkmkhhgkenaaPlGraph2
set_option maxRecDepth 100000
namespace Go.Ab
open Go Go.Proofs
theorem graph_turn (n : Int) (es : List Arc) : ACall Try.prog 36 [.agg [(.int .i64 n), (.ro (.arcs es))]] [] (fun ov oh => ov = .tup [(true, [(.int .i64 (okI (graphErr n es (-10000)) n)), (.ro (.arcs (okL (graphErr n es (-10000)) (es.map turnA))))]), (false, [(.int .i64 (graphErr n es (-10000)))])] ∧ oh = []) := by
  refine acall_intro hT Try.func36 rfl (by kernel_rfl) rfl (by kernel_rfl) ?_
  refine awp_run_seq [1, 2] [101, 102] [] ⟨44, [(1, .one (.ptr 101 0 0)), (2, .one (.ptr 102 0 0))], [(101, .box 1 2 [(.int .i64 n), (.ro (.arcs es))]), (102, .box 1 2 [(.int .i64 0), .nils])]⟩ hT (by kernel_rfl) trivial ?_
  refine awp_seq ?_
  refine awp_seq (awp_region ?_)
  refine aops_run 1 [1, 2, 8] [101, 102] [(0 < 1)] ⟨44, [(1, .one (.ptr 101 0 0)), (2, .one (.ptr 102 0 0)), (8, .agg [(.int .i64 n), (.ro (.arcs es))])], [(101, .box 1 2 [(.int .i64 n), (.ro (.arcs es))]), (102, .box 1 2 [(.int .i64 0), .nils])]⟩ hT (by kernel_rfl) (by kernel_rfl) ⟨(by decide), trivial⟩ ?_
  refine aops_pure false ⟨true, [], 33, [.agg [(.int .i64 n), (.ro (.arcs es))]], []⟩ [.agg [(.int .i64 n), (.ro (.arcs es))]] (.one (.int .i64 (graphErr n es (-10000)))) ⟨44, [(1, .one (.ptr 101 0 0)), (2, .one (.ptr 102 0 0)), (8, .agg [(.int .i64 n), (.ro (.arcs es))]), (9, .one (.int .i64 (graphErr n es (-10000))))], [(101, .box 1 2 [(.int .i64 n), (.ro (.arcs es))]), (102, .box 1 2 [(.int .i64 0), .nils])]⟩ (by kernel_rfl) (by kernel_rfl) (fun _ => trivial) rfl (fun _ => graph_CheckLong n es) ?_
  refine aops_run 1 [1, 2, 4] [101, 102] [] ⟨44, [(1, .one (.ptr 101 0 0)), (2, .one (.ptr 102 0 0)), (4, .one (.int .i64 (graphErr n es (-10000))))], [(101, .box 1 2 [(.int .i64 n), (.ro (.arcs es))]), (102, .box 1 2 [(.int .i64 0), .nils])]⟩ hT (by kernel_rfl) (by kernel_rfl) trivial ?_
  refine aops_end_seq (by kernel_rfl) ?_
  refine awp_run_seq [1, 2, 4, 11] [101, 102] [] ⟨44, [(1, .one (.ptr 101 0 0)), (2, .one (.ptr 102 0 0)), (4, .one (.int .i64 (graphErr n es (-10000)))), (11, .one (.bool (decide ((graphErr n es (-10000)) ≠ 0))))], [(101, .box 1 2 [(.int .i64 n), (.ro (.arcs es))]), (102, .box 1 2 [(.int .i64 0), .nils])]⟩ hT (by kernel_rfl) trivial ?_
  refine awp_cond (b := (decide ((graphErr n es (-10000)) ≠ 0))) (by kernel_rfl) (fun c2 => ?_) (fun c2 => ?_)
  · -- yes 2
    simp only [bs] at c2
    refine awp_run_seq [2, 3] [102] [(0 < 1)] ⟨44, [(2, .one (.ptr 102 0 0)), (3, .one (.int .i64 (graphErr n es (-10000))))], [(102, .box 1 2 [(.int .i64 0), .nils])]⟩ hT (by kernel_rfl) ⟨(by decide), trivial⟩ ?_
    refine awp_weak (awk_boxcell 102 1 1 2 [(.int .i64 0), .nils] (.nils) ((.ro (.arcs []))) _ (by kernel_rfl) rfl (wkv_nil0 rfl)) ?_
    refine awp_ret ?_
    refine kRet.ret _ [] [(0 < 1)] (.tup [(true, [(.int .i64 0), (.ro (.arcs []))]), (false, [(.int .i64 (graphErr n es (-10000)))])]) [] (by kernel_rfl) ⟨(by decide), trivial⟩ ?_
    exact ⟨by rw [show (okI (graphErr n es (-10000)) n) = 0 from Eq.symm (by first | exact (okI_no _ c2).symm | exact (okL_no _ c2).symm), show (okL (graphErr n es (-10000)) (es.map turnA)) = [] from Eq.symm (by first | exact (okI_no _ c2).symm | exact (okL_no _ c2).symm)], rfl⟩
  · -- no 2
    simp only [bs] at c2
    have hE : graphErr n es (-10000) = 0 := by omega
    have hok := graphErr_ok hE
    have h1 := hok.n1
    have h2 := hok.n2
    have h3 := hok.len
    refine awp_skip ?_
    -- 7 of 8 operations in any order; 1 orders of the rest
    refine awp_seq (awp_calm2 [(4, ⟨[.one (.ro (.arcs es))], .one (.rw 9001 0 es.length), [(9001, .flat (.arcs es))], [(9001, 118)]⟩)] false [[], [0], [], [2], [2, 3], [0, 1, 2, 3, 4], [], [0, 1, 2, 3, 4, 5, 6]] 7 [2, 5] [102, 105, 118] [(0, []), (1, [(0 < 1)]), (2, []), (3, [(0 < 1)]), (4, [(AllP [] ∧ [.one (.ro (.arcs es))] = ([.one (.ro (.arcs es))] : List AV) ∧ ACall Try.prog 69 [.one (.ro (.arcs es))] [] (fun ov oh => ov = .one (.rw 9001 0 es.length) ∧ oh = [(9001, .flat (.arcs es))]))]), (5, []), (6, [])] [(7, [(0 < 1)])] 1 ⟨44, [(2, .one (.ptr 102 0 0)), (5, .one (.ptr 105 0 0))], [(102, .box 1 2 [(.int .i64 0), .nils]), (105, .box 1 2 [(.int .i64 n), (.rw 118 0 es.length)]), (118, .flat (.arcs es))]⟩ (by kernel_rfl) (by kernel_rfl) hT (by kernel_rfl) (by kernel_rfl) ⟨trivial, ⟨(by decide), trivial⟩, trivial, ⟨(by decide), trivial⟩, ⟨⟨trivial, rfl, clone_arcs es (by first | omega | (simp; omega))⟩, trivial⟩, trivial, trivial, trivial⟩ ⟨⟨(by decide), trivial⟩, trivial⟩ ?_)
    refine awp_seq ?_
    refine awp_run_seq [2, 5, 21, 22, 23] [102, 105, 118] [(0 < 1)] ⟨44, [(2, .one (.ptr 102 0 0)), (5, .one (.ptr 105 0 0)), (21, .one (.rw 118 0 es.length)), (22, .one (.int .i64 ((es.length : Nat) : Int))), (23, .one (.int .i64 0))], [(102, .box 1 2 [(.int .i64 0), .nils]), (105, .box 1 2 [(.int .i64 n), (.rw 118 0 es.length)]), (118, .flat (.arcs es))]⟩ hT (by kernel_rfl) ⟨(by decide), trivial⟩ ?_
    refine awp_block ?_
    refine awp_loop (I := fun κ σ => ∃ (i : Nat) (L : List Arc), ((i ≤ es.length) ∧ (L = (es.take i).map turnA ++ es.drop i) ∧ es.length - i = κ) ∧ σ = ⟨44, [(2, .one (.ptr 102 0 0)), (5, .one (.ptr 105 0 0)), (21, .one (.rw 118 0 es.length)), (22, .one (.int .i64 ((es.length : Nat) : Int))), (23, .one (.int .i64 ((i : Nat) : Int)))], [(102, .box 1 2 [(.int .i64 0), .nils]), (105, .box 1 2 [(.int .i64 n), (.rw 118 0 es.length)]), (118, .flat (.arcs L))]⟩) _ ⟨0, es, ⟨(by omega), (by simp), rfl⟩, (by kernel_rfl)⟩ ?_
    rintro κ _ ⟨i, L, ⟨hi, hL, rfl⟩, rfl⟩
    have hLl : L.length = es.length := by rw [hL]; exact mid_len _ _ _ hi
    refine awp_run_seq [2, 5, 21, 22, 23, 24] [102, 105, 118] [] ⟨44, [(2, .one (.ptr 102 0 0)), (5, .one (.ptr 105 0 0)), (21, .one (.rw 118 0 es.length)), (22, .one (.int .i64 ((es.length : Nat) : Int))), (23, .one (.int .i64 ((i : Nat) : Int))), (24, .one (.bool (decide (((i : Nat) : Int) < ((es.length : Nat) : Int)))))], [(102, .box 1 2 [(.int .i64 0), .nils]), (105, .box 1 2 [(.int .i64 n), (.rw 118 0 es.length)]), (118, .flat (.arcs L))]⟩ hT (by kernel_rfl) trivial ?_
    refine awp_seq ?_
    refine awp_cond (b := (decide (((i : Nat) : Int) < ((es.length : Nat) : Int)))) (by kernel_rfl) (fun c6 => ?_) (fun c6 => ?_)
    · -- yes 6
      simp only [bs] at c6
      have hg : L.getD i default = es.getD i default := by rw [hL]; exact mid_get _ _ _ _ (by omega)
      refine awp_skip ?_
      refine awp_seq ?_
      refine awp_block ?_
      refine awp_run_seq [2, 5, 6, 7, 21, 22, 23] [102, 105, 107, 118] [((0 : Int) ≤ ((i : Nat) : Int)), (((i : Nat) : Int) < ((es.length : Nat) : Int)), (i < L.length), (0 < 1)] ⟨44, [(2, .one (.ptr 102 0 0)), (5, .one (.ptr 105 0 0)), (6, .one (.int .i64 ((i : Nat) : Int))), (7, .one (.ptr 107 0 0)), (21, .one (.rw 118 0 es.length)), (22, .one (.int .i64 ((es.length : Nat) : Int))), (23, .one (.int .i64 ((i : Nat) : Int)))], [(102, .box 1 2 [(.int .i64 0), .nils]), (105, .box 1 2 [(.int .i64 n), (.rw 118 0 es.length)]), (107, .box 1 3 [(.int .i64 ((List.getD L i default).src)), (.int .i64 ((List.getD L i default).dst)), (.int .i64 ((List.getD L i default).cap))]), (118, .flat (.arcs L))]⟩ hT (by kernel_rfl) ⟨(by first | omega | (simp only [lens]; omega)), (by first | omega | (simp only [lens]; omega)), (by first | omega | (simp only [lens]; omega)), (by decide), trivial⟩ ?_
      -- 40 orders
      refine awp_any [] false [2, 5, 21, 22, 23] [102, 105, 118] 40 [(0, []), (1, [(0 < 1)]), (2, []), (3, []), (4, [(0 < 1)]), (5, []), (6, []), (7, [(0 < 1)]), (8, []), (9, [(0 < 1)]), (10, [((0 : Int) ≤ ((i : Nat) : Int)), (((i : Nat) : Int) < ((es.length : Nat) : Int))]), (11, []), (12, [(i < L.length)]), (13, [((0 : Int) ≤ ((i : Nat) : Int)), (((i : Nat) : Int) < ((es.length : Nat) : Int))]), (14, []), (15, [(i < (List.length (List.set L i (⟨((List.getD L i default).dst), ((List.getD L i default).dst), ((List.getD L i default).cap)⟩))))])] ⟨44, [(2, .one (.ptr 102 0 0)), (5, .one (.ptr 105 0 0)), (21, .one (.rw 118 0 es.length)), (22, .one (.int .i64 ((es.length : Nat) : Int))), (23, .one (.int .i64 ((i : Nat) : Int)))], [(102, .box 1 2 [(.int .i64 0), .nils]), (105, .box 1 2 [(.int .i64 n), (.rw 118 0 es.length)]), (118, .flat (.arcs (List.set (List.set L i (⟨((List.getD L i default).dst), ((List.getD L i default).dst), ((List.getD L i default).cap)⟩)) i (⟨((List.getD (List.set L i (⟨((List.getD L i default).dst), ((List.getD L i default).dst), ((List.getD L i default).cap)⟩)) i default).src), ((List.getD L i default).src), ((List.getD (List.set L i (⟨((List.getD L i default).dst), ((List.getD L i default).dst), ((List.getD L i default).cap)⟩)) i default).cap)⟩))))]⟩ (by kernel_rfl) (by kernel_rfl) hT (by kernel_rfl) ⟨trivial, ⟨(by decide), trivial⟩, trivial, trivial, ⟨(by decide), trivial⟩, trivial, trivial, ⟨(by decide), trivial⟩, trivial, ⟨(by decide), trivial⟩, ⟨(by first | omega | (simp only [lens]; omega)), (by first | omega | (simp only [lens]; omega)), trivial⟩, trivial, ⟨(by first | omega | (simp only [lens]; omega)), trivial⟩, ⟨(by first | omega | (simp only [lens]; omega)), (by first | omega | (simp only [lens]; omega)), trivial⟩, trivial, ⟨(by first | omega | (simp only [lens]; omega)), trivial⟩, trivial⟩ ?_
      refine awp_run [2, 5, 21, 22, 23] [102, 105, 118] [(-9223372036854775808 ≤ (((i + 1) : Nat) : Int) ∧ (((i + 1) : Nat) : Int) ≤ 9223372036854775807)] ⟨44, [(2, .one (.ptr 102 0 0)), (5, .one (.ptr 105 0 0)), (21, .one (.rw 118 0 es.length)), (22, .one (.int .i64 ((es.length : Nat) : Int))), (23, .one (.int .i64 (((i + 1) : Nat) : Int)))], [(102, .box 1 2 [(.int .i64 0), .nils]), (105, .box 1 2 [(.int .i64 n), (.rw 118 0 es.length)]), (118, .flat (.arcs (List.set (List.set L i (⟨((List.getD L i default).dst), ((List.getD L i default).dst), ((List.getD L i default).cap)⟩)) i (⟨((List.getD (List.set L i (⟨((List.getD L i default).dst), ((List.getD L i default).dst), ((List.getD L i default).cap)⟩)) i default).src), ((List.getD L i default).src), ((List.getD (List.set L i (⟨((List.getD L i default).dst), ((List.getD L i default).dst), ((List.getD L i default).cap)⟩)) i default).cap)⟩))))]⟩ hT (by kernel_rfl) ⟨(by first | omega | (simp only [lens]; omega)), trivial⟩ ?_
      refine loop_end _ ?_ ⟨(i + 1), (List.set (List.set L i (⟨((List.getD L i default).dst), ((List.getD L i default).dst), ((List.getD L i default).cap)⟩)) i (⟨((List.getD (List.set L i (⟨((List.getD L i default).dst), ((List.getD L i default).dst), ((List.getD L i default).cap)⟩)) i default).src), ((List.getD L i default).src), ((List.getD (List.set L i (⟨((List.getD L i default).dst), ((List.getD L i default).dst), ((List.getD L i default).cap)⟩)) i default).cap)⟩)), ⟨(by omega), (by simp only [List.set_set, getD_set_self _ _ _ _ (show i < L.length by omega), hg]; rw [hL]; exact mid_set turnA es default i (by omega)), rfl⟩, (by kernel_rfl)⟩
      omega
    · -- no 6
      simp only [bs] at c6
      have hfin : L = es.map turnA := by rw [hL, List.take_of_length_le (by omega), List.drop_of_length_le (by omega), List.append_nil]
      refine awp_exit ?_
      refine awp_run_seq [2, 3] [102, 118] [(0 < 1), (0 < 1)] ⟨44, [(2, .one (.ptr 102 0 0)), (3, .one (.int .i64 0))], [(102, .box 1 2 [(.int .i64 n), (.rw 118 0 es.length)]), (118, .flat (.arcs L))]⟩ hT (by kernel_rfl) ⟨(by decide), (by decide), trivial⟩ ?_
      refine awp_weak (awk_seal 118 (s' := ⟨44, [(2, .one (.ptr 102 0 0)), (3, .one (.int .i64 0))], [(102, .box 1 2 [(.int .i64 n), (.ro (.arcs (List.take es.length L)))])]⟩) (by kernel_rfl)) ?_
      rw [show (List.take es.length L) = L from List.take_of_length_le (by first | omega | simp)]
      refine awp_ret ?_
      refine kRet.ret _ [] [(0 < 1)] (.tup [(true, [(.int .i64 n), (.ro (.arcs L))]), (false, [(.int .i64 0)])]) [] (by kernel_rfl) ⟨(by decide), trivial⟩ ?_
      exact ⟨by rw [show (okI (graphErr n es (-10000)) n) = n from Eq.symm (by first | exact hE.symm | exact (okI_ok _ hE).symm | exact (okL_ok _ hE).symm | (rw [okL_ok _ hE]; exact hfin)), show (okL (graphErr n es (-10000)) (es.map turnA)) = L from Eq.symm (by first | exact hE.symm | exact (okI_ok _ hE).symm | exact (okL_ok _ hE).symm | (rw [okL_ok _ hE]; exact hfin)), show (graphErr n es (-10000)) = 0 from Eq.symm (by first | exact hE.symm | exact (okI_ok _ hE).symm | exact (okL_ok _ hE).symm | (rw [okL_ok _ hE]; exact hfin))], rfl⟩

theorem graph_degrees (n : Int) (es : List Arc) : ACall Try.prog 37 [.agg [(.int .i64 n), (.ro (.arcs es))]] [] (fun ov oh => ov = .tup [(false, [(.ro (.ints .i64 (okL (graphErr n es (-10000)) (bump Arc.src n es))))]), (false, [(.ro (.ints .i64 (okL (graphErr n es (-10000)) (bump Arc.dst n es))))]), (false, [(.int .i64 (graphErr n es (-10000)))])] ∧ oh = []) := by
  refine acall_intro hT Try.func37 rfl (by kernel_rfl) rfl (by kernel_rfl) ?_
  refine awp_run_seq [1] [101] [] ⟨45, [(1, .one (.ptr 101 0 0))], [(101, .box 1 2 [(.int .i64 n), (.ro (.arcs es))])]⟩ hT (by kernel_rfl) trivial ?_
  refine awp_seq ?_
  refine awp_seq (awp_region ?_)
  refine aops_run 1 [1, 10] [101] [(0 < 1)] ⟨45, [(1, .one (.ptr 101 0 0)), (10, .agg [(.int .i64 n), (.ro (.arcs es))])], [(101, .box 1 2 [(.int .i64 n), (.ro (.arcs es))])]⟩ hT (by kernel_rfl) (by kernel_rfl) ⟨(by decide), trivial⟩ ?_
  refine aops_pure false ⟨true, [], 33, [.agg [(.int .i64 n), (.ro (.arcs es))]], []⟩ [.agg [(.int .i64 n), (.ro (.arcs es))]] (.one (.int .i64 (graphErr n es (-10000)))) ⟨45, [(1, .one (.ptr 101 0 0)), (10, .agg [(.int .i64 n), (.ro (.arcs es))]), (11, .one (.int .i64 (graphErr n es (-10000))))], [(101, .box 1 2 [(.int .i64 n), (.ro (.arcs es))])]⟩ (by kernel_rfl) (by kernel_rfl) (fun _ => trivial) rfl (fun _ => graph_CheckLong n es) ?_
  refine aops_run 1 [1, 5] [101] [] ⟨45, [(1, .one (.ptr 101 0 0)), (5, .one (.int .i64 (graphErr n es (-10000))))], [(101, .box 1 2 [(.int .i64 n), (.ro (.arcs es))])]⟩ hT (by kernel_rfl) (by kernel_rfl) trivial ?_
  refine aops_end_seq (by kernel_rfl) ?_
  refine awp_run_seq [1, 5, 13] [101] [] ⟨45, [(1, .one (.ptr 101 0 0)), (5, .one (.int .i64 (graphErr n es (-10000)))), (13, .one (.bool (decide ((graphErr n es (-10000)) ≠ 0))))], [(101, .box 1 2 [(.int .i64 n), (.ro (.arcs es))])]⟩ hT (by kernel_rfl) trivial ?_
  refine awp_cond (b := (decide ((graphErr n es (-10000)) ≠ 0))) (by kernel_rfl) (fun c2 => ?_) (fun c2 => ?_)
  · -- yes 2
    simp only [bs] at c2
    refine awp_run_seq [2, 3, 4] [] [] ⟨45, [(2, .one .nils), (3, .one .nils), (4, .one (.int .i64 (graphErr n es (-10000))))], []⟩ hT (by kernel_rfl) trivial ?_
    refine awp_weak (awk_slot 2 (.one .nils) (.one (.ro (.ints .i64 []))) _ (by kernel_rfl) (.one (wkv_nil0 rfl))) ?_
    refine awp_weak (awk_slot 3 (.one .nils) (.one (.ro (.ints .i64 []))) _ (by kernel_rfl) (.one (wkv_nil0 rfl))) ?_
    refine awp_ret ?_
    refine kRet.ret _ [] [] (.tup [(false, [(.ro (.ints .i64 []))]), (false, [(.ro (.ints .i64 []))]), (false, [(.int .i64 (graphErr n es (-10000)))])]) [] (by kernel_rfl) trivial ?_
    exact ⟨by rw [show (okL (graphErr n es (-10000)) (bump Arc.src n es)) = [] from Eq.symm (by first | exact (okI_no _ c2).symm | exact (okL_no _ c2).symm), show (okL (graphErr n es (-10000)) (bump Arc.dst n es)) = [] from Eq.symm (by first | exact (okI_no _ c2).symm | exact (okL_no _ c2).symm)], rfl⟩
  · -- no 2
    simp only [bs] at c2
    have hE : graphErr n es (-10000) = 0 := by omega
    have hok := graphErr_ok hE
    have h1 := hok.n1
    have h2 := hok.n2
    have h3 := hok.len
    refine awp_skip ?_
    -- 8 of 8 operations in any order; 1 orders of the rest
    refine awp_seq (awp_calm2 [] false [[], [0], [0, 1], [], [3], [3, 4], [0, 1, 2], [0, 1, 2, 3, 4, 5, 6]] 8 [1, 6, 7] [101, 117, 120] [(0, []), (1, [(0 < 1)]), (2, [((0 : Int) ≤ n), (n ≤ n), ((8 : Int) * n ≤ 281474976710656), (n ≤ 9223372036854775807)]), (3, []), (4, [(0 < 1)]), (5, [((0 : Int) ≤ n), (n ≤ n), ((8 : Int) * n ≤ 281474976710656), (n ≤ 9223372036854775807)]), (6, []), (7, [])] [] 1 ⟨45, [(1, .one (.ptr 101 0 0)), (6, .one (.rw 117 0 (Int.toNat n))), (7, .one (.rw 120 0 (Int.toNat n)))], [(101, .box 1 2 [(.int .i64 n), (.ro (.arcs es))]), (117, .flat (.ints .i64 (List.replicate (Int.toNat n) (0 : Int)))), (120, .flat (.ints .i64 (List.replicate (Int.toNat n) (0 : Int))))]⟩ (by kernel_rfl) (by kernel_rfl) hT (by kernel_rfl) (by kernel_rfl) ⟨trivial, ⟨(by decide), trivial⟩, ⟨(by first | omega | (simp only [lens]; omega)), (by first | omega | (simp only [lens]; omega)), (by first | omega | (simp only [lens]; omega)), (by first | omega | (simp only [lens]; omega)), trivial⟩, trivial, ⟨(by decide), trivial⟩, ⟨(by first | omega | (simp only [lens]; omega)), (by first | omega | (simp only [lens]; omega)), (by first | omega | (simp only [lens]; omega)), (by first | omega | (simp only [lens]; omega)), trivial⟩, trivial, trivial, trivial⟩ trivial ?_)
    refine awp_seq ?_
    refine awp_run_seq [6, 7, 22, 23, 24] [117, 120] [(0 < 1)] ⟨45, [(6, .one (.rw 117 0 (Int.toNat n))), (7, .one (.rw 120 0 (Int.toNat n))), (22, .one (.ro (.arcs es))), (23, .one (.int .i64 ((es.length : Nat) : Int))), (24, .one (.int .i64 0))], [(117, .flat (.ints .i64 (List.replicate (Int.toNat n) (0 : Int)))), (120, .flat (.ints .i64 (List.replicate (Int.toNat n) (0 : Int))))]⟩ hT (by kernel_rfl) ⟨(by decide), trivial⟩ ?_
    refine awp_block ?_
    refine awp_loop (I := fun κ σ => ∃ (i : Nat) (l m : List Int), ((i ≤ es.length) ∧ (l = bump Arc.src n (es.take i)) ∧ (m = bump Arc.dst n (es.take i)) ∧ es.length - i = κ) ∧ σ = ⟨45, [(6, .one (.rw 117 0 (Int.toNat n))), (7, .one (.rw 120 0 (Int.toNat n))), (22, .one (.ro (.arcs es))), (23, .one (.int .i64 ((es.length : Nat) : Int))), (24, .one (.int .i64 ((i : Nat) : Int)))], [(117, .flat (.ints .i64 l)), (120, .flat (.ints .i64 m))]⟩) _ ⟨0, (List.replicate (Int.toNat n) (0 : Int)), (List.replicate (Int.toNat n) (0 : Int)), ⟨(by omega), (by rfl), (by rfl), rfl⟩, (by kernel_rfl)⟩ ?_
    rintro κ _ ⟨i, l, m, ⟨hi, hl, hm, rfl⟩, rfl⟩
    have hll : l.length = n.toNat := by rw [hl]; exact (bump_all _ _ _).1
    have hml : m.length = n.toNat := by rw [hm]; exact (bump_all _ _ _).1
    refine awp_run_seq [6, 7, 22, 23, 24, 25] [117, 120] [] ⟨45, [(6, .one (.rw 117 0 (Int.toNat n))), (7, .one (.rw 120 0 (Int.toNat n))), (22, .one (.ro (.arcs es))), (23, .one (.int .i64 ((es.length : Nat) : Int))), (24, .one (.int .i64 ((i : Nat) : Int))), (25, .one (.bool (decide (((i : Nat) : Int) < ((es.length : Nat) : Int)))))], [(117, .flat (.ints .i64 l)), (120, .flat (.ints .i64 m))]⟩ hT (by kernel_rfl) trivial ?_
    refine awp_seq ?_
    refine awp_cond (b := (decide (((i : Nat) : Int) < ((es.length : Nat) : Int)))) (by kernel_rfl) (fun c6 => ?_) (fun c6 => ?_)
    · -- yes 6
      simp only [bs] at c6
      have ha := hok.at_ (i := i) (by omega)
      obtain ⟨a1, a2, a3, a4, _, _⟩ := ha
      have htl : (es.take i).length ≤ 60 := by simp; omega
      have hlb := (bump_all Arc.src n (es.take i)).2 (es.getD i default).src.toNat
      rw [← hl] at hlb
      have hmb := (bump_all Arc.dst n (es.take i)).2 (es.getD i default).dst.toNat
      rw [← hm] at hmb
      refine awp_skip ?_
      refine awp_seq ?_
      refine awp_block ?_
      refine awp_run_seq [6, 7, 9, 22, 23, 24] [109, 117, 120] [((0 : Int) ≤ ((i : Nat) : Int)), (((i : Nat) : Int) < ((es.length : Nat) : Int)), (0 < 1)] ⟨45, [(6, .one (.rw 117 0 (Int.toNat n))), (7, .one (.rw 120 0 (Int.toNat n))), (9, .one (.ptr 109 0 0)), (22, .one (.ro (.arcs es))), (23, .one (.int .i64 ((es.length : Nat) : Int))), (24, .one (.int .i64 ((i : Nat) : Int)))], [(109, .box 1 3 [(.int .i64 ((List.getD es i default).src)), (.int .i64 ((List.getD es i default).dst)), (.int .i64 ((List.getD es i default).cap))]), (117, .flat (.ints .i64 l)), (120, .flat (.ints .i64 m))]⟩ hT (by kernel_rfl) ⟨(by first | omega | (simp only [lens]; omega)), (by first | omega | (simp only [lens]; omega)), (by decide), trivial⟩ ?_
      refine awp_run_seq [6, 7, 9, 22, 23, 24] [109, 117, 120] [(0 < 1), ((0 : Int) ≤ ((List.getD es i default).src)), (((List.getD es i default).src) < (((Int.toNat n) : Nat) : Int)), ((Int.toNat ((List.getD es i default).src)) < l.length), (-9223372036854775808 ≤ ((List.getD l (Int.toNat ((List.getD es i default).src)) 0) + 1) ∧ ((List.getD l (Int.toNat ((List.getD es i default).src)) 0) + 1) ≤ 9223372036854775807), ((0 : Int) ≤ ((List.getD es i default).src)), (((List.getD es i default).src) < (((Int.toNat n) : Nat) : Int)), ((Int.toNat ((List.getD es i default).src)) < l.length)] ⟨45, [(6, .one (.rw 117 0 (Int.toNat n))), (7, .one (.rw 120 0 (Int.toNat n))), (9, .one (.ptr 109 0 0)), (22, .one (.ro (.arcs es))), (23, .one (.int .i64 ((es.length : Nat) : Int))), (24, .one (.int .i64 ((i : Nat) : Int)))], [(109, .box 1 3 [(.int .i64 ((List.getD es i default).src)), (.int .i64 ((List.getD es i default).dst)), (.int .i64 ((List.getD es i default).cap))]), (117, .flat (.ints .i64 (List.set l (Int.toNat ((List.getD es i default).src)) ((List.getD l (Int.toNat ((List.getD es i default).src)) 0) + 1)))), (120, .flat (.ints .i64 m))]⟩ hT (by kernel_rfl) ⟨(by decide), (by first | omega | (simp only [lens]; omega)), (by first | omega | (simp only [lens]; omega)), (by first | omega | (simp only [lens]; omega)), (by first | omega | (simp only [lens]; omega)), (by first | omega | (simp only [lens]; omega)), (by first | omega | (simp only [lens]; omega)), (by first | omega | (simp only [lens]; omega)), trivial⟩ ?_
      refine awp_run [6, 7, 22, 23, 24] [117, 120] [(0 < 1), ((0 : Int) ≤ ((List.getD es i default).dst)), (((List.getD es i default).dst) < (((Int.toNat n) : Nat) : Int)), ((Int.toNat ((List.getD es i default).dst)) < m.length), (-9223372036854775808 ≤ ((List.getD m (Int.toNat ((List.getD es i default).dst)) 0) + 1) ∧ ((List.getD m (Int.toNat ((List.getD es i default).dst)) 0) + 1) ≤ 9223372036854775807), ((0 : Int) ≤ ((List.getD es i default).dst)), (((List.getD es i default).dst) < (((Int.toNat n) : Nat) : Int)), ((Int.toNat ((List.getD es i default).dst)) < m.length)] ⟨45, [(6, .one (.rw 117 0 (Int.toNat n))), (7, .one (.rw 120 0 (Int.toNat n))), (22, .one (.ro (.arcs es))), (23, .one (.int .i64 ((es.length : Nat) : Int))), (24, .one (.int .i64 ((i : Nat) : Int)))], [(117, .flat (.ints .i64 (List.set l (Int.toNat ((List.getD es i default).src)) ((List.getD l (Int.toNat ((List.getD es i default).src)) 0) + 1)))), (120, .flat (.ints .i64 (List.set m (Int.toNat ((List.getD es i default).dst)) ((List.getD m (Int.toNat ((List.getD es i default).dst)) 0) + 1))))]⟩ hT (by kernel_rfl) ⟨(by decide), (by first | omega | (simp only [lens]; omega)), (by first | omega | (simp only [lens]; omega)), (by first | omega | (simp only [lens]; omega)), (by first | omega | (simp only [lens]; omega)), (by first | omega | (simp only [lens]; omega)), (by first | omega | (simp only [lens]; omega)), (by first | omega | (simp only [lens]; omega)), trivial⟩ ?_
      refine awp_run [6, 7, 22, 23, 24] [117, 120] [(-9223372036854775808 ≤ (((i + 1) : Nat) : Int) ∧ (((i + 1) : Nat) : Int) ≤ 9223372036854775807)] ⟨45, [(6, .one (.rw 117 0 (Int.toNat n))), (7, .one (.rw 120 0 (Int.toNat n))), (22, .one (.ro (.arcs es))), (23, .one (.int .i64 ((es.length : Nat) : Int))), (24, .one (.int .i64 (((i + 1) : Nat) : Int)))], [(117, .flat (.ints .i64 (List.set l (Int.toNat ((List.getD es i default).src)) ((List.getD l (Int.toNat ((List.getD es i default).src)) 0) + 1)))), (120, .flat (.ints .i64 (List.set m (Int.toNat ((List.getD es i default).dst)) ((List.getD m (Int.toNat ((List.getD es i default).dst)) 0) + 1))))]⟩ hT (by kernel_rfl) ⟨(by first | omega | (simp only [lens]; omega)), trivial⟩ ?_
      refine loop_end _ ?_ ⟨(i + 1), (List.set l (Int.toNat ((List.getD es i default).src)) ((List.getD l (Int.toNat ((List.getD es i default).src)) 0) + 1)), (List.set m (Int.toNat ((List.getD es i default).dst)) ((List.getD m (Int.toNat ((List.getD es i default).dst)) 0) + 1)), ⟨(by omega), (by rw [bump_step _ _ _ _ (by omega), ← hl]), (by rw [bump_step _ _ _ _ (by omega), ← hm]), rfl⟩, (by kernel_rfl)⟩
      omega
    · -- no 6
      simp only [bs] at c6
      have hfl : l = bump Arc.src n es := by rw [hl, List.take_of_length_le (by omega)]
      have hfm : m = bump Arc.dst n es := by rw [hm, List.take_of_length_le (by omega)]
      refine awp_exit ?_
      refine awp_run_seq [2, 3, 4] [117, 120] [] ⟨45, [(2, .one (.rw 117 0 (Int.toNat n))), (3, .one (.rw 120 0 (Int.toNat n))), (4, .one (.int .i64 0))], [(117, .flat (.ints .i64 l)), (120, .flat (.ints .i64 m))]⟩ hT (by kernel_rfl) trivial ?_
      refine awp_weak (awk_seal 117 (s' := ⟨45, [(2, .one (.ro (.ints .i64 (List.take (Int.toNat n) l)))), (3, .one (.rw 120 0 (Int.toNat n))), (4, .one (.int .i64 0))], [(120, .flat (.ints .i64 m))]⟩) (by kernel_rfl)) ?_
      rw [show (List.take (Int.toNat n) l) = l from List.take_of_length_le (by first | omega | simp)]
      refine awp_weak (awk_seal 120 (s' := ⟨45, [(2, .one (.ro (.ints .i64 l))), (3, .one (.ro (.ints .i64 (List.take (Int.toNat n) m)))), (4, .one (.int .i64 0))], []⟩) (by kernel_rfl)) ?_
      rw [show (List.take (Int.toNat n) m) = m from List.take_of_length_le (by first | omega | simp)]
      refine awp_ret ?_
      refine kRet.ret _ [] [] (.tup [(false, [(.ro (.ints .i64 l))]), (false, [(.ro (.ints .i64 m))]), (false, [(.int .i64 0)])]) [] (by kernel_rfl) trivial ?_
      exact ⟨by rw [show (okL (graphErr n es (-10000)) (bump Arc.src n es)) = l from Eq.symm (by first | exact hE.symm | exact (okI_ok _ hE).symm | exact (okL_ok _ hE).symm | (rw [okL_ok _ hE]; exact hfl) | (rw [okL_ok _ hE]; exact hfm)), show (okL (graphErr n es (-10000)) (bump Arc.dst n es)) = m from Eq.symm (by first | exact hE.symm | exact (okI_ok _ hE).symm | exact (okL_ok _ hE).symm | (rw [okL_ok _ hE]; exact hfl) | (rw [okL_ok _ hE]; exact hfm)), show (graphErr n es (-10000)) = 0 from Eq.symm (by first | exact hE.symm | exact (okI_ok _ hE).symm | exact (okL_ok _ hE).symm | (rw [okL_ok _ hE]; exact hfl) | (rw [okL_ok _ hE]; exact hfm))], rfl⟩

theorem graph_without (n k : Int) (es : List Arc) : ACall Try.prog 38 [.agg [(.int .i64 n), (.ro (.arcs es))], .one (.int .i64 k)] [] (fun ov oh => ov = .tup [(true, [(.int .i64 (okI (dropErr n es k) n)), (.ro (.arcs (okL (dropErr n es k) (without es k))))]), (false, [(.int .i64 (dropErr n es k))])] ∧ oh = []) := by
  refine acall_intro hT Try.func38 rfl (by kernel_rfl) rfl (by kernel_rfl) ?_
  refine awp_run_seq [1, 2, 4] [102, 104] [] ⟨37, [(1, .one (.int .i64 k)), (2, .one (.ptr 102 0 0)), (4, .one (.ptr 104 0 0))], [(102, .box 1 2 [(.int .i64 n), (.ro (.arcs es))]), (104, .box 1 2 [(.int .i64 0), .nils])]⟩ hT (by kernel_rfl) trivial ?_
  refine awp_seq ?_
  refine awp_seq (awp_region ?_)
  refine aops_run 1 [1, 2, 4, 7] [102, 104] [(0 < 1)] ⟨37, [(1, .one (.int .i64 k)), (2, .one (.ptr 102 0 0)), (4, .one (.ptr 104 0 0)), (7, .agg [(.int .i64 n), (.ro (.arcs es))])], [(102, .box 1 2 [(.int .i64 n), (.ro (.arcs es))]), (104, .box 1 2 [(.int .i64 0), .nils])]⟩ hT (by kernel_rfl) (by kernel_rfl) ⟨(by decide), trivial⟩ ?_
  refine aops_pure false ⟨true, [], 33, [.agg [(.int .i64 n), (.ro (.arcs es))]], []⟩ [.agg [(.int .i64 n), (.ro (.arcs es))]] (.one (.int .i64 (graphErr n es (-10000)))) ⟨37, [(1, .one (.int .i64 k)), (2, .one (.ptr 102 0 0)), (4, .one (.ptr 104 0 0)), (7, .agg [(.int .i64 n), (.ro (.arcs es))]), (8, .one (.int .i64 (graphErr n es (-10000))))], [(102, .box 1 2 [(.int .i64 n), (.ro (.arcs es))]), (104, .box 1 2 [(.int .i64 0), .nils])]⟩ (by kernel_rfl) (by kernel_rfl) (fun _ => trivial) rfl (fun _ => graph_CheckLong n es) ?_
  refine aops_run 1 [1, 2, 4, 6] [102, 104] [] ⟨37, [(1, .one (.int .i64 k)), (2, .one (.ptr 102 0 0)), (4, .one (.ptr 104 0 0)), (6, .one (.int .i64 (graphErr n es (-10000))))], [(102, .box 1 2 [(.int .i64 n), (.ro (.arcs es))]), (104, .box 1 2 [(.int .i64 0), .nils])]⟩ hT (by kernel_rfl) (by kernel_rfl) trivial ?_
  refine aops_end_seq (by kernel_rfl) ?_
  refine awp_run_seq [1, 2, 4, 6, 10] [102, 104] [] ⟨37, [(1, .one (.int .i64 k)), (2, .one (.ptr 102 0 0)), (4, .one (.ptr 104 0 0)), (6, .one (.int .i64 (graphErr n es (-10000)))), (10, .one (.bool (decide ((graphErr n es (-10000)) ≠ 0))))], [(102, .box 1 2 [(.int .i64 n), (.ro (.arcs es))]), (104, .box 1 2 [(.int .i64 0), .nils])]⟩ hT (by kernel_rfl) trivial ?_
  refine awp_cond (b := (decide ((graphErr n es (-10000)) ≠ 0))) (by kernel_rfl) (fun c2 => ?_) (fun c2 => ?_)
  · -- yes 2
    simp only [bs] at c2
    have hD : dropErr n es k = graphErr n es (-10000) := if_pos c2
    have hD0 : dropErr n es k ≠ 0 := by rw [hD]; exact c2
    refine awp_run_seq [4, 5] [104] [(0 < 1)] ⟨37, [(4, .one (.ptr 104 0 0)), (5, .one (.int .i64 (graphErr n es (-10000))))], [(104, .box 1 2 [(.int .i64 0), .nils])]⟩ hT (by kernel_rfl) ⟨(by decide), trivial⟩ ?_
    refine awp_weak (awk_boxcell 104 1 1 2 [(.int .i64 0), .nils] (.nils) ((.ro (.arcs []))) _ (by kernel_rfl) rfl (wkv_nil0 rfl)) ?_
    refine awp_ret ?_
    refine kRet.ret _ [] [(0 < 1)] (.tup [(true, [(.int .i64 0), (.ro (.arcs []))]), (false, [(.int .i64 (graphErr n es (-10000)))])]) [] (by kernel_rfl) ⟨(by decide), trivial⟩ ?_
    exact ⟨by rw [show (okI (dropErr n es k) n) = 0 from Eq.symm (by first | exact hD.symm | exact (okI_no _ hD0).symm | exact (okL_no _ hD0).symm), show (okL (dropErr n es k) (without es k)) = [] from Eq.symm (by first | exact hD.symm | exact (okI_no _ hD0).symm | exact (okL_no _ hD0).symm), show (dropErr n es k) = (graphErr n es (-10000)) from Eq.symm (by first | exact hD.symm | exact (okI_no _ hD0).symm | exact (okL_no _ hD0).symm)], rfl⟩
  · -- no 2
    simp only [bs] at c2
    have hE : graphErr n es (-10000) = 0 := by omega
    have hok := graphErr_ok hE
    have h1 := hok.n1
    have h2 := hok.n2
    have h3 := hok.len
    refine awp_skip ?_
    refine awp_seq ?_
    refine awp_run_seq [1, 2, 4, 21] [102, 104] [((!(decide (k < 0))) = true → ((!(decide (k < 0))) = true → (!(decide (k < 0))) = true)), ((!(decide (k < 0))) = true → (0 < 1)), ((!(decide (k < 0))) = true → ((!(decide (k < 0))) = true → (!(decide (k < 0))) = true)), ((!(decide (k < 0))) = true → ((!(decide (k < 0))) = true → (!(decide (k < 0))) = true)), ((!(decide (k < 0))) = true → ((!(decide (k < 0))) = true → (!(decide (k < 0))) = true)), ((!(decide (k < 0))) = true → (!(decide (k < 0))) = true)] ⟨37, [(1, .one (.int .i64 k)), (2, .one (.ptr 102 0 0)), (4, .one (.ptr 104 0 0)), (21, .one (.bool ((decide (k < 0)) || (decide (((es.length : Nat) : Int) ≤ k)))))], [(102, .box 1 2 [(.int .i64 n), (.ro (.arcs es))]), (104, .box 1 2 [(.int .i64 0), .nils])]⟩ hT (by kernel_rfl) ⟨(by intro hg; first | exact hg | skip; (try simp only [bs] at hg ⊢); first | exact hg | first | omega | (simp only [lens]; omega) | grind), (by intro hg; first | exact hg | skip; (try simp only [bs] at hg); first | exact hg | first | omega | (simp only [lens]; omega) | grind), (by intro hg; first | exact hg | skip; (try simp only [bs] at hg ⊢); first | exact hg | first | omega | (simp only [lens]; omega) | grind), (by intro hg; first | exact hg | skip; (try simp only [bs] at hg ⊢); first | exact hg | first | omega | (simp only [lens]; omega) | grind), (by intro hg; first | exact hg | skip; (try simp only [bs] at hg ⊢); first | exact hg | first | omega | (simp only [lens]; omega) | grind), (fun h => h), trivial⟩ ?_
    refine awp_cond (b := ((decide (k < 0)) || (decide (((es.length : Nat) : Int) ≤ k)))) (by kernel_rfl) (fun c4 => ?_) (fun c4 => ?_)
    · -- yes 4
      simp only [bs] at c4
      have hD : dropErr n es k = 5 := by rw [dropErr, if_neg c2, if_pos (by omega)]
      have hD0 : dropErr n es k ≠ 0 := by omega
      refine awp_run_seq [4, 5] [104] [(0 < 1)] ⟨37, [(4, .one (.ptr 104 0 0)), (5, .one (.int .i64 5))], [(104, .box 1 2 [(.int .i64 0), .nils])]⟩ hT (by kernel_rfl) ⟨(by decide), trivial⟩ ?_
      refine awp_weak (awk_boxcell 104 1 1 2 [(.int .i64 0), .nils] (.nils) ((.ro (.arcs []))) _ (by kernel_rfl) rfl (wkv_nil0 rfl)) ?_
      refine awp_ret ?_
      refine kRet.ret _ [] [(0 < 1)] (.tup [(true, [(.int .i64 0), (.ro (.arcs []))]), (false, [(.int .i64 5)])]) [] (by kernel_rfl) ⟨(by decide), trivial⟩ ?_
      exact ⟨by rw [show (okI (dropErr n es k) n) = 0 from Eq.symm (by first | exact hD.symm | exact (okI_no _ hD0).symm | exact (okL_no _ hD0).symm), show (okL (dropErr n es k) (without es k)) = [] from Eq.symm (by first | exact hD.symm | exact (okI_no _ hD0).symm | exact (okL_no _ hD0).symm), show (dropErr n es k) = 5 from Eq.symm (by first | exact hD.symm | exact (okI_no _ hD0).symm | exact (okL_no _ hD0).symm)], rfl⟩
    · -- no 4
      simp only [bs] at c4
      have hD : dropErr n es k = 0 := by rw [dropErr, if_neg c2, if_neg (by omega)]
      refine awp_skip ?_
      -- 14 of 16 operations in any order; 1 orders of the rest
      refine awp_seq (awp_calm2 [(12, ⟨[.one (.rs (.arows [(List.take (Int.toNat k) es), (List.drop (Int.toNat (k + 1)) (List.take es.length es))]))], .one (.rw 9001 0 (List.length (List.flatten [(List.take (Int.toNat k) es), (List.drop (Int.toNat (k + 1)) (List.take es.length es))]))), [(9001, .flat (.arcs (List.flatten [(List.take (Int.toNat k) es), (List.drop (Int.toNat (k + 1)) (List.take es.length es))])))], [(9001, 135)]⟩)] true [[], [0], [], [2], [], [2, 3, 4], [], [6], [], [8], [6, 7, 8, 9], [2, 3, 4, 5, 6, 7, 8, 9, 10], [2, 3, 4, 5, 6, 7, 8, 9, 10, 11], [0, 1, 2, 3, 4, 5, 6, 7, 8, 9, 10, 11, 12], [0, 1, 2, 3, 4, 5, 6, 7, 8, 9, 10, 11, 12, 13], [0, 1, 2, 3, 4, 5, 6, 7, 8, 9, 10, 11, 12, 13, 14]] 14 [4, 5] [104, 135] [(0, []), (1, [(0 < 1)]), (2, []), (3, [(0 < 1)]), (4, []), (5, [((0 : Int) ≤ 0), ((0 : Int) ≤ k), (k ≤ ((es.length : Nat) : Int))]), (6, []), (7, [(0 < 1)]), (8, []), (9, [(-9223372036854775808 ≤ (k + 1) ∧ (k + 1) ≤ 9223372036854775807)]), (10, [((0 : Int) ≤ (k + 1)), ((k + 1) ≤ ((es.length : Nat) : Int)), (((es.length : Nat) : Int) ≤ ((es.length : Nat) : Int))]), (11, []), (12, [(AllP [] ∧ [.one (.rs (.arows [(List.take (Int.toNat k) es), (List.drop (Int.toNat (k + 1)) (List.take es.length es))]))] = ([.one (.rs (.arows [(List.take (Int.toNat k) es), (List.drop (Int.toNat (k + 1)) (List.take es.length es))]))] : List AV) ∧ ACall Try.prog 40 [.one (.rs (.arows [(List.take (Int.toNat k) es), (List.drop (Int.toNat (k + 1)) (List.take es.length es))]))] [] (fun ov oh => ov = .one (.rw 9001 0 (List.length (List.flatten [(List.take (Int.toNat k) es), (List.drop (Int.toNat (k + 1)) (List.take es.length es))]))) ∧ oh = [(9001, .flat (.arcs (List.flatten [(List.take (Int.toNat k) es), (List.drop (Int.toNat (k + 1)) (List.take es.length es))])))]))]), (13, [])] [(14, [(0 < 1)]), (15, [])] 1 ⟨37, [(4, .one (.ptr 104 0 0)), (5, .one (.int .i64 0))], [(104, .box 1 2 [(.int .i64 n), (.rw 135 0 (List.length (List.flatten [(List.take (Int.toNat k) es), (List.drop (Int.toNat (k + 1)) (List.take es.length es))])))]), (135, .flat (.arcs (List.flatten [(List.take (Int.toNat k) es), (List.drop (Int.toNat (k + 1)) (List.take es.length es))])))]⟩ (by kernel_rfl) (by kernel_rfl) hT (by kernel_rfl) (by kernel_rfl) ⟨trivial, ⟨(by decide), trivial⟩, trivial, ⟨(by decide), trivial⟩, trivial, ⟨(by first | omega | (simp only [lens]; omega)), (by first | omega | (simp only [lens]; omega)), (by first | omega | (simp only [lens]; omega)), trivial⟩, trivial, ⟨(by decide), trivial⟩, trivial, ⟨(by first | omega | (simp only [lens]; omega)), trivial⟩, ⟨(by first | omega | (simp only [lens]; omega)), (by first | omega | (simp only [lens]; omega)), (by first | omega | (simp only [lens]; omega)), trivial⟩, trivial, ⟨⟨trivial, rfl, concat_arcs [(List.take (Int.toNat k) es), (List.drop (Int.toNat (k + 1)) (List.take es.length es))] (by first | omega | (simp; omega))⟩, trivial⟩, trivial, trivial⟩ ⟨⟨(by decide), trivial⟩, trivial, trivial⟩ ?_)
      refine awp_weak (awk_seal 135 (s' := ⟨37, [(4, .one (.ptr 104 0 0)), (5, .one (.int .i64 0))], [(104, .box 1 2 [(.int .i64 n), (.ro (.arcs (List.take (List.length (List.flatten [(List.take (Int.toNat k) es), (List.drop (Int.toNat (k + 1)) (List.take es.length es))])) (List.flatten [(List.take (Int.toNat k) es), (List.drop (Int.toNat (k + 1)) (List.take es.length es))]))))])]⟩) (by kernel_rfl)) ?_
      rw [show (List.take (List.length (List.flatten [(List.take (Int.toNat k) es), (List.drop (Int.toNat (k + 1)) (List.take es.length es))])) (List.flatten [(List.take (Int.toNat k) es), (List.drop (Int.toNat (k + 1)) (List.take es.length es))])) = (List.flatten [(List.take (Int.toNat k) es), (List.drop (Int.toNat (k + 1)) (List.take es.length es))]) from List.take_of_length_le (by first | omega | simp)]
      refine awp_ret ?_
      refine kRet.ret _ [] [(0 < 1)] (.tup [(true, [(.int .i64 n), (.ro (.arcs (List.flatten [(List.take (Int.toNat k) es), (List.drop (Int.toNat (k + 1)) (List.take es.length es))])))]), (false, [(.int .i64 0)])]) [] (by kernel_rfl) ⟨(by decide), trivial⟩ ?_
      exact ⟨by rw [show (okI (dropErr n es k) n) = n from Eq.symm (by first | exact hD.symm | exact (okI_ok _ hD).symm | (rw [okL_ok _ hD]; simp [without]; omega)), show (okL (dropErr n es k) (without es k)) = (List.flatten [(List.take (Int.toNat k) es), (List.drop (Int.toNat (k + 1)) (List.take es.length es))]) from Eq.symm (by first | exact hD.symm | exact (okI_ok _ hD).symm | (rw [okL_ok _ hD]; simp [without]; omega)), show (dropErr n es k) = 0 from Eq.symm (by first | exact hD.symm | exact (okI_ok _ hD).symm | (rw [okL_ok _ hD]; simp [without]; omega))], rfl⟩

theorem same_graph (n : Int) (es : List Arc) (m : Int) (fs : List Arc) : ACall Try.prog 39 [.agg [(.int .i64 n), (.ro (.arcs es))], .agg [(.int .i64 m), (.ro (.arcs fs))]] [] (fun ov oh => ov = .one (.bool (decide (n = m ∧ es = fs))) ∧ oh = []) := by
  refine acall_intro hT Try.func39 rfl (by kernel_rfl) rfl (by kernel_rfl) ?_
  refine awp_run_seq [2, 3] [102, 103] [] ⟨17, [(2, .one (.ptr 102 0 0)), (3, .one (.ptr 103 0 0))], [(102, .box 1 2 [(.int .i64 n), (.ro (.arcs es))]), (103, .box 1 2 [(.int .i64 m), (.ro (.arcs fs))])]⟩ hT (by kernel_rfl) trivial ?_
  refine awp_seq (awp_region ?_)
  refine aops_run 10 [10, 12, 14] [] [(0 < 1), (0 < 1), ((decide (n = m)) = true → ((decide (n = m)) = true → (decide (n = m)) = true)), ((decide (n = m)) = true → (0 < 1)), ((decide (n = m)) = true → ((decide (n = m)) = true → (decide (n = m)) = true)), ((decide (n = m)) = true → (0 < 1))] ⟨17, [(10, .one (.bool (decide (n = m)))), (12, .whn (decide (n = m)) (.one (.ro (.arcs es)))), (14, .whn (decide (n = m)) (.one (.ro (.arcs fs))))], []⟩ hT (by kernel_rfl) (by kernel_rfl) ⟨(by decide), (by decide), (by intro hg; first | exact hg | skip; (try simp only [bs] at hg ⊢); first | exact hg | first | omega | (simp only [lens]; omega) | grind), (by intro hg; first | exact hg | skip; (try simp only [bs] at hg); first | exact hg | first | omega | (simp only [lens]; omega) | grind), (by intro hg; first | exact hg | skip; (try simp only [bs] at hg ⊢); first | exact hg | first | omega | (simp only [lens]; omega) | grind), (by intro hg; first | exact hg | skip; (try simp only [bs] at hg); first | exact hg | first | omega | (simp only [lens]; omega) | grind), trivial⟩ ?_
  refine aops_pure false ⟨(decide (n = m)), [((decide (n = m)) = true → (decide (n = m)) = true), ((decide (n = m)) = true → (decide (n = m)) = true)], 82, [.one (.ro (.arcs es)), .one (.ro (.arcs fs))], []⟩ [.one (.ro (.arcs es)), .one (.ro (.arcs fs))] (.one (.bool (decide (es = fs)))) ⟨17, [(10, .one (.bool (decide (n = m)))), (12, .whn (decide (n = m)) (.one (.ro (.arcs es)))), (14, .whn (decide (n = m)) (.one (.ro (.arcs fs)))), (15, .whn (decide (n = m)) (.one (.bool (decide (es = fs)))))], []⟩ (by kernel_rfl) (by kernel_rfl) (fun _ => ⟨(fun h => h), (fun h => h), trivial⟩) rfl (fun _ => same_arcs es fs) ?_
  refine aops_run 2 [4] [] [((decide (n = m)) = true → (decide (n = m)) = true)] ⟨17, [(4, .one (.bool ((decide (n = m)) && (decide (es = fs)))))], []⟩ hT (by kernel_rfl) (by kernel_rfl) ⟨(fun h => h), trivial⟩ ?_
  refine aops_end_seq (by kernel_rfl) ?_
  refine awp_ret ?_
  refine kRet.ret _ [] [] (.one (.bool ((decide (n = m)) && (decide (es = fs))))) [] (by kernel_rfl) trivial ?_
  exact ⟨congrArg (fun x1 => (.one (.bool x1) : AV)) (show ((decide (n = m)) && (decide (es = fs))) = (decide (n = m ∧ es = fs)) from by (simp only [Bool.decide_and])), rfl⟩

end Go.Ab
