/- TopTrees returns true. -/
import Derived.Test.YtakfbagokponeaaTab
import Derived.Test.YtakfbagokponeaaTop0
import Derived.Test.YtakfbagokponeaaTree1
import Derived.Test.YtakfbagokponeaaCount1
import Derived.Test.YtakfbagokponeaaCol1
import Derived.Test.YtakfbagokponeaaG1
import Derived.Test.YtakfbagokponeaaF2
import Derived.Test.YtakfbagokponeaaPlB
import Derived.Test.YtakfbagokponeaaWalk2
import Derived.Test.YtakfbagokponeaaWalk4
import Derived.Test.YtakfbagokponeaaPlTopT
import Derived.Test.YtakfbagokponeaaDag
set_option maxRecDepth 100000
namespace Go.Ab
open Go Go.Proofs
theorem ref_rest (a m : Int) (h0 : 0 < m) (h1 : m ≤ 100) : ACall Try.prog 23 [.one (.int .i64 a), .one (.int .i64 m)] [] (fun ov oh => ov = .one (.int .i64 (restI a m)) ∧ oh = []) := by
  refine acall_intro hT Try.func23 rfl (by kernel_rfl) rfl (by kernel_rfl) ?_
  have ht1 := Int.tmod_lt_of_pos a h0
  have ht2 := Int.lt_tmod_of_pos a h0
  refine awp_run_seq [0, 1] [] [] ⟨14, [(0, .one (.int .i64 a)), (1, .one (.int .i64 m))], []⟩ hT (by kernel_rfl) trivial ?_
  refine awp_run_seq [0, 1] [] [(m ≠ (0 : Int))] ⟨14, [(0, .one (.int .i64 (Int.tmod a m))), (1, .one (.int .i64 m))], []⟩ hT (by kernel_rfl) ⟨(by omega), trivial⟩ ?_
  refine awp_seq ?_
  refine awp_run_seq [0, 1, 9] [] [] ⟨14, [(0, .one (.int .i64 (Int.tmod a m))), (1, .one (.int .i64 m)), (9, .one (.bool (decide ((Int.tmod a m) < 0))))], []⟩ hT (by kernel_rfl) trivial ?_
  refine awp_cond (b := (decide ((Int.tmod a m) < 0))) (by kernel_rfl) (fun c2 => ?_) (fun c2 => ?_)
  ·
    try simp only [bs] at c2
    refine awp_run [0] [] [(-9223372036854775808 ≤ ((Int.tmod a m) + m) ∧ ((Int.tmod a m) + m) ≤ 9223372036854775807)] ⟨14, [(0, .one (.int .i64 ((Int.tmod a m) + m)))], []⟩ hT (by kernel_rfl) ⟨(by omega), trivial⟩ ?_
    refine awp_run_seq [4] [] [] ⟨14, [(4, .one (.int .i64 ((Int.tmod a m) + m)))], []⟩ hT (by kernel_rfl) trivial ?_
    refine awp_ret ?_
    refine kRet.ret _ [] [] (.one (.int .i64 ((Int.tmod a m) + m))) [] (by kernel_rfl) trivial ?_
    exact ⟨congrArg (fun x1 => (.one (.int .i64 x1) : AV)) (show ((Int.tmod a m) + m) = (restI a m) from by first | (rw [restI, if_pos c2]; done) | (rw [restI, if_neg c2])), rfl⟩
  ·
    try simp only [bs] at c2
    refine awp_skip ?_
    refine awp_run_seq [4] [] [] ⟨14, [(4, .one (.int .i64 (Int.tmod a m)))], []⟩ hT (by kernel_rfl) trivial ?_
    refine awp_ret ?_
    refine kRet.ret _ [] [] (.one (.int .i64 (Int.tmod a m))) [] (by kernel_rfl) trivial ?_
    exact ⟨congrArg (fun x1 => (.one (.int .i64 x1) : AV)) (show (Int.tmod a m) = (restI a m) from by first | (rw [restI, if_pos c2]; done) | (rw [restI, if_neg c2])), rfl⟩
theorem topTrees_law (l : List Int) (s t : Int) (hsz : l.length * 8 ≤ 140737488355328) : ACall Try.prog 5 [.one (.ro (.ints .i64 l)), .one (.int .i64 s), .one (.int .i64 t)] [] (fun ov oh => ov = .one (.bool true) ∧ oh = []) := by
  refine acall_intro hT Try.func5 rfl (by kernel_rfl) rfl (by kernel_rfl) ?_
  refine awp_run_seq [0, 1, 2] [] [] ⟨162, [(0, .one (.ro (.ints .i64 l))), (1, .one (.int .i64 s)), (2, .one (.int .i64 t))], []⟩ hT (by kernel_rfl) trivial ?_
  refine awp_seq (awp_region ?_)
  refine aops_run 1 [1, 2, 24] [] [] ⟨162, [(1, .one (.int .i64 s)), (2, .one (.int .i64 t)), (24, .one (.ro (.ints .i64 l)))], []⟩ hT (by kernel_rfl) (by kernel_rfl) trivial ?_
  refine aops_pure false ⟨true, [], 21, [.one (.ro (.ints .i64 l))], []⟩ [.one (.ro (.ints .i64 l))] (.tup [(true, [(.int .i64 (okI (decErr l) (((l.length : Nat) : Int) + 2))), (.ro (.arcs (okL (decErr l) (decT (cntL (l.length + 2) l) l))))]), (false, [(.int .i64 (decErr l))])]) ⟨162, [(1, .one (.int .i64 s)), (2, .one (.int .i64 t)), (24, .one (.ro (.ints .i64 l))), (25, .tup [(true, [(.int .i64 (okI (decErr l) (((l.length : Nat) : Int) + 2))), (.ro (.arcs (okL (decErr l) (decT (cntL (l.length + 2) l) l))))]), (false, [(.int .i64 (decErr l))])])], []⟩ (by kernel_rfl) (by kernel_rfl) (fun _ => trivial) rfl (fun _ => tree_decode l (by assumption)) ?_
  refine aops_run 6 [1, 2, 7, 8] [107] [(0 < 1)] ⟨162, [(1, .one (.int .i64 s)), (2, .one (.int .i64 t)), (7, .one (.ptr 107 0 0)), (8, .one (.int .i64 (decErr l)))], [(107, .box 1 2 [(.int .i64 (okI (decErr l) (((l.length : Nat) : Int) + 2))), (.ro (.arcs (okL (decErr l) (decT (cntL (l.length + 2) l) l))))])]⟩ hT (by kernel_rfl) (by kernel_rfl) ⟨(by decide), trivial⟩ ?_
  refine aops_end_seq (by kernel_rfl) ?_
  refine awp_seq ?_
  refine awp_seq (awp_region ?_)
  refine aops_pure false ⟨true, [], 22, [], []⟩ [] (.one (.bool true)) ⟨162, [(1, .one (.int .i64 s)), (2, .one (.int .i64 t)), (7, .one (.ptr 107 0 0)), (8, .one (.int .i64 (decErr l))), (28, .one (.bool true))], [(107, .box 1 2 [(.int .i64 (okI (decErr l) (((l.length : Nat) : Int) + 2))), (.ro (.arcs (okL (decErr l) (decT (cntL (l.length + 2) l) l))))])]⟩ (by kernel_rfl) (by kernel_rfl) (fun _ => trivial) rfl (fun _ => top_works) ?_
  refine aops_run 10 [1, 2, 7, 38] [107] [(true = true → (true = true → true = true)), (true = true → true = true), ((!(decide ((decErr l) ≠ 0))) = true → ((!(decide ((decErr l) ≠ 0))) = true → (!(decide ((decErr l) ≠ 0))) = true)), ((!(decide ((decErr l) ≠ 0))) = true → (0 < 1)), ((!(decide ((decErr l) ≠ 0))) = true → ((!(decide ((decErr l) ≠ 0))) = true → (!(decide ((decErr l) ≠ 0))) = true)), ((!(decide ((decErr l) ≠ 0))) = true → (!(decide ((decErr l) ≠ 0))) = true)] ⟨162, [(1, .one (.int .i64 s)), (2, .one (.int .i64 t)), (7, .one (.ptr 107 0 0)), (38, .one (.bool ((decide ((decErr l) ≠ 0)) || (decide ((8 : Int) < (okI (decErr l) (((l.length : Nat) : Int) + 2)))))))], [(107, .box 1 2 [(.int .i64 (okI (decErr l) (((l.length : Nat) : Int) + 2))), (.ro (.arcs (okL (decErr l) (decT (cntL (l.length + 2) l) l))))])]⟩ hT (by kernel_rfl) (by kernel_rfl) ⟨(fun _ => (fun h => h)), (fun h => h), (by intro hg; first | exact hg | skip; (try simp only [bs] at hg ⊢); first | exact hg | first | omega | (simp only [lens]; omega) | (simp only [Bool.cond_decide]; omega) | (simp only [nadd_eq]; omega) | grind), (by intro hg; first | exact hg | skip; (try simp only [bs] at hg); first | exact hg | first | omega | (simp only [lens]; omega) | (simp only [Bool.cond_decide]; omega) | (simp only [nadd_eq]; omega) | grind), (by intro hg; first | exact hg | skip; (try simp only [bs] at hg ⊢); first | exact hg | first | omega | (simp only [lens]; omega) | (simp only [Bool.cond_decide]; omega) | (simp only [nadd_eq]; omega) | grind), (fun h => h), trivial⟩ ?_
  refine aops_end_seq (by kernel_rfl) ?_
  refine awp_cond (b := ((decide ((decErr l) ≠ 0)) || (decide ((8 : Int) < (okI (decErr l) (((l.length : Nat) : Int) + 2)))))) (by kernel_rfl) (fun c2 => ?_) (fun c2 => ?_)
  ·
    try simp only [bs] at c2
    refine awp_seq (awp_region ?_)
    refine aops_pure false ⟨true, [], 22, [], []⟩ [] (.one (.bool true)) ⟨162, [(1, .one (.int .i64 s)), (2, .one (.int .i64 t)), (7, .one (.ptr 107 0 0)), (38, .one (.bool ((decide ((decErr l) ≠ 0)) || (decide ((8 : Int) < (okI (decErr l) (((l.length : Nat) : Int) + 2))))))), (39, .one (.bool true))], [(107, .box 1 2 [(.int .i64 (okI (decErr l) (((l.length : Nat) : Int) + 2))), (.ro (.arcs (okL (decErr l) (decT (cntL (l.length + 2) l) l))))])]⟩ (by kernel_rfl) (by kernel_rfl) (fun _ => trivial) rfl (fun _ => top_works) ?_
    refine aops_run 1 [6] [] [] ⟨162, [(6, .one (.bool true))], []⟩ hT (by kernel_rfl) (by kernel_rfl) trivial ?_
    refine aops_end_seq (by kernel_rfl) ?_
    refine awp_ret ?_
    refine kRet.ret _ [] [] (.one (.bool true)) [] (by kernel_rfl) trivial ?_
    exact ⟨rfl, rfl⟩
  ·
    try simp only [bs] at c2
    have hD : (decErr l) = 0 := by omega
    obtain ⟨nN, hn⟩ : ∃ x, (okI (decErr l) (((l.length : Nat) : Int) + 2)) = x := ⟨_, rfl⟩
    obtain ⟨eS, hes⟩ : ∃ x, (okL (decErr l) (decT (cntL (l.length + 2) l) l)) = x := ⟨_, rfl⟩
    have h8 : nN ≤ 8 := by rw [hn] at c2; omega
    have hg := decG hD hn hes h8
    have h2 := hg.n2
    have hel := hg.len
    have hA := hg.inR
    obtain ⟨uU, hu⟩ : ∃ x, restI s nN = x := ⟨_, rfl⟩
    obtain ⟨vV, hv⟩ : ∃ x, restI t nN = x := ⟨_, rfl⟩
    have hu2 := restI_in (a := s) (m := nN) (by omega)
    have hv2 := restI_in (a := t) (m := nN) (by omega)
    rw [hu] at hu2
    rw [hv] at hv2
    obtain ⟨hu0, hu1⟩ := hu2
    obtain ⟨hv0, hv1⟩ := hv2
    refine awp_skip ?_
    rw [show (okI (decErr l) (((l.length : Nat) : Int) + 2)) = nN from hn]
    rw [show (okL (decErr l) (decT (cntL (l.length + 2) l) l)) = eS from hes]
    refine awp_seq (awp_calm2 [(3, ⟨[.one (.int .i64 s), .one (.int .i64 nN)], .one (.int .i64 (restI s nN)), [], []⟩), (7, ⟨[.one (.int .i64 t), .one (.int .i64 nN)], .one (.int .i64 (restI t nN)), [], []⟩)] false [[], [], [1], [0, 1, 2], [], [], [5], [0, 1, 2, 3, 4, 5, 6], [0, 1, 2, 3, 4, 5, 6, 7], [0, 1, 2, 3, 4, 5, 6, 7, 8]] 10 [1, 2, 7] [107] [(0, []), (1, []), (2, [(0 < 1)]), (3, [(true = true → (AllP [] ∧ [.one (.int .i64 s), .one (.int .i64 nN)] = ([.one (.int .i64 s), .one (.int .i64 nN)] : List AV) ∧ ACall Try.prog 23 [.one (.int .i64 s), .one (.int .i64 nN)] [] (fun ov oh => ov = .one (.int .i64 (restI s nN)) ∧ oh = [])))]), (4, []), (5, []), (6, [(0 < 1)]), (7, [(true = true → (AllP [] ∧ [.one (.int .i64 t), .one (.int .i64 nN)] = ([.one (.int .i64 t), .one (.int .i64 nN)] : List AV) ∧ ACall Try.prog 23 [.one (.int .i64 t), .one (.int .i64 nN)] [] (fun ov oh => ov = .one (.int .i64 (restI t nN)) ∧ oh = [])))]), (8, []), (9, [])] [] 1 ⟨162, [(1, .one (.int .i64 (restI s nN))), (2, .one (.int .i64 (restI t nN))), (7, .one (.ptr 107 0 0))], [(107, .box 1 2 [(.int .i64 nN), (.ro (.arcs eS))])]⟩ (by kernel_rfl) (by kernel_rfl) hT (by kernel_rfl) (by kernel_rfl) ⟨trivial, trivial, ⟨(by decide), trivial⟩, ⟨(fun _ => ⟨trivial, rfl, ref_rest s nN (by omega) (by omega)⟩), trivial⟩, trivial, trivial, ⟨(by decide), trivial⟩, ⟨(fun _ => ⟨trivial, rfl, ref_rest t nN (by omega) (by omega)⟩), trivial⟩, trivial, trivial, trivial⟩ trivial ?_)
    rw [show (restI s nN) = uU from hu]
    rw [show (restI t nN) = vV from hv]
    refine awp_seq (awp_region ?_)
    refine aops_run 1 [1, 2, 7, 49] [107] [(0 < 1)] ⟨162, [(1, .one (.int .i64 uU)), (2, .one (.int .i64 vV)), (7, .one (.ptr 107 0 0)), (49, .agg [(.int .i64 nN), (.ro (.arcs eS))])], [(107, .box 1 2 [(.int .i64 nN), (.ro (.arcs eS))])]⟩ hT (by kernel_rfl) (by kernel_rfl) ⟨(by decide), trivial⟩ ?_
    refine aops_pure false ⟨true, [], 24, [.agg [(.int .i64 nN), (.ro (.arcs eS))]], []⟩ [.agg [(.int .i64 nN), (.ro (.arcs eS))]] (.tup [(false, [(.int .i64 (okI (cntErr nN eS) (cntVal nN eS)))]), (false, [(.int .i64 (cntErr nN eS))])]) ⟨162, [(1, .one (.int .i64 uU)), (2, .one (.int .i64 vV)), (7, .one (.ptr 107 0 0)), (49, .agg [(.int .i64 nN), (.ro (.arcs eS))]), (50, .tup [(false, [(.int .i64 (okI (cntErr nN eS) (cntVal nN eS)))]), (false, [(.int .i64 (cntErr nN eS))])])], [(107, .box 1 2 [(.int .i64 nN), (.ro (.arcs eS))])]⟩ (by kernel_rfl) (by kernel_rfl) (fun _ => trivial) rfl (fun _ => tree_count nN eS) ?_
    refine aops_run 5 [1, 2, 7, 9, 10] [107] [] ⟨162, [(1, .one (.int .i64 uU)), (2, .one (.int .i64 vV)), (7, .one (.ptr 107 0 0)), (9, .one (.int .i64 (okI (cntErr nN eS) (cntVal nN eS)))), (10, .one (.int .i64 (cntErr nN eS)))], [(107, .box 1 2 [(.int .i64 nN), (.ro (.arcs eS))])]⟩ hT (by kernel_rfl) (by kernel_rfl) trivial ?_
    refine aops_end_seq (by kernel_rfl) ?_
    refine awp_seq (awp_region ?_)
    refine aops_run 1 [1, 2, 7, 9, 10, 54] [107] [(0 < 1)] ⟨162, [(1, .one (.int .i64 uU)), (2, .one (.int .i64 vV)), (7, .one (.ptr 107 0 0)), (9, .one (.int .i64 (okI (cntErr nN eS) (cntVal nN eS)))), (10, .one (.int .i64 (cntErr nN eS))), (54, .agg [(.int .i64 nN), (.ro (.arcs eS))])], [(107, .box 1 2 [(.int .i64 nN), (.ro (.arcs eS))])]⟩ hT (by kernel_rfl) (by kernel_rfl) ⟨(by decide), trivial⟩ ?_
    refine aops_pure false ⟨true, [], 25, [.agg [(.int .i64 nN), (.ro (.arcs eS))]], []⟩ [.agg [(.int .i64 nN), (.ro (.arcs eS))]] (.tup [(false, [(.ro (.ints .i64 (okL (sidesErr nN eS) (sidesOf nN eS))))]), (false, [(.int .i64 (sidesErr nN eS))])]) ⟨162, [(1, .one (.int .i64 uU)), (2, .one (.int .i64 vV)), (7, .one (.ptr 107 0 0)), (9, .one (.int .i64 (okI (cntErr nN eS) (cntVal nN eS)))), (10, .one (.int .i64 (cntErr nN eS))), (54, .agg [(.int .i64 nN), (.ro (.arcs eS))]), (55, .tup [(false, [(.ro (.ints .i64 (okL (sidesErr nN eS) (sidesOf nN eS))))]), (false, [(.int .i64 (sidesErr nN eS))])])], [(107, .box 1 2 [(.int .i64 nN), (.ro (.arcs eS))])]⟩ (by kernel_rfl) (by kernel_rfl) (fun _ => trivial) rfl (fun _ => walk_sides nN eS) ?_
    refine aops_run 5 [1, 2, 7, 9, 10, 12] [107] [] ⟨162, [(1, .one (.int .i64 uU)), (2, .one (.int .i64 vV)), (7, .one (.ptr 107 0 0)), (9, .one (.int .i64 (okI (cntErr nN eS) (cntVal nN eS)))), (10, .one (.int .i64 (cntErr nN eS))), (12, .one (.int .i64 (sidesErr nN eS)))], [(107, .box 1 2 [(.int .i64 nN), (.ro (.arcs eS))])]⟩ hT (by kernel_rfl) (by kernel_rfl) trivial ?_
    refine aops_end_seq (by kernel_rfl) ?_
    refine awp_seq (awp_region ?_)
    refine aops_run 1 [1, 2, 7, 9, 10, 12, 59] [107] [(0 < 1)] ⟨162, [(1, .one (.int .i64 uU)), (2, .one (.int .i64 vV)), (7, .one (.ptr 107 0 0)), (9, .one (.int .i64 (okI (cntErr nN eS) (cntVal nN eS)))), (10, .one (.int .i64 (cntErr nN eS))), (12, .one (.int .i64 (sidesErr nN eS))), (59, .agg [(.int .i64 nN), (.ro (.arcs eS))])], [(107, .box 1 2 [(.int .i64 nN), (.ro (.arcs eS))])]⟩ hT (by kernel_rfl) (by kernel_rfl) ⟨(by decide), trivial⟩ ?_
    refine aops_pure false ⟨true, [], 26, [.agg [(.int .i64 nN), (.ro (.arcs eS))], .one (.int .i64 3)], []⟩ [.agg [(.int .i64 nN), (.ro (.arcs eS))], .one (.int .i64 3)] (.tup [(false, [(.int .i64 (okI (colErr nN eS (3)) (cnt (3) (List.length eS) nN eS)))]), (false, [(.int .i64 (colErr nN eS (3)))])]) ⟨162, [(1, .one (.int .i64 uU)), (2, .one (.int .i64 vV)), (7, .one (.ptr 107 0 0)), (9, .one (.int .i64 (okI (cntErr nN eS) (cntVal nN eS)))), (10, .one (.int .i64 (cntErr nN eS))), (12, .one (.int .i64 (sidesErr nN eS))), (59, .agg [(.int .i64 nN), (.ro (.arcs eS))]), (60, .tup [(false, [(.int .i64 (okI (colErr nN eS (3)) (cnt (3) (List.length eS) nN eS)))]), (false, [(.int .i64 (colErr nN eS (3)))])])], [(107, .box 1 2 [(.int .i64 nN), (.ro (.arcs eS))])]⟩ (by kernel_rfl) (by kernel_rfl) (fun _ => trivial) rfl (fun _ => colour_Count nN eS (3)) ?_
    refine aops_run 5 [1, 2, 7, 9, 10, 12, 13, 14] [107] [] ⟨162, [(1, .one (.int .i64 uU)), (2, .one (.int .i64 vV)), (7, .one (.ptr 107 0 0)), (9, .one (.int .i64 (okI (cntErr nN eS) (cntVal nN eS)))), (10, .one (.int .i64 (cntErr nN eS))), (12, .one (.int .i64 (sidesErr nN eS))), (13, .one (.int .i64 (okI (colErr nN eS (3)) (cnt (3) (List.length eS) nN eS)))), (14, .one (.int .i64 (colErr nN eS (3))))], [(107, .box 1 2 [(.int .i64 nN), (.ro (.arcs eS))])]⟩ hT (by kernel_rfl) (by kernel_rfl) trivial ?_
    refine aops_end_seq (by kernel_rfl) ?_
    refine awp_seq (awp_calm2 [(4, ⟨[.one (.ro (.arcs eS))], .one (.rw 9001 0 eS.length), [(9001, .flat (.arcs eS))], [(9001, 167)]⟩)] false [[], [0], [], [2], [2, 3], [0, 1, 2, 3, 4], [], [0, 1, 2, 3, 4, 5, 6]] 7 [1, 2, 7, 9, 10, 12, 13, 14, 15] [107, 115, 167] [(0, []), (1, [(0 < 1)]), (2, []), (3, [(0 < 1)]), (4, [(AllP [] ∧ [.one (.ro (.arcs eS))] = ([.one (.ro (.arcs eS))] : List AV) ∧ ACall Try.prog 27 [.one (.ro (.arcs eS))] [] (fun ov oh => ov = .one (.rw 9001 0 eS.length) ∧ oh = [(9001, .flat (.arcs eS))]))]), (5, []), (6, [])] [(7, [(0 < 1)])] 1 ⟨162, [(1, .one (.int .i64 uU)), (2, .one (.int .i64 vV)), (7, .one (.ptr 107 0 0)), (9, .one (.int .i64 (okI (cntErr nN eS) (cntVal nN eS)))), (10, .one (.int .i64 (cntErr nN eS))), (12, .one (.int .i64 (sidesErr nN eS))), (13, .one (.int .i64 (okI (colErr nN eS (3)) (cnt (3) (List.length eS) nN eS)))), (14, .one (.int .i64 (colErr nN eS (3)))), (15, .one (.ptr 115 0 0))], [(107, .box 1 2 [(.int .i64 nN), (.ro (.arcs eS))]), (115, .box 1 2 [(.int .i64 nN), (.rw 167 0 eS.length)]), (167, .flat (.arcs eS))]⟩ (by kernel_rfl) (by kernel_rfl) hT (by kernel_rfl) (by kernel_rfl) ⟨trivial, ⟨(by decide), trivial⟩, trivial, ⟨(by decide), trivial⟩, ⟨⟨trivial, rfl, clone_arcs eS (by first | omega | (simp; omega))⟩, trivial⟩, trivial, trivial, trivial⟩ ⟨⟨(by decide), trivial⟩, trivial⟩ ?_)
    refine awp_seq ?_
    refine awp_run_seq [1, 2, 7, 9, 10, 12, 13, 14, 15, 70, 71, 72] [107, 115, 167] [(0 < 1)] ⟨162, [(1, .one (.int .i64 uU)), (2, .one (.int .i64 vV)), (7, .one (.ptr 107 0 0)), (9, .one (.int .i64 (okI (cntErr nN eS) (cntVal nN eS)))), (10, .one (.int .i64 (cntErr nN eS))), (12, .one (.int .i64 (sidesErr nN eS))), (13, .one (.int .i64 (okI (colErr nN eS (3)) (cnt (3) (List.length eS) nN eS)))), (14, .one (.int .i64 (colErr nN eS (3)))), (15, .one (.ptr 115 0 0)), (70, .one (.ro (.arcs eS))), (71, .one (.int .i64 ((eS.length : Nat) : Int))), (72, .one (.int .i64 0))], [(107, .box 1 2 [(.int .i64 nN), (.ro (.arcs eS))]), (115, .box 1 2 [(.int .i64 nN), (.rw 167 0 eS.length)]), (167, .flat (.arcs eS))]⟩ hT (by kernel_rfl) ⟨(by decide), trivial⟩ ?_
    refine awp_block ?_
    refine awp_loop (I := fun κ σ => ∃ (k : Nat) (bB : List Arc), ((k ≤ eS.length) ∧ (bB = eS ++ (eS.take k).map backA) ∧ eS.length - k = κ) ∧ σ = ⟨162, [(1, .one (.int .i64 uU)), (2, .one (.int .i64 vV)), (7, .one (.ptr 107 0 0)), (9, .one (.int .i64 (okI (cntErr nN eS) (cntVal nN eS)))), (10, .one (.int .i64 (cntErr nN eS))), (12, .one (.int .i64 (sidesErr nN eS))), (13, .one (.int .i64 (okI (colErr nN eS (3)) (cnt (3) (List.length eS) nN eS)))), (14, .one (.int .i64 (colErr nN eS (3)))), (15, .one (.ptr 115 0 0)), (70, .one (.ro (.arcs eS))), (71, .one (.int .i64 ((eS.length : Nat) : Int))), (72, .one (.int .i64 (k : Int)))], [(107, .box 1 2 [(.int .i64 nN), (.ro (.arcs eS))]), (115, .box 1 2 [(.int .i64 nN), (.rw 167 0 bB.length)]), (167, .flat (.arcs bB))]⟩) _ ⟨0, eS, ⟨(by omega), (by simp), rfl⟩, (by kernel_rfl)⟩ ?_
    rintro κ _ ⟨k, bB, ⟨hk, hb, rfl⟩, rfl⟩
    have hbl := congrArg List.length hb
    rw [List.length_append, List.length_map, List.length_take] at hbl
    refine awp_run_seq [1, 2, 7, 9, 10, 12, 13, 14, 15, 70, 71, 72, 73] [107, 115, 167] [] ⟨162, [(1, .one (.int .i64 uU)), (2, .one (.int .i64 vV)), (7, .one (.ptr 107 0 0)), (9, .one (.int .i64 (okI (cntErr nN eS) (cntVal nN eS)))), (10, .one (.int .i64 (cntErr nN eS))), (12, .one (.int .i64 (sidesErr nN eS))), (13, .one (.int .i64 (okI (colErr nN eS (3)) (cnt (3) (List.length eS) nN eS)))), (14, .one (.int .i64 (colErr nN eS (3)))), (15, .one (.ptr 115 0 0)), (70, .one (.ro (.arcs eS))), (71, .one (.int .i64 ((eS.length : Nat) : Int))), (72, .one (.int .i64 (k : Int))), (73, .one (.bool (decide ((k : Int) < ((eS.length : Nat) : Int)))))], [(107, .box 1 2 [(.int .i64 nN), (.ro (.arcs eS))]), (115, .box 1 2 [(.int .i64 nN), (.rw 167 0 bB.length)]), (167, .flat (.arcs bB))]⟩ hT (by kernel_rfl) trivial ?_
    refine awp_seq ?_
    refine awp_cond (b := (decide ((k : Int) < ((eS.length : Nat) : Int)))) (by kernel_rfl) (fun c10 => ?_) (fun c10 => ?_)
    ·
      try simp only [bs] at c10
      have hkl : k < eS.length := by omega
      have htk := take_getD eS default k hkl
      have hbk := back0 (hg.cap _ (getD_mem (d := default) hkl))
      refine awp_skip ?_
      refine awp_seq ?_
      refine awp_block ?_
      refine awp_run_seq [1, 2, 7, 9, 10, 12, 13, 14, 15, 17, 70, 71, 72] [107, 115, 117, 167] [((0 : Int) ≤ (k : Int)), ((k : Int) < ((eS.length : Nat) : Int)), (0 < 1)] ⟨162, [(1, .one (.int .i64 uU)), (2, .one (.int .i64 vV)), (7, .one (.ptr 107 0 0)), (9, .one (.int .i64 (okI (cntErr nN eS) (cntVal nN eS)))), (10, .one (.int .i64 (cntErr nN eS))), (12, .one (.int .i64 (sidesErr nN eS))), (13, .one (.int .i64 (okI (colErr nN eS (3)) (cnt (3) (List.length eS) nN eS)))), (14, .one (.int .i64 (colErr nN eS (3)))), (15, .one (.ptr 115 0 0)), (17, .one (.ptr 117 0 0)), (70, .one (.ro (.arcs eS))), (71, .one (.int .i64 ((eS.length : Nat) : Int))), (72, .one (.int .i64 (k : Int)))], [(107, .box 1 2 [(.int .i64 nN), (.ro (.arcs eS))]), (115, .box 1 2 [(.int .i64 nN), (.rw 167 0 bB.length)]), (117, .box 1 3 [(.int .i64 ((List.getD eS k default).src)), (.int .i64 ((List.getD eS k default).dst)), (.int .i64 ((List.getD eS k default).cap))]), (167, .flat (.arcs bB))]⟩ hT (by kernel_rfl) ⟨(by omega), (by omega), (by decide), trivial⟩ ?_
      refine awp_region ?_
      refine aops_run 11 [1, 2, 7, 9, 10, 12, 13, 14, 15, 70, 71, 72] [107, 115, 167] [(0 < 1), (0 < 1), (0 < 1), (bB.length = bB.length), ((bB.length + 1) * 24 ≤ 140737488355328), ((bB.length + 1) ≤ 9223372036854775807), (0 < 1)] ⟨162, [(1, .one (.int .i64 uU)), (2, .one (.int .i64 vV)), (7, .one (.ptr 107 0 0)), (9, .one (.int .i64 (okI (cntErr nN eS) (cntVal nN eS)))), (10, .one (.int .i64 (cntErr nN eS))), (12, .one (.int .i64 (sidesErr nN eS))), (13, .one (.int .i64 (okI (colErr nN eS (3)) (cnt (3) (List.length eS) nN eS)))), (14, .one (.int .i64 (colErr nN eS (3)))), (15, .one (.ptr 115 0 0)), (70, .one (.ro (.arcs eS))), (71, .one (.int .i64 ((eS.length : Nat) : Int))), (72, .one (.int .i64 (k : Int)))], [(107, .box 1 2 [(.int .i64 nN), (.ro (.arcs eS))]), (115, .box 1 2 [(.int .i64 nN), (.rw 167 0 (bB.length + 1))]), (167, .flat (.arcs (bB ++ [⟨((List.getD eS k default).dst), ((List.getD eS k default).src), 0⟩])))]⟩ hT (by kernel_rfl) (by kernel_rfl) ⟨(by decide), (by decide), (by decide), (by omega), (by omega), (by omega), (by decide), trivial⟩ ?_
      refine aops_end (by kernel_rfl) ?_
      refine awp_run [1, 2, 7, 9, 10, 12, 13, 14, 15, 70, 71, 72] [107, 115, 167] [(-9223372036854775808 ≤ (((k + 1) : Nat) : Int) ∧ (((k + 1) : Nat) : Int) ≤ 9223372036854775807)] ⟨162, [(1, .one (.int .i64 uU)), (2, .one (.int .i64 vV)), (7, .one (.ptr 107 0 0)), (9, .one (.int .i64 (okI (cntErr nN eS) (cntVal nN eS)))), (10, .one (.int .i64 (cntErr nN eS))), (12, .one (.int .i64 (sidesErr nN eS))), (13, .one (.int .i64 (okI (colErr nN eS (3)) (cnt (3) (List.length eS) nN eS)))), (14, .one (.int .i64 (colErr nN eS (3)))), (15, .one (.ptr 115 0 0)), (70, .one (.ro (.arcs eS))), (71, .one (.int .i64 ((eS.length : Nat) : Int))), (72, .one (.int .i64 (((k + 1) : Nat) : Int)))], [(107, .box 1 2 [(.int .i64 nN), (.ro (.arcs eS))]), (115, .box 1 2 [(.int .i64 nN), (.rw 167 0 (bB.length + 1))]), (167, .flat (.arcs (bB ++ [⟨((List.getD eS k default).dst), ((List.getD eS k default).src), 0⟩])))]⟩ hT (by kernel_rfl) ⟨(by omega), trivial⟩ ?_
      refine loop_end _ ?_ ⟨(k + 1), (bB ++ [⟨((List.getD eS k default).dst), ((List.getD eS k default).src), 0⟩]), ⟨(by omega), (by rw [htk, List.map_append, ← List.append_assoc, ← hb, hbk]; rfl), rfl⟩, (by first | (simp only [lens]; done) | (simp only [Nat.zero_add]; done) | simp only [lens, Nat.zero_add])⟩
      omega
    ·
      try simp only [bs] at c10
      have hBe : bB = bothA eS := by rw [hb, List.take_of_length_le (by omega)]; rfl
      have hFE := hg.farErr_ hu0 hu1
      have hFl : ((farOf nN (bothA eS) uU).length : Int) = nN := by simp [farOf]; omega
      have hME := hg.more_err hu0 hu1 hv0 hv1
      have hM := hg.more hu0 hu1 hv0 hv1
      obtain ⟨hC1, hC2⟩ := hg.cnt_
      have hSE := hg.sides
      obtain ⟨hL1, hL2⟩ := hg.col
      refine awp_exit ?_
      refine awp_weak (awk_seal 167 (s' := ⟨162, [(1, .one (.int .i64 uU)), (2, .one (.int .i64 vV)), (7, .one (.ptr 107 0 0)), (9, .one (.int .i64 (okI (cntErr nN eS) (cntVal nN eS)))), (10, .one (.int .i64 (cntErr nN eS))), (12, .one (.int .i64 (sidesErr nN eS))), (13, .one (.int .i64 (okI (colErr nN eS (3)) (cnt (3) (List.length eS) nN eS)))), (14, .one (.int .i64 (colErr nN eS (3)))), (15, .one (.ptr 115 0 0)), (70, .one (.ro (.arcs eS))), (71, .one (.int .i64 ((eS.length : Nat) : Int))), (72, .one (.int .i64 (k : Int))), (73, .one (.bool (decide ((k : Int) < ((eS.length : Nat) : Int)))))], [(107, .box 1 2 [(.int .i64 nN), (.ro (.arcs eS))]), (115, .box 1 2 [(.int .i64 nN), (.ro (.arcs (List.take bB.length bB)))])]⟩) (by kernel_rfl)) ?_
      rw [show (List.take bB.length bB) = bB from List.take_of_length_le (by first | omega | simp)]
      rw [show bB = (bothA eS) from hBe]
      refine awp_seq (awp_region ?_)
      refine aops_run 2 [1, 2, 7, 9, 10, 12, 13, 14, 88, 89] [107] [(0 < 1)] ⟨162, [(1, .one (.int .i64 uU)), (2, .one (.int .i64 vV)), (7, .one (.ptr 107 0 0)), (9, .one (.int .i64 (okI (cntErr nN eS) (cntVal nN eS)))), (10, .one (.int .i64 (cntErr nN eS))), (12, .one (.int .i64 (sidesErr nN eS))), (13, .one (.int .i64 (okI (colErr nN eS (3)) (cnt (3) (List.length eS) nN eS)))), (14, .one (.int .i64 (colErr nN eS (3)))), (88, .agg [(.int .i64 nN), (.ro (.arcs (bothA eS)))]), (89, .one (.int .i64 uU))], [(107, .box 1 2 [(.int .i64 nN), (.ro (.arcs eS))])]⟩ hT (by kernel_rfl) (by kernel_rfl) ⟨(by decide), trivial⟩ ?_
      refine aops_pure false ⟨true, [], 28, [.agg [(.int .i64 nN), (.ro (.arcs (bothA eS)))], .one (.int .i64 uU)], []⟩ [.agg [(.int .i64 nN), (.ro (.arcs (bothA eS)))], .one (.int .i64 uU)] (.tup [(false, [(.ro (.ints .i64 (okL (farErr nN (bothA eS) uU) (farOf nN (bothA eS) uU))))]), (false, [(.int .i64 (farErr nN (bothA eS) uU))])]) ⟨162, [(1, .one (.int .i64 uU)), (2, .one (.int .i64 vV)), (7, .one (.ptr 107 0 0)), (9, .one (.int .i64 (okI (cntErr nN eS) (cntVal nN eS)))), (10, .one (.int .i64 (cntErr nN eS))), (12, .one (.int .i64 (sidesErr nN eS))), (13, .one (.int .i64 (okI (colErr nN eS (3)) (cnt (3) (List.length eS) nN eS)))), (14, .one (.int .i64 (colErr nN eS (3)))), (88, .agg [(.int .i64 nN), (.ro (.arcs (bothA eS)))]), (89, .one (.int .i64 uU)), (90, .tup [(false, [(.ro (.ints .i64 (okL (farErr nN (bothA eS) uU) (farOf nN (bothA eS) uU))))]), (false, [(.int .i64 (farErr nN (bothA eS) uU))])])], [(107, .box 1 2 [(.int .i64 nN), (.ro (.arcs eS))])]⟩ (by kernel_rfl) (by kernel_rfl) (fun _ => trivial) rfl (fun _ => walk_far nN uU (bothA eS)) ?_
      refine aops_run 5 [1, 2, 7, 9, 10, 12, 13, 14, 18, 19] [107] [] ⟨162, [(1, .one (.int .i64 uU)), (2, .one (.int .i64 vV)), (7, .one (.ptr 107 0 0)), (9, .one (.int .i64 (okI (cntErr nN eS) (cntVal nN eS)))), (10, .one (.int .i64 (cntErr nN eS))), (12, .one (.int .i64 (sidesErr nN eS))), (13, .one (.int .i64 (okI (colErr nN eS (3)) (cnt (3) (List.length eS) nN eS)))), (14, .one (.int .i64 (colErr nN eS (3)))), (18, .one (.ro (.ints .i64 (okL (farErr nN (bothA eS) uU) (farOf nN (bothA eS) uU))))), (19, .one (.int .i64 (farErr nN (bothA eS) uU)))], [(107, .box 1 2 [(.int .i64 nN), (.ro (.arcs eS))])]⟩ hT (by kernel_rfl) (by kernel_rfl) trivial ?_
      refine aops_end_seq (by kernel_rfl) ?_
      refine awp_seq (awp_any [(4, ⟨[.one (.ro (.arcs eS))], .one (.rw 9001 0 eS.length), [(9001, .flat (.arcs eS))], [(9001, 198)]⟩), (11, ⟨[.agg [(.int .i64 nN), (.ro (.arcs (eS ++ [⟨uU, vV, 0⟩])))]], .tup [(false, [(.int .i64 (okI (cntErr nN (eS ++ [⟨uU, vV, 0⟩])) (cntVal nN (eS ++ [⟨uU, vV, 0⟩]))))]), (false, [(.int .i64 (cntErr nN (eS ++ [⟨uU, vV, 0⟩])))])], [], []⟩)] true [1, 2, 7, 9, 10, 12, 13, 14, 18, 19, 20, 21] [107] 36 [(0, []), (1, [(0 < 1)]), (2, []), (3, [(0 < 1)]), (4, [(AllP [] ∧ [.one (.ro (.arcs eS))] = ([.one (.ro (.arcs eS))] : List AV) ∧ ACall Try.prog 27 [.one (.ro (.arcs eS))] [] (fun ov oh => ov = .one (.rw 9001 0 eS.length) ∧ oh = [(9001, .flat (.arcs eS))]))]), (5, []), (6, []), (7, []), (8, []), (9, [(eS.length = eS.length), ((eS.length + 1) * 24 ≤ 140737488355328), ((eS.length + 1) ≤ 9223372036854775807)]), (10, []), (11, [(true = true → (AllP [] ∧ [.agg [(.int .i64 nN), (.ro (.arcs (List.take (eS.length + 1) (eS ++ [⟨uU, vV, 0⟩]))))]] = ([.agg [(.int .i64 nN), (.ro (.arcs (eS ++ [⟨uU, vV, 0⟩])))]] : List AV) ∧ ACall Try.prog 24 [.agg [(.int .i64 nN), (.ro (.arcs (eS ++ [⟨uU, vV, 0⟩])))]] [] (fun ov oh => ov = .tup [(false, [(.int .i64 (okI (cntErr nN (eS ++ [⟨uU, vV, 0⟩])) (cntVal nN (eS ++ [⟨uU, vV, 0⟩]))))]), (false, [(.int .i64 (cntErr nN (eS ++ [⟨uU, vV, 0⟩])))])] ∧ oh = [])))]), (12, []), (13, []), (14, []), (15, []), (16, [])] ⟨162, [(1, .one (.int .i64 uU)), (2, .one (.int .i64 vV)), (7, .one (.ptr 107 0 0)), (9, .one (.int .i64 (okI (cntErr nN eS) (cntVal nN eS)))), (10, .one (.int .i64 (cntErr nN eS))), (12, .one (.int .i64 (sidesErr nN eS))), (13, .one (.int .i64 (okI (colErr nN eS (3)) (cnt (3) (List.length eS) nN eS)))), (14, .one (.int .i64 (colErr nN eS (3)))), (18, .one (.ro (.ints .i64 (okL (farErr nN (bothA eS) uU) (farOf nN (bothA eS) uU))))), (19, .one (.int .i64 (farErr nN (bothA eS) uU))), (20, .one (.int .i64 (okI (cntErr nN (eS ++ [⟨uU, vV, 0⟩])) (cntVal nN (eS ++ [⟨uU, vV, 0⟩]))))), (21, .one (.int .i64 (cntErr nN (eS ++ [⟨uU, vV, 0⟩]))))], [(107, .box 1 2 [(.int .i64 nN), (.ro (.arcs eS))])]⟩ (by kernel_rfl) (by kernel_rfl) hT (by kernel_rfl) ⟨trivial, ⟨(by decide), trivial⟩, trivial, ⟨(by decide), trivial⟩, ⟨⟨trivial, rfl, clone_arcs eS (by first | omega | (simp; omega))⟩, trivial⟩, trivial, trivial, trivial, trivial, ⟨(by omega), (by omega), (by omega), trivial⟩, trivial, ⟨(fun _ => ⟨trivial, (by rw [show (List.take (eS.length + 1) (eS ++ [⟨uU, vV, 0⟩])) = (eS ++ [⟨uU, vV, 0⟩]) from List.take_of_length_le (by first | omega | simp)]), tree_count nN (eS ++ [⟨uU, vV, 0⟩])⟩), trivial⟩, trivial, trivial, trivial, trivial, trivial, trivial⟩ ?_)
      rw [show (okL (farErr nN (bothA eS) uU) (farOf nN (bothA eS) uU)) = (farOf nN (bothA eS) uU) from okL_ok _ hFE]
      refine awp_run_seq [1, 2, 7, 9, 10, 12, 13, 14, 18, 19, 20, 21, 22] [107] [] ⟨162, [(1, .one (.int .i64 uU)), (2, .one (.int .i64 vV)), (7, .one (.ptr 107 0 0)), (9, .one (.int .i64 (okI (cntErr nN eS) (cntVal nN eS)))), (10, .one (.int .i64 (cntErr nN eS))), (12, .one (.int .i64 (sidesErr nN eS))), (13, .one (.int .i64 (okI (colErr nN eS (3)) (cnt (3) (List.length eS) nN eS)))), (14, .one (.int .i64 (colErr nN eS (3)))), (18, .one (.ro (.ints .i64 (farOf nN (bothA eS) uU)))), (19, .one (.int .i64 (farErr nN (bothA eS) uU))), (20, .one (.int .i64 (okI (cntErr nN (eS ++ [⟨uU, vV, 0⟩])) (cntVal nN (eS ++ [⟨uU, vV, 0⟩]))))), (21, .one (.int .i64 (cntErr nN (eS ++ [⟨uU, vV, 0⟩])))), (22, .one (.int .i64 3))], [(107, .box 1 2 [(.int .i64 nN), (.ro (.arcs eS))])]⟩ hT (by kernel_rfl) trivial ?_
      refine awp_seq ?_
      refine awp_run_seq [1, 2, 7, 9, 10, 12, 13, 14, 18, 19, 20, 21, 22, 110, 111] [107] [(0 < 1)] ⟨162, [(1, .one (.int .i64 uU)), (2, .one (.int .i64 vV)), (7, .one (.ptr 107 0 0)), (9, .one (.int .i64 (okI (cntErr nN eS) (cntVal nN eS)))), (10, .one (.int .i64 (cntErr nN eS))), (12, .one (.int .i64 (sidesErr nN eS))), (13, .one (.int .i64 (okI (colErr nN eS (3)) (cnt (3) (List.length eS) nN eS)))), (14, .one (.int .i64 (colErr nN eS (3)))), (18, .one (.ro (.ints .i64 (farOf nN (bothA eS) uU)))), (19, .one (.int .i64 (farErr nN (bothA eS) uU))), (20, .one (.int .i64 (okI (cntErr nN (eS ++ [⟨uU, vV, 0⟩])) (cntVal nN (eS ++ [⟨uU, vV, 0⟩]))))), (21, .one (.int .i64 (cntErr nN (eS ++ [⟨uU, vV, 0⟩])))), (22, .one (.int .i64 3)), (110, .one (.int .i64 ((eS.length : Nat) : Int))), (111, .one (.int .i64 0))], [(107, .box 1 2 [(.int .i64 nN), (.ro (.arcs eS))])]⟩ hT (by kernel_rfl) ⟨(by decide), trivial⟩ ?_
      refine awp_block ?_
      refine awp_loop (I := fun κ σ => ∃ (i : Nat) (o : Int), ((i ≤ eS.length) ∧ (o = 3 * 2 ^ i) ∧ eS.length - i = κ) ∧ σ = ⟨162, [(1, .one (.int .i64 uU)), (2, .one (.int .i64 vV)), (7, .one (.ptr 107 0 0)), (9, .one (.int .i64 (okI (cntErr nN eS) (cntVal nN eS)))), (10, .one (.int .i64 (cntErr nN eS))), (12, .one (.int .i64 (sidesErr nN eS))), (13, .one (.int .i64 (okI (colErr nN eS (3)) (cnt (3) (List.length eS) nN eS)))), (14, .one (.int .i64 (colErr nN eS (3)))), (18, .one (.ro (.ints .i64 (farOf nN (bothA eS) uU)))), (19, .one (.int .i64 (farErr nN (bothA eS) uU))), (20, .one (.int .i64 (okI (cntErr nN (eS ++ [⟨uU, vV, 0⟩])) (cntVal nN (eS ++ [⟨uU, vV, 0⟩]))))), (21, .one (.int .i64 (cntErr nN (eS ++ [⟨uU, vV, 0⟩])))), (22, .one (.int .i64 o)), (110, .one (.int .i64 ((eS.length : Nat) : Int))), (111, .one (.int .i64 (i : Int)))], [(107, .box 1 2 [(.int .i64 nN), (.ro (.arcs eS))])]⟩) _ ⟨0, 3, ⟨(by omega), (by rfl), rfl⟩, (by kernel_rfl)⟩ ?_
      rintro κ _ ⟨i, o, ⟨hi, ho, rfl⟩, rfl⟩
      have hpw := pow2_7 (i := i) (by omega)
      rw [← ho] at hpw
      refine awp_run_seq [1, 2, 7, 9, 10, 12, 13, 14, 18, 19, 20, 21, 22, 110, 111, 112] [107] [] ⟨162, [(1, .one (.int .i64 uU)), (2, .one (.int .i64 vV)), (7, .one (.ptr 107 0 0)), (9, .one (.int .i64 (okI (cntErr nN eS) (cntVal nN eS)))), (10, .one (.int .i64 (cntErr nN eS))), (12, .one (.int .i64 (sidesErr nN eS))), (13, .one (.int .i64 (okI (colErr nN eS (3)) (cnt (3) (List.length eS) nN eS)))), (14, .one (.int .i64 (colErr nN eS (3)))), (18, .one (.ro (.ints .i64 (farOf nN (bothA eS) uU)))), (19, .one (.int .i64 (farErr nN (bothA eS) uU))), (20, .one (.int .i64 (okI (cntErr nN (eS ++ [⟨uU, vV, 0⟩])) (cntVal nN (eS ++ [⟨uU, vV, 0⟩]))))), (21, .one (.int .i64 (cntErr nN (eS ++ [⟨uU, vV, 0⟩])))), (22, .one (.int .i64 o)), (110, .one (.int .i64 ((eS.length : Nat) : Int))), (111, .one (.int .i64 (i : Int))), (112, .one (.bool (decide ((i : Int) < ((eS.length : Nat) : Int)))))], [(107, .box 1 2 [(.int .i64 nN), (.ro (.arcs eS))])]⟩ hT (by kernel_rfl) trivial ?_
      refine awp_seq ?_
      refine awp_cond (b := (decide ((i : Int) < ((eS.length : Nat) : Int)))) (by kernel_rfl) (fun c18 => ?_) (fun c18 => ?_)
      ·
        try simp only [bs] at c18
        refine awp_skip ?_
        refine awp_seq ?_
        refine awp_block ?_
        refine awp_run [1, 2, 7, 9, 10, 12, 13, 14, 18, 19, 20, 21, 22, 110, 111] [107] [(-9223372036854775808 ≤ (o * 2) ∧ (o * 2) ≤ 9223372036854775807)] ⟨162, [(1, .one (.int .i64 uU)), (2, .one (.int .i64 vV)), (7, .one (.ptr 107 0 0)), (9, .one (.int .i64 (okI (cntErr nN eS) (cntVal nN eS)))), (10, .one (.int .i64 (cntErr nN eS))), (12, .one (.int .i64 (sidesErr nN eS))), (13, .one (.int .i64 (okI (colErr nN eS (3)) (cnt (3) (List.length eS) nN eS)))), (14, .one (.int .i64 (colErr nN eS (3)))), (18, .one (.ro (.ints .i64 (farOf nN (bothA eS) uU)))), (19, .one (.int .i64 (farErr nN (bothA eS) uU))), (20, .one (.int .i64 (okI (cntErr nN (eS ++ [⟨uU, vV, 0⟩])) (cntVal nN (eS ++ [⟨uU, vV, 0⟩]))))), (21, .one (.int .i64 (cntErr nN (eS ++ [⟨uU, vV, 0⟩])))), (22, .one (.int .i64 (o * 2))), (110, .one (.int .i64 ((eS.length : Nat) : Int))), (111, .one (.int .i64 (i : Int)))], [(107, .box 1 2 [(.int .i64 nN), (.ro (.arcs eS))])]⟩ hT (by kernel_rfl) ⟨(by omega), trivial⟩ ?_
        refine awp_run [1, 2, 7, 9, 10, 12, 13, 14, 18, 19, 20, 21, 22, 110, 111] [107] [(-9223372036854775808 ≤ (((i + 1) : Nat) : Int) ∧ (((i + 1) : Nat) : Int) ≤ 9223372036854775807)] ⟨162, [(1, .one (.int .i64 uU)), (2, .one (.int .i64 vV)), (7, .one (.ptr 107 0 0)), (9, .one (.int .i64 (okI (cntErr nN eS) (cntVal nN eS)))), (10, .one (.int .i64 (cntErr nN eS))), (12, .one (.int .i64 (sidesErr nN eS))), (13, .one (.int .i64 (okI (colErr nN eS (3)) (cnt (3) (List.length eS) nN eS)))), (14, .one (.int .i64 (colErr nN eS (3)))), (18, .one (.ro (.ints .i64 (farOf nN (bothA eS) uU)))), (19, .one (.int .i64 (farErr nN (bothA eS) uU))), (20, .one (.int .i64 (okI (cntErr nN (eS ++ [⟨uU, vV, 0⟩])) (cntVal nN (eS ++ [⟨uU, vV, 0⟩]))))), (21, .one (.int .i64 (cntErr nN (eS ++ [⟨uU, vV, 0⟩])))), (22, .one (.int .i64 (o * 2))), (110, .one (.int .i64 ((eS.length : Nat) : Int))), (111, .one (.int .i64 (((i + 1) : Nat) : Int)))], [(107, .box 1 2 [(.int .i64 nN), (.ro (.arcs eS))])]⟩ hT (by kernel_rfl) ⟨(by omega), trivial⟩ ?_
        refine loop_end _ ?_ ⟨(i + 1), (o * 2), ⟨(by omega), (by rw [Int.pow_succ, ho]; omega), rfl⟩, (by kernel_rfl)⟩
        omega
      ·
        try simp only [bs] at c18
        have hwe : o = 3 * 2 ^ eS.length := by rw [ho, show i = eS.length by omega]
        have hz1 : okI (cntErr nN eS) (cntVal nN eS) = 1 := by rw [okI_ok _ hC1]; exact hC2
        have hz2 : okI (colErr nN eS 3) (cnt 3 (List.length eS) nN eS) = o := by rw [okI_ok _ hL1, hL2, hwe]
        refine awp_exit ?_
        refine awp_seq ?_
        rw [show (okI (cntErr nN (eS ++ [⟨uU, vV, 0⟩])) (cntVal nN (eS ++ [⟨uU, vV, 0⟩]))) = (cntVal nN (eS ++ [⟨uU, vV, 0⟩])) from okI_ok _ hME]
        rw [show (okI (cntErr nN eS) (cntVal nN eS)) = 1 from by exact hz1]
        rw [show (okI (colErr nN eS (3)) (cnt (3) (List.length eS) nN eS)) = o from by exact hz2]
        rw [show (cntErr nN eS) = 0 from by exact hC1]
        rw [show (sidesErr nN eS) = 0 from by exact hSE]
        rw [show (colErr nN eS (3)) = 0 from by exact hL1]
        rw [show (farErr nN (bothA eS) uU) = 0 from by exact hFE]
        rw [show (cntErr nN (eS ++ [⟨uU, vV, 0⟩])) = 0 from by exact hME]
        refine awp_run_seq [1, 2, 18, 20, 149] [] [(true = true → (true = true → true = true)), (true = true → true = true), (true = true → (true = true → true = true)), (true = true → true = true), (true = true → (true = true → true = true)), (true = true → true = true), (true = true → (true = true → true = true)), (true = true → true = true), (true = true → (true = true → true = true)), (true = true → true = true), (true = true → (true = true → true = true)), (true = true → (true = true → true = true)), (true = true → true = true), ((!(decide (o ≠ o))) = true → ((!(decide (o ≠ o))) = true → (!(decide (o ≠ o))) = true)), ((!(decide (o ≠ o))) = true → ((!(decide (o ≠ o))) = true → (!(decide (o ≠ o))) = true)), ((!(decide (o ≠ o))) = true → (0 < 1)), ((!(decide (o ≠ o))) = true → ((!(decide (o ≠ o))) = true → (!(decide (o ≠ o))) = true)), ((!(decide (o ≠ o))) = true → ((!(decide (o ≠ o))) = true → (!(decide (o ≠ o))) = true)), ((!(decide (o ≠ o))) = true → (!(decide (o ≠ o))) = true)] ⟨162, [(1, .one (.int .i64 uU)), (2, .one (.int .i64 vV)), (18, .one (.ro (.ints .i64 (farOf nN (bothA eS) uU)))), (20, .one (.int .i64 (cntVal nN (eS ++ [⟨uU, vV, 0⟩])))), (149, .one (.bool ((decide (o ≠ o)) || (decide ((((List.length (farOf nN (bothA eS) uU)) : Nat) : Int) ≠ nN)))))], []⟩ hT (by kernel_rfl) ⟨(fun _ => (fun h => h)), (fun h => h), (fun _ => (fun h => h)), (fun h => h), (fun _ => (fun h => h)), (fun h => h), (fun _ => (fun h => h)), (fun h => h), (fun _ => (fun h => h)), (fun h => h), (fun _ => (fun h => h)), (fun _ => (fun h => h)), (fun h => h), (by intro hg; first | exact hg | skip; (try simp only [bs] at hg ⊢); first | exact hg | first | omega | (simp only [lens]; omega) | (simp only [Bool.cond_decide]; omega) | (simp only [nadd_eq]; omega) | grind), (by intro hg; first | exact hg | skip; (try simp only [bs] at hg ⊢); first | exact hg | first | omega | (simp only [lens]; omega) | (simp only [Bool.cond_decide]; omega) | (simp only [nadd_eq]; omega) | grind), (by intro hg; first | exact hg | skip; (try simp only [bs] at hg); first | exact hg | first | omega | (simp only [lens]; omega) | (simp only [Bool.cond_decide]; omega) | (simp only [nadd_eq]; omega) | grind), (by intro hg; first | exact hg | skip; (try simp only [bs] at hg ⊢); first | exact hg | first | omega | (simp only [lens]; omega) | (simp only [Bool.cond_decide]; omega) | (simp only [nadd_eq]; omega) | grind), (by intro hg; first | exact hg | skip; (try simp only [bs] at hg ⊢); first | exact hg | first | omega | (simp only [lens]; omega) | (simp only [Bool.cond_decide]; omega) | (simp only [nadd_eq]; omega) | grind), (fun h => h), trivial⟩ ?_
        refine awp_cond (b := ((decide (o ≠ o)) || (decide ((((List.length (farOf nN (bothA eS) uU)) : Nat) : Int) ≠ nN)))) (by kernel_rfl) (fun c21 => ?_) (fun c21 => ?_)
        ·
          try simp only [bs] at c21
          exfalso; rw [hFl] at c21; simp at c21
        ·
          try simp only [bs] at c21
          refine awp_skip ?_
          refine awp_seq ?_
          refine awp_run_seq [2, 18, 20, 152] [] [] ⟨162, [(2, .one (.int .i64 vV)), (18, .one (.ro (.ints .i64 (farOf nN (bothA eS) uU)))), (20, .one (.int .i64 (cntVal nN (eS ++ [⟨uU, vV, 0⟩])))), (152, .one (.bool (decide (uU = vV))))], []⟩ hT (by kernel_rfl) trivial ?_
          refine awp_cond (b := (decide (uU = vV))) (by kernel_rfl) (fun c23 => ?_) (fun c23 => ?_)
          ·
            try simp only [bs] at c23
            have hfm : cntVal nN (eS ++ [⟨uU, vV, 0⟩]) = 1 := by rcases hM with ⟨_, q⟩ | ⟨q, _⟩; exact q; exact absurd c23 q
            refine awp_run_seq [6] [] [] ⟨162, [(6, .one (.bool (decide ((cntVal nN (eS ++ [⟨uU, vV, 0⟩])) = 1))))], []⟩ hT (by kernel_rfl) trivial ?_
            refine awp_ret ?_
            refine kRet.ret _ [] [] (.one (.bool (decide ((cntVal nN (eS ++ [⟨uU, vV, 0⟩])) = 1)))) [] (by kernel_rfl) trivial ?_
            exact ⟨congrArg (fun x1 => (.one (.bool x1) : AV)) (show (decide ((cntVal nN (eS ++ [⟨uU, vV, 0⟩])) = 1)) = true from by rw [hfm]; rfl), rfl⟩
          ·
            try simp only [bs] at c23
            have hfm : cntVal nN (eS ++ [⟨uU, vV, 0⟩]) = (farOf nN (bothA eS) uU).getD vV.toNat 0 + 1 := by rcases hM with ⟨q, _⟩ | ⟨_, q⟩; exact absurd q c23; exact q
            have hfa := farAt_in (n := nN) (s := uU) (es := bothA eS) (by omega) hA.both vV.toNat
            rw [← farOf_at (n := nN) (s := uU) (es := bothA eS) (v := vV.toNat) (by omega)] at hfa
            refine awp_skip ?_
            refine awp_run_seq [6] [] [((0 : Int) ≤ vV), (vV < (((List.length (farOf nN (bothA eS) uU)) : Nat) : Int)), (-9223372036854775808 ≤ ((List.getD (farOf nN (bothA eS) uU) (Int.toNat vV) 0) + 1) ∧ ((List.getD (farOf nN (bothA eS) uU) (Int.toNat vV) 0) + 1) ≤ 9223372036854775807)] ⟨162, [(6, .one (.bool (decide ((cntVal nN (eS ++ [⟨uU, vV, 0⟩])) = ((List.getD (farOf nN (bothA eS) uU) (Int.toNat vV) 0) + 1)))))], []⟩ hT (by kernel_rfl) ⟨(by omega), (by omega), (by omega), trivial⟩ ?_
            refine awp_ret ?_
            refine kRet.ret _ [] [] (.one (.bool (decide ((cntVal nN (eS ++ [⟨uU, vV, 0⟩])) = ((List.getD (farOf nN (bothA eS) uU) (Int.toNat vV) 0) + 1))))) [] (by kernel_rfl) trivial ?_
            exact ⟨congrArg (fun x1 => (.one (.bool x1) : AV)) (show (decide ((cntVal nN (eS ++ [⟨uU, vV, 0⟩])) = ((List.getD (farOf nN (bothA eS) uU) (Int.toNat vV) 0) + 1))) = true from by rw [hfm]; simp), rfl⟩
end Go.Ab
