/- WalkSides returns true. -/
import Derived.Test.YtdglhalkilneaaaTab
import Derived.Test.YtdglhalkilneaaaWalk2
import Derived.Test.YtdglhalkilneaaaFun2
import Derived.Test.YtdglhalkilneaaaG2
set_option maxRecDepth 100000
namespace Go.Ab
open Go Go.Proofs
theorem sides1 (l : List Int) (a : Arc) (ha : 0 ≤ a.src ∧ a.src < l.length ∧ 0 ≤ a.dst ∧ a.dst < l.length) : ACall Try.prog 99 [.agg [(.int .i64 a.src), (.int .i64 a.dst), (.int .i64 a.cap)], .one (.rq (.rows [l]) 0 0)] [] (fun ov oh => ov = .one (.bool (eqSide l a)) ∧ oh = []) := by
  refine acall_intro hT Try.func99 rfl (by kernel_rfl) rfl (by kernel_rfl) ?_
  refine awp_run_seq [1, 2] [102] [] ⟨15, [(1, .one (.rq (.rows [l]) 0 0)), (2, .one (.ptr 102 0 0))], [(102, .box 1 3 [(.int .i64 a.src), (.int .i64 a.dst), (.int .i64 a.cap)])]⟩ hT (by kernel_rfl) trivial ?_
  refine awp_seq (awp_still [3] [] [(0 < 1), ((0 : Int) ≤ a.src), (a.src < ((l.length : Nat) : Int)), (0 < 1), ((0 : Int) ≤ a.dst), (a.dst < ((l.length : Nat) : Int))] ⟨15, [(3, .one (.bool (decide ((List.getD l (Int.toNat a.src) 0) = (List.getD l (Int.toNat a.dst) 0)))))], []⟩ (by kernel_rfl) (by kernel_rfl) hT (by kernel_rfl) ⟨(by decide), (by first | omega | (simp only [lens]; omega) | (simp only [Bool.cond_decide]; omega)), (by first | omega | (simp only [lens]; omega) | (simp only [Bool.cond_decide]; omega)), (by decide), (by first | omega | (simp only [lens]; omega) | (simp only [Bool.cond_decide]; omega)), (by first | omega | (simp only [lens]; omega) | (simp only [Bool.cond_decide]; omega)), trivial⟩ ?_)
  refine awp_ret ?_
  refine kRet.ret _ [] [] (.one (.bool (decide ((List.getD l (Int.toNat a.src) 0) = (List.getD l (Int.toNat a.dst) 0))))) [] (by kernel_rfl) trivial ?_
  exact ⟨congrArg (fun x1 => (.one (.bool x1) : AV)) (show (decide ((List.getD l (Int.toNat a.src) 0) = (List.getD l (Int.toNat a.dst) 0))) = (eqSide l a) from by rfl), rfl⟩

theorem ref_sidesOf (n : Int) (es : List Arc) (h1 : 1 ≤ n) (h2 : n ≤ 12) (hl : es.length ≤ 60) (hA : InR n es) : ACall Try.prog 24 [.agg [(.int .i64 n), (.ro (.arcs es))]] [] (fun ov oh => ov = .tup [(false, [(.ro (.ints .i64 (sidesOf n es)))]), (false, [(.bool (!(List.any es (eqSide (sidesOf n es)))))])] ∧ oh = []) := by
  refine acall_intro hT Try.func24 rfl (by kernel_rfl) rfl (by kernel_rfl) ?_
  have hA2 : InR n (bothA es) := hA.both
  have hWl := waysOf_len n (bothA es)
  have hjl := joinedOf_len n es
  refine awp_run_seq [1] [101] [] ⟨39, [(1, .one (.ptr 101 0 0))], [(101, .box 1 2 [(.int .i64 n), (.ro (.arcs es))])]⟩ hT (by kernel_rfl) trivial ?_
  refine awp_seq (awp_region ?_)
  refine aops_run 1 [1, 8] [101] [(0 < 1)] ⟨39, [(1, .one (.ptr 101 0 0)), (8, .agg [(.int .i64 n), (.ro (.arcs es))])], [(101, .box 1 2 [(.int .i64 n), (.ro (.arcs es))])]⟩ hT (by kernel_rfl) (by kernel_rfl) ⟨(by decide), trivial⟩ ?_
  refine aops_pure false ⟨true, [], 97, [.agg [(.int .i64 n), (.ro (.arcs es))]], []⟩ [.agg [(.int .i64 n), (.ro (.arcs es))]] (.agg [(.int .i64 n), (.ro (.arcs (bothA es)))]) ⟨39, [(1, .one (.ptr 101 0 0)), (8, .agg [(.int .i64 n), (.ro (.arcs es))]), (9, .agg [(.int .i64 n), (.ro (.arcs (bothA es)))])], [(101, .box 1 2 [(.int .i64 n), (.ro (.arcs es))])]⟩ (by kernel_rfl) (by kernel_rfl) (fun _ => trivial) rfl (fun _ => ref_both n es (by first | assumption | omega)) ?_
  refine aops_pure false ⟨true, [], 30, [.agg [(.int .i64 n), (.ro (.arcs (bothA es)))]], []⟩ [.agg [(.int .i64 n), (.ro (.arcs (bothA es)))]] (.one (.rs (.rows (waysOf n (bothA es))))) ⟨39, [(1, .one (.ptr 101 0 0)), (8, .agg [(.int .i64 n), (.ro (.arcs es))]), (9, .agg [(.int .i64 n), (.ro (.arcs (bothA es)))]), (10, .one (.rs (.rows (waysOf n (bothA es)))))], [(101, .box 1 2 [(.int .i64 n), (.ro (.arcs es))])]⟩ (by kernel_rfl) (by kernel_rfl) (fun _ => trivial) rfl (fun _ => ref_ways n (bothA es) (by omega) (by omega) (by assumption)) ?_
  refine aops_run 1 [1, 4] [101] [] ⟨39, [(1, .one (.ptr 101 0 0)), (4, .one (.rs (.rows (waysOf n (bothA es)))))], [(101, .box 1 2 [(.int .i64 n), (.ro (.arcs es))])]⟩ hT (by kernel_rfl) (by kernel_rfl) trivial ?_
  refine aops_end_seq (by kernel_rfl) ?_
  refine awp_seq (awp_region ?_)
  refine aops_run 1 [1, 4, 11] [101] [(0 < 1)] ⟨39, [(1, .one (.ptr 101 0 0)), (4, .one (.rs (.rows (waysOf n (bothA es))))), (11, .agg [(.int .i64 n), (.ro (.arcs es))])], [(101, .box 1 2 [(.int .i64 n), (.ro (.arcs es))])]⟩ hT (by kernel_rfl) (by kernel_rfl) ⟨(by decide), trivial⟩ ?_
  refine aops_pure false ⟨true, [], 29, [.agg [(.int .i64 n), (.ro (.arcs es))]], []⟩ [.agg [(.int .i64 n), (.ro (.arcs es))]] (.one (.ro (.ints .i64 (joinedOf n es)))) ⟨39, [(1, .one (.ptr 101 0 0)), (4, .one (.rs (.rows (waysOf n (bothA es))))), (11, .agg [(.int .i64 n), (.ro (.arcs es))]), (12, .one (.ro (.ints .i64 (joinedOf n es))))], [(101, .box 1 2 [(.int .i64 n), (.ro (.arcs es))])]⟩ (by kernel_rfl) (by kernel_rfl) (fun _ => trivial) rfl (fun _ => ref_joined n es (by omega) (by omega) (by omega) (by assumption)) ?_
  refine aops_run 1 [1, 4, 5] [101] [] ⟨39, [(1, .one (.ptr 101 0 0)), (4, .one (.rs (.rows (waysOf n (bothA es))))), (5, .one (.ro (.ints .i64 (joinedOf n es))))], [(101, .box 1 2 [(.int .i64 n), (.ro (.arcs es))])]⟩ hT (by kernel_rfl) (by kernel_rfl) trivial ?_
  refine aops_end_seq (by kernel_rfl) ?_
  refine awp_run_seq [1, 4, 5, 6] [101, 106] [] ⟨39, [(1, .one (.ptr 101 0 0)), (4, .one (.rs (.rows (waysOf n (bothA es))))), (5, .one (.ro (.ints .i64 (joinedOf n es)))), (6, .one (.ptr 106 0 0))], [(101, .box 1 2 [(.int .i64 n), (.ro (.arcs es))]), (106, .box 1 1 [.nils])]⟩ hT (by kernel_rfl) trivial ?_
  refine awp_seq ?_
  refine awp_run_seq [1, 4, 5, 6, 14, 15] [101, 106] [] ⟨39, [(1, .one (.ptr 101 0 0)), (4, .one (.rs (.rows (waysOf n (bothA es))))), (5, .one (.ro (.ints .i64 (joinedOf n es)))), (6, .one (.ptr 106 0 0)), (14, .one (.int .i64 (((List.length (waysOf n (bothA es))) : Nat) : Int))), (15, .one (.int .i64 0))], [(101, .box 1 2 [(.int .i64 n), (.ro (.arcs es))]), (106, .box 1 1 [.nils])]⟩ hT (by kernel_rfl) trivial ?_
  refine awp_block ?_
  refine awp_weak (awk_empty 6600 (.flat (.ints .i64 [])) rfl (by decide) _) ?_
  refine awp_weak (awk_boxcell 106 0 1 1 [.nils] .nils (.rw 6600 0 0) _ (by kernel_rfl) rfl (wkv_nils (o := .flat (.ints .i64 [])) (by kernel_rfl))) ?_
  refine awp_loop (I := fun κ σ => ∃ (i : Nat) (b : List Int), ((i ≤ n.toNat) ∧ (b = (List.range i).map (sideAt n es)) ∧ n.toNat - i = κ) ∧ σ = ⟨39, [(1, .one (.ptr 101 0 0)), (4, .one (.rs (.rows (waysOf n (bothA es))))), (5, .one (.ro (.ints .i64 (joinedOf n es)))), (6, .one (.ptr 106 0 0)), (14, .one (.int .i64 (((List.length (waysOf n (bothA es))) : Nat) : Int))), (15, .one (.int .i64 ((i : Nat) : Int)))], [(101, .box 1 2 [(.int .i64 n), (.ro (.arcs es))]), (106, .box 1 1 [(.rw 6600 0 b.length)]), (6600, .flat (.ints .i64 b))]⟩) _ ⟨0, [], ⟨(by omega), (by rfl), rfl⟩, (by kernel_rfl)⟩ ?_
  rintro κ _ ⟨i, b, ⟨hi, hb, rfl⟩, rfl⟩
  have hbl : b.length = i := by rw [hb]; simp
  refine awp_run_seq [1, 4, 5, 6, 14, 15, 16] [101, 106, 6600] [] ⟨39, [(1, .one (.ptr 101 0 0)), (4, .one (.rs (.rows (waysOf n (bothA es))))), (5, .one (.ro (.ints .i64 (joinedOf n es)))), (6, .one (.ptr 106 0 0)), (14, .one (.int .i64 (((List.length (waysOf n (bothA es))) : Nat) : Int))), (15, .one (.int .i64 ((i : Nat) : Int))), (16, .one (.bool (decide (((i : Nat) : Int) < (((List.length (waysOf n (bothA es))) : Nat) : Int)))))], [(101, .box 1 2 [(.int .i64 n), (.ro (.arcs es))]), (106, .box 1 1 [(.rw 6600 0 b.length)]), (6600, .flat (.ints .i64 b))]⟩ hT (by kernel_rfl) trivial ?_
  refine awp_seq ?_
  refine awp_cond (b := (decide (((i : Nat) : Int) < (((List.length (waysOf n (bothA es))) : Nat) : Int)))) (by kernel_rfl) (fun c5 => ?_) (fun c5 => ?_)
  · -- yes 5
    try simp only [bs] at c5
    obtain ⟨r0, r1, _, _⟩ := root_at h2 hA (v := i) (by omega)
    unfold rootOf at r0 r1
    have hrl := row_len (n := n) (es := bothA es) (u := ((joinedOf n es).getD i 0).toNat) (by omega)
    refine awp_skip ?_
    refine awp_seq ?_
    refine awp_block ?_
    refine awp_run_seq [1, 4, 5, 6, 7, 14, 15] [101, 106, 6600] [] ⟨39, [(1, .one (.ptr 101 0 0)), (4, .one (.rs (.rows (waysOf n (bothA es))))), (5, .one (.ro (.ints .i64 (joinedOf n es)))), (6, .one (.ptr 106 0 0)), (7, .one (.int .i64 ((i : Nat) : Int))), (14, .one (.int .i64 (((List.length (waysOf n (bothA es))) : Nat) : Int))), (15, .one (.int .i64 ((i : Nat) : Int)))], [(101, .box 1 2 [(.int .i64 n), (.ro (.arcs es))]), (106, .box 1 1 [(.rw 6600 0 b.length)]), (6600, .flat (.ints .i64 b))]⟩ hT (by kernel_rfl) trivial ?_
    -- 13 of 15 operations in any order; 1 orders of the rest
    refine awp_calm2 [] false [[], [], [], [], [2, 3], [2, 3, 4], [1, 2, 3, 4, 5], [1, 2, 3, 4, 5, 6], [], [1, 2, 3, 4, 5, 6, 7, 8], [1, 2, 3, 4, 5, 6, 7, 8, 9], [1, 2, 3, 4, 5, 6, 7, 8, 9, 10], [1, 2, 3, 4, 5, 6, 7, 8, 9, 10, 11], [0, 1, 2, 3, 4, 5, 6, 7, 8, 9, 10, 11, 12], [0, 1, 2, 3, 4, 5, 6, 7, 8, 9, 10, 11, 12, 13]] 13 [1, 4, 5, 6, 14, 15] [101, 106, 6600] [(0, [(0 < 1)]), (1, []), (2, []), (3, []), (4, [((0 : Int) ≤ ((i : Nat) : Int)), (((i : Nat) : Int) < (((List.length (joinedOf n es)) : Nat) : Int))]), (5, []), (6, [((0 : Int) ≤ (List.getD (joinedOf n es) i 0)), ((List.getD (joinedOf n es) i 0) < (((List.length (waysOf n (bothA es))) : Nat) : Int))]), (7, []), (8, []), (9, [((0 : Int) ≤ ((i : Nat) : Int)), (((i : Nat) : Int) < (((List.length (List.getD (waysOf n (bothA es)) (Int.toNat (List.getD (joinedOf n es) i 0)) [])) : Nat) : Int))]), (10, []), (11, [(2 ≠ (0 : Int))]), (12, [])] [(13, [(b.length = b.length), ((b.length + 1) * 8 ≤ 140737488355328), ((b.length + 1) ≤ 9223372036854775807)]), (14, [(0 < 1)])] 1 ⟨39, [(1, .one (.ptr 101 0 0)), (4, .one (.rs (.rows (waysOf n (bothA es))))), (5, .one (.ro (.ints .i64 (joinedOf n es)))), (6, .one (.ptr 106 0 0)), (14, .one (.int .i64 (((List.length (waysOf n (bothA es))) : Nat) : Int))), (15, .one (.int .i64 ((i : Nat) : Int)))], [(101, .box 1 2 [(.int .i64 n), (.ro (.arcs es))]), (106, .box 1 1 [(.rw 6600 0 (b.length + 1))]), (6600, .flat (.ints .i64 (b ++ [(Int.tmod (List.getD (List.getD (waysOf n (bothA es)) (Int.toNat (List.getD (joinedOf n es) i 0)) []) i 0) 2)])))]⟩ (by kernel_rfl) (by kernel_rfl) hT (by kernel_rfl) (by kernel_rfl) ⟨⟨(by decide), trivial⟩, trivial, trivial, trivial, ⟨(by first | omega | (simp only [lens]; omega) | (simp only [Bool.cond_decide]; omega)), (by first | omega | (simp only [lens]; omega) | (simp only [Bool.cond_decide]; omega)), trivial⟩, trivial, ⟨(by first | omega | (simp only [lens]; omega) | (simp only [Bool.cond_decide]; omega)), (by first | omega | (simp only [lens]; omega) | (simp only [Bool.cond_decide]; omega)), trivial⟩, trivial, trivial, ⟨(by first | omega | (simp only [lens]; omega) | (simp only [Bool.cond_decide]; omega)), (by first | omega | (simp only [lens]; omega) | (simp only [Bool.cond_decide]; omega)), trivial⟩, trivial, ⟨(by first | omega | (simp only [lens]; omega) | (simp only [Bool.cond_decide]; omega)), trivial⟩, trivial, trivial⟩ ⟨⟨(by first | omega | (simp only [lens]; omega) | (simp only [Bool.cond_decide]; omega)), (by first | omega | (simp only [lens]; omega) | (simp only [Bool.cond_decide]; omega)), (by first | omega | (simp only [lens]; omega) | (simp only [Bool.cond_decide]; omega)), trivial⟩, ⟨(by decide), trivial⟩, trivial⟩ ?_
    refine awp_run [1, 4, 5, 6, 14, 15] [101, 106, 6600] [(-9223372036854775808 ≤ (((i + 1) : Nat) : Int) ∧ (((i + 1) : Nat) : Int) ≤ 9223372036854775807)] ⟨39, [(1, .one (.ptr 101 0 0)), (4, .one (.rs (.rows (waysOf n (bothA es))))), (5, .one (.ro (.ints .i64 (joinedOf n es)))), (6, .one (.ptr 106 0 0)), (14, .one (.int .i64 (((List.length (waysOf n (bothA es))) : Nat) : Int))), (15, .one (.int .i64 (((i + 1) : Nat) : Int)))], [(101, .box 1 2 [(.int .i64 n), (.ro (.arcs es))]), (106, .box 1 1 [(.rw 6600 0 (b.length + 1))]), (6600, .flat (.ints .i64 (b ++ [(Int.tmod (List.getD (List.getD (waysOf n (bothA es)) (Int.toNat (List.getD (joinedOf n es) i 0)) []) i 0) 2)])))]⟩ hT (by kernel_rfl) ⟨(by first | omega | (simp only [lens]; omega) | (simp only [Bool.cond_decide]; omega)), trivial⟩ ?_
    refine loop_end _ ?_ ⟨(i + 1), (b ++ [(Int.tmod (List.getD (List.getD (waysOf n (bothA es)) (Int.toNat (List.getD (joinedOf n es) i 0)) []) i 0) 2)]), ⟨(by omega), (by rw [hb, List.range_succ, List.map_append]; rfl), rfl⟩, (by first | (simp only [lens]; done) | (simp only [Nat.zero_add]; done) | simp only [lens, Nat.zero_add])⟩
    omega
  · -- no 5
    try simp only [bs] at c5
    have hfin : b = sidesOf n es := by rw [hb, show i = n.toNat by omega]; rfl
    have hIn : ∀ a ∈ es, 0 ≤ a.src ∧ a.src < b.length ∧ 0 ≤ a.dst ∧ a.dst < b.length := fun a ha => by have := hA a ha; omega
    refine awp_exit ?_
    refine awp_weak (awk_seal 6600 (s' := ⟨39, [(1, .one (.ptr 101 0 0)), (4, .one (.rs (.rows (waysOf n (bothA es))))), (5, .one (.ro (.ints .i64 (joinedOf n es)))), (6, .one (.ptr 106 0 0)), (14, .one (.int .i64 (((List.length (waysOf n (bothA es))) : Nat) : Int))), (15, .one (.int .i64 ((i : Nat) : Int))), (16, .one (.bool (decide (((i : Nat) : Int) < (((List.length (waysOf n (bothA es))) : Nat) : Int)))))], [(101, .box 1 2 [(.int .i64 n), (.ro (.arcs es))]), (106, .box 1 1 [(.ro (.ints .i64 (List.take b.length b)))])]⟩) (by kernel_rfl)) ?_
    rw [show (List.take b.length b) = b from List.take_of_length_le (by first | omega | simp)]
    refine awp_weak (awk_sealbox 106 (s' := ⟨39, [(1, .one (.ptr 101 0 0)), (4, .one (.rs (.rows (waysOf n (bothA es))))), (5, .one (.ro (.ints .i64 (joinedOf n es)))), (6, .one (.rq (.rows [b]) 0 0)), (14, .one (.int .i64 (((List.length (waysOf n (bothA es))) : Nat) : Int))), (15, .one (.int .i64 ((i : Nat) : Int))), (16, .one (.bool (decide (((i : Nat) : Int) < (((List.length (waysOf n (bothA es))) : Nat) : Int)))))], [(101, .box 1 2 [(.int .i64 n), (.ro (.arcs es))])]⟩) (by kernel_rfl)) ?_
    -- 8 of 8 operations in any order; 1 orders of the rest
    refine awp_seq (awp_calm2 [(4, ⟨[.one (.ro (.arcs es)), .one (.fn 99 [(.rq (.rows [b]) 0 0)])], .one (.bool (List.any es (eqSide b))), [], []⟩)] false [[], [], [1], [], [1, 2, 3], [1, 2, 3, 4], [0, 1, 2, 3, 4], [0, 1, 2, 3, 4, 5, 6]] 8 [2, 3] [] [(0, []), (1, []), (2, [(0 < 1)]), (3, []), (4, [(true = true → (AllP [] ∧ [.one (.ro (.arcs es)), .one (.fn 99 [(.rq (.rows [b]) 0 0)])] = ([.one (.ro (.arcs es)), .one (.fn 99 [(.rq (.rows [b]) 0 0)])] : List AV) ∧ ACall Try.prog 98 [.one (.ro (.arcs es)), .one (.fn 99 [(.rq (.rows [b]) 0 0)])] [] (fun ov oh => ov = .one (.bool (List.any es (eqSide b))) ∧ oh = [])))]), (5, []), (6, []), (7, [])] [] 1 ⟨39, [(2, .one (.ro (.ints .i64 b))), (3, .one (.bool (!(List.any es (eqSide b)))))], []⟩ (by kernel_rfl) (by kernel_rfl) hT (by kernel_rfl) (by kernel_rfl) ⟨trivial, trivial, ⟨(by decide), trivial⟩, trivial, ⟨(fun _ => ⟨trivial, rfl, hasf_arcs_q 99 (eqSide b) es b (fun x hx => sides1 b x (hIn x hx))⟩), trivial⟩, trivial, trivial, trivial, trivial⟩ trivial ?_)
    refine awp_ret ?_
    refine kRet.ret _ [] [] (.tup [(false, [(.ro (.ints .i64 b))]), (false, [(.bool (!(List.any es (eqSide b))))])]) [] (by kernel_rfl) trivial ?_
    exact ⟨by first | rw [show (sidesOf n es) = b from Eq.symm (by rw [hfin]), show (!(List.any es (eqSide (sidesOf n es)))) = (!(List.any es (eqSide b))) from Eq.symm (by rw [hfin])] | rw [show (sidesOf n es) = b from Eq.symm (by rw [hfin])] | rw [show (!(List.any es (eqSide (sidesOf n es)))) = (!(List.any es (eqSide b))) from Eq.symm (by rw [hfin])], rfl⟩

theorem walkSides_law (n : Int) (es : List Arc) : ACall Try.prog 4 [.agg [(.int .i64 n), (.ro (.arcs es))]] [] (fun ov oh => ov = .one (.bool true) ∧ oh = []) := by
  refine acall_intro hT Try.func4 rfl (by kernel_rfl) rfl (by kernel_rfl) ?_
  refine awp_run_seq [1] [101] [] ⟨46, [(1, .one (.ptr 101 0 0))], [(101, .box 1 2 [(.int .i64 n), (.ro (.arcs es))])]⟩ hT (by kernel_rfl) trivial ?_
  refine awp_seq (awp_region ?_)
  refine aops_run 1 [1, 9] [101] [(0 < 1)] ⟨46, [(1, .one (.ptr 101 0 0)), (9, .agg [(.int .i64 n), (.ro (.arcs es))])], [(101, .box 1 2 [(.int .i64 n), (.ro (.arcs es))])]⟩ hT (by kernel_rfl) (by kernel_rfl) ⟨(by decide), trivial⟩ ?_
  refine aops_pure false ⟨true, [], 22, [.agg [(.int .i64 n), (.ro (.arcs es))]], []⟩ [.agg [(.int .i64 n), (.ro (.arcs es))]] (.tup [(false, [(.ro (.ints .i64 (okL (sidesErr n es) (sidesOf n es))))]), (false, [(.int .i64 (sidesErr n es))])]) ⟨46, [(1, .one (.ptr 101 0 0)), (9, .agg [(.int .i64 n), (.ro (.arcs es))]), (10, .tup [(false, [(.ro (.ints .i64 (okL (sidesErr n es) (sidesOf n es))))]), (false, [(.int .i64 (sidesErr n es))])])], [(101, .box 1 2 [(.int .i64 n), (.ro (.arcs es))])]⟩ (by kernel_rfl) (by kernel_rfl) (fun _ => trivial) rfl (fun _ => walk_sides n es) ?_
  refine aops_run 5 [1, 3, 4] [101] [] ⟨46, [(1, .one (.ptr 101 0 0)), (3, .one (.ro (.ints .i64 (okL (sidesErr n es) (sidesOf n es))))), (4, .one (.int .i64 (sidesErr n es)))], [(101, .box 1 2 [(.int .i64 n), (.ro (.arcs es))])]⟩ hT (by kernel_rfl) (by kernel_rfl) trivial ?_
  refine aops_end_seq (by kernel_rfl) ?_
  refine awp_seq ?_
  refine awp_seq (awp_region ?_)
  refine aops_run 1 [1, 3, 4, 13] [101] [(0 < 1)] ⟨46, [(1, .one (.ptr 101 0 0)), (3, .one (.ro (.ints .i64 (okL (sidesErr n es) (sidesOf n es))))), (4, .one (.int .i64 (sidesErr n es))), (13, .agg [(.int .i64 n), (.ro (.arcs es))])], [(101, .box 1 2 [(.int .i64 n), (.ro (.arcs es))])]⟩ hT (by kernel_rfl) (by kernel_rfl) ⟨(by decide), trivial⟩ ?_
  refine aops_pure false ⟨true, [], 23, [.agg [(.int .i64 n), (.ro (.arcs es))]], []⟩ [.agg [(.int .i64 n), (.ro (.arcs es))]] (.one (.int .i64 (graphErr n es (-10000)))) ⟨46, [(1, .one (.ptr 101 0 0)), (3, .one (.ro (.ints .i64 (okL (sidesErr n es) (sidesOf n es))))), (4, .one (.int .i64 (sidesErr n es))), (13, .agg [(.int .i64 n), (.ro (.arcs es))]), (14, .one (.int .i64 (graphErr n es (-10000))))], [(101, .box 1 2 [(.int .i64 n), (.ro (.arcs es))])]⟩ (by kernel_rfl) (by kernel_rfl) (fun _ => trivial) rfl (fun _ => ref_LongErr n es) ?_
  refine aops_run 1 [1, 3, 4, 5] [101] [] ⟨46, [(1, .one (.ptr 101 0 0)), (3, .one (.ro (.ints .i64 (okL (sidesErr n es) (sidesOf n es))))), (4, .one (.int .i64 (sidesErr n es))), (5, .one (.int .i64 (graphErr n es (-10000))))], [(101, .box 1 2 [(.int .i64 n), (.ro (.arcs es))])]⟩ hT (by kernel_rfl) (by kernel_rfl) trivial ?_
  refine aops_end_seq (by kernel_rfl) ?_
  refine awp_run_seq [1, 3, 4, 5, 16] [101] [] ⟨46, [(1, .one (.ptr 101 0 0)), (3, .one (.ro (.ints .i64 (okL (sidesErr n es) (sidesOf n es))))), (4, .one (.int .i64 (sidesErr n es))), (5, .one (.int .i64 (graphErr n es (-10000)))), (16, .one (.bool (decide ((graphErr n es (-10000)) ≠ 0))))], [(101, .box 1 2 [(.int .i64 n), (.ro (.arcs es))])]⟩ hT (by kernel_rfl) trivial ?_
  refine awp_cond (b := (decide ((graphErr n es (-10000)) ≠ 0))) (by kernel_rfl) (fun c3 => ?_) (fun c3 => ?_)
  · -- yes 3
    try simp only [bs] at c3
    refine awp_run_seq [2] [] [((decide ((sidesErr n es) = (graphErr n es (-10000)))) = true → ((decide ((sidesErr n es) = (graphErr n es (-10000)))) = true → (decide ((sidesErr n es) = (graphErr n es (-10000)))) = true)), ((decide ((sidesErr n es) = (graphErr n es (-10000)))) = true → ((decide ((sidesErr n es) = (graphErr n es (-10000)))) = true → (decide ((sidesErr n es) = (graphErr n es (-10000)))) = true)), ((decide ((sidesErr n es) = (graphErr n es (-10000)))) = true → (decide ((sidesErr n es) = (graphErr n es (-10000)))) = true)] ⟨46, [(2, .one (.bool ((decide ((sidesErr n es) = (graphErr n es (-10000)))) && (decide ((((List.length (okL (sidesErr n es) (sidesOf n es))) : Nat) : Int) = 0)))))], []⟩ hT (by kernel_rfl) ⟨(by intro hg; first | exact hg | skip; (try simp only [bs] at hg ⊢); first | exact hg | first | omega | (simp only [lens]; omega) | (simp only [Bool.cond_decide]; omega) | grind), (by intro hg; first | exact hg | skip; (try simp only [bs] at hg ⊢); first | exact hg | first | omega | (simp only [lens]; omega) | (simp only [Bool.cond_decide]; omega) | grind), (fun h => h), trivial⟩ ?_
    refine awp_ret ?_
    refine kRet.ret _ [] [] (.one (.bool ((decide ((sidesErr n es) = (graphErr n es (-10000)))) && (decide ((((List.length (okL (sidesErr n es) (sidesOf n es))) : Nat) : Int) = 0))))) [] (by kernel_rfl) trivial ?_
    exact ⟨congrArg (fun x1 => (.one (.bool x1) : AV)) (show ((decide ((sidesErr n es) = (graphErr n es (-10000)))) && (decide ((((List.length (okL (sidesErr n es) (sidesOf n es))) : Nat) : Int) = 0))) = true from by simp [sidesErr, okL, c3]), rfl⟩
  · -- no 3
    try simp only [bs] at c3
    have hE : (graphErr n es (-10000)) = 0 := by omega
    have hG := graphErr_ok hE
    have h1 := hG.n1
    have h2 := hG.n2
    have hA := hG.inR
    have hle := hG.len
    refine awp_skip ?_
    refine awp_seq (awp_region ?_)
    refine aops_run 1 [3, 4, 26] [] [(0 < 1)] ⟨46, [(3, .one (.ro (.ints .i64 (okL (sidesErr n es) (sidesOf n es))))), (4, .one (.int .i64 (sidesErr n es))), (26, .agg [(.int .i64 n), (.ro (.arcs es))])], []⟩ hT (by kernel_rfl) (by kernel_rfl) ⟨(by decide), trivial⟩ ?_
    refine aops_pure false ⟨true, [], 24, [.agg [(.int .i64 n), (.ro (.arcs es))]], []⟩ [.agg [(.int .i64 n), (.ro (.arcs es))]] (.tup [(false, [(.ro (.ints .i64 (sidesOf n es)))]), (false, [(.bool (!(List.any es (eqSide (sidesOf n es)))))])]) ⟨46, [(3, .one (.ro (.ints .i64 (okL (sidesErr n es) (sidesOf n es))))), (4, .one (.int .i64 (sidesErr n es))), (26, .agg [(.int .i64 n), (.ro (.arcs es))]), (27, .tup [(false, [(.ro (.ints .i64 (sidesOf n es)))]), (false, [(.bool (!(List.any es (eqSide (sidesOf n es)))))])])], []⟩ (by kernel_rfl) (by kernel_rfl) (fun _ => trivial) rfl (fun _ => ref_sidesOf n es (by omega) (by omega) (by omega) (by assumption)) ?_
    refine aops_run 5 [3, 4, 6, 7] [] [] ⟨46, [(3, .one (.ro (.ints .i64 (okL (sidesErr n es) (sidesOf n es))))), (4, .one (.int .i64 (sidesErr n es))), (6, .one (.ro (.ints .i64 (sidesOf n es)))), (7, .one (.bool (!(List.any es (eqSide (sidesOf n es))))))], []⟩ hT (by kernel_rfl) (by kernel_rfl) trivial ?_
    refine aops_end_seq (by kernel_rfl) ?_
    refine awp_seq ?_
    refine awp_run_seq [3, 4, 6, 31] [] [] ⟨46, [(3, .one (.ro (.ints .i64 (okL (sidesErr n es) (sidesOf n es))))), (4, .one (.int .i64 (sidesErr n es))), (6, .one (.ro (.ints .i64 (sidesOf n es)))), (31, .one (.bool (!(!(List.any es (eqSide (sidesOf n es)))))))], []⟩ hT (by kernel_rfl) trivial ?_
    refine awp_cond (b := (!(!(List.any es (eqSide (sidesOf n es)))))) (by kernel_rfl) (fun c6 => ?_) (fun c6 => ?_)
    · -- yes 6
      try simp only [bs] at c6
      refine awp_run_seq [2] [] [((decide ((sidesErr n es) = 6)) = true → ((decide ((sidesErr n es) = 6)) = true → (decide ((sidesErr n es) = 6)) = true)), ((decide ((sidesErr n es) = 6)) = true → ((decide ((sidesErr n es) = 6)) = true → (decide ((sidesErr n es) = 6)) = true)), ((decide ((sidesErr n es) = 6)) = true → (decide ((sidesErr n es) = 6)) = true)] ⟨46, [(2, .one (.bool ((decide ((sidesErr n es) = 6)) && (decide ((((List.length (okL (sidesErr n es) (sidesOf n es))) : Nat) : Int) = 0)))))], []⟩ hT (by kernel_rfl) ⟨(by intro hg; first | exact hg | skip; (try simp only [bs] at hg ⊢); first | exact hg | first | omega | (simp only [lens]; omega) | (simp only [Bool.cond_decide]; omega) | grind), (by intro hg; first | exact hg | skip; (try simp only [bs] at hg ⊢); first | exact hg | first | omega | (simp only [lens]; omega) | (simp only [Bool.cond_decide]; omega) | grind), (fun h => h), trivial⟩ ?_
      refine awp_ret ?_
      have hS : sidesErr n es = 6 := by rw [sidesErr, if_neg (by omega), if_pos c6]
      refine kRet.ret _ [] [] (.one (.bool ((decide ((sidesErr n es) = 6)) && (decide ((((List.length (okL (sidesErr n es) (sidesOf n es))) : Nat) : Int) = 0))))) [] (by kernel_rfl) trivial ?_
      exact ⟨congrArg (fun x1 => (.one (.bool x1) : AV)) (show ((decide ((sidesErr n es) = 6)) && (decide ((((List.length (okL (sidesErr n es) (sidesOf n es))) : Nat) : Int) = 0))) = true from by simp [hS, okL]), rfl⟩
    · -- no 6
      try simp only [bs] at c6
      refine awp_skip ?_
      refine awp_seq (awp_region ?_)
      refine aops_run 5 [41, 42, 43] [] [] ⟨46, [(41, .one (.bool (decide ((sidesErr n es) = 0)))), (42, .whn (decide ((sidesErr n es) = 0)) (.one (.ro (.ints .i64 (okL (sidesErr n es) (sidesOf n es)))))), (43, .whn (decide ((sidesErr n es) = 0)) (.one (.ro (.ints .i64 (sidesOf n es)))))], []⟩ hT (by kernel_rfl) (by kernel_rfl) trivial ?_
      refine aops_pure false ⟨(decide ((sidesErr n es) = 0)), [((decide ((sidesErr n es) = 0)) = true → (decide ((sidesErr n es) = 0)) = true), ((decide ((sidesErr n es) = 0)) = true → (decide ((sidesErr n es) = 0)) = true)], 25, [.one (.ro (.ints .i64 (okL (sidesErr n es) (sidesOf n es)))), .one (.ro (.ints .i64 (sidesOf n es)))], []⟩ [.one (.ro (.ints .i64 (okL (sidesErr n es) (sidesOf n es)))), .one (.ro (.ints .i64 (sidesOf n es)))] (.one (.bool (decide ((okL (sidesErr n es) (sidesOf n es)) = (sidesOf n es))))) ⟨46, [(41, .one (.bool (decide ((sidesErr n es) = 0)))), (42, .whn (decide ((sidesErr n es) = 0)) (.one (.ro (.ints .i64 (okL (sidesErr n es) (sidesOf n es)))))), (43, .whn (decide ((sidesErr n es) = 0)) (.one (.ro (.ints .i64 (sidesOf n es))))), (44, .whn (decide ((sidesErr n es) = 0)) (.one (.bool (decide ((okL (sidesErr n es) (sidesOf n es)) = (sidesOf n es))))))], []⟩ (by kernel_rfl) (by kernel_rfl) (fun _ => ⟨(fun h => h), (fun h => h), trivial⟩) rfl (fun _ => equal_ints (okL (sidesErr n es) (sidesOf n es)) (sidesOf n es)) ?_
      refine aops_run 2 [2] [] [((decide ((sidesErr n es) = 0)) = true → (decide ((sidesErr n es) = 0)) = true)] ⟨46, [(2, .one (.bool ((decide ((sidesErr n es) = 0)) && (decide ((okL (sidesErr n es) (sidesOf n es)) = (sidesOf n es))))))], []⟩ hT (by kernel_rfl) (by kernel_rfl) ⟨(fun h => h), trivial⟩ ?_
      refine aops_end_seq (by kernel_rfl) ?_
      refine awp_ret ?_
      have hS : sidesErr n es = 0 := by rw [sidesErr, if_neg (by omega), c6]; rfl
      refine kRet.ret _ [] [] (.one (.bool ((decide ((sidesErr n es) = 0)) && (decide ((okL (sidesErr n es) (sidesOf n es)) = (sidesOf n es)))))) [] (by kernel_rfl) trivial ?_
      exact ⟨congrArg (fun x1 => (.one (.bool x1) : AV)) (show ((decide ((sidesErr n es) = 0)) && (decide ((okL (sidesErr n es) (sidesOf n es)) = (sidesOf n es)))) = true from by simp [hS, okL]), rfl⟩

end Go.Ab
