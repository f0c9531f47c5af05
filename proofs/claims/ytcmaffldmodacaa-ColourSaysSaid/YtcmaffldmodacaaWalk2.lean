/- Of ways: the sides. -/
import Derived.Test.YtcmaffldmodacaaTab
import Derived.Test.YtcmaffldmodacaaWalk1
import Derived.Test.YtcmaffldmodacaaPlSides
set_option maxRecDepth 100000
namespace Go.Ab
open Go Go.Proofs
theorem walk_both (n : Int) (es : List Arc) (hl : es.length ≤ 60) : ACall Try.prog 59 [.agg [(.int .i64 n), (.ro (.arcs es))]] [] (fun ov oh => ov = .agg [(.int .i64 n), (.ro (.arcs (twice es)))] ∧ oh = []) := by
  refine acall_intro hT Try.func59 rfl (by kernel_rfl) rfl (by kernel_rfl) ?_
  refine awp_run_seq [1, 2] [101, 102] [] ⟨29, [(1, .one (.ptr 101 0 0)), (2, .one (.ptr 102 0 0))], [(101, .box 1 2 [(.int .i64 n), (.ro (.arcs es))]), (102, .box 1 2 [(.int .i64 0), .nils])]⟩ hT (by kernel_rfl) trivial ?_
  refine awp_run_seq [1, 2, 3] [101, 102, 103] [(0 < 1), (0 < 1)] ⟨29, [(1, .one (.ptr 101 0 0)), (2, .one (.ptr 102 0 0)), (3, .one (.ptr 103 0 0))], [(101, .box 1 2 [(.int .i64 n), (.ro (.arcs es))]), (102, .box 1 2 [(.int .i64 0), .nils]), (103, .box 1 2 [(.int .i64 n), .nils])]⟩ hT (by kernel_rfl) ⟨(by decide), (by decide), trivial⟩ ?_
  refine awp_seq ?_
  refine awp_run_seq [2, 3, 10, 11, 12] [102, 103] [(0 < 1)] ⟨29, [(2, .one (.ptr 102 0 0)), (3, .one (.ptr 103 0 0)), (10, .one (.ro (.arcs es))), (11, .one (.int .i64 ((es.length : Nat) : Int))), (12, .one (.int .i64 0))], [(102, .box 1 2 [(.int .i64 0), .nils]), (103, .box 1 2 [(.int .i64 n), .nils])]⟩ hT (by kernel_rfl) ⟨(by decide), trivial⟩ ?_
  refine awp_block ?_
  refine awp_weak (awk_empty 6301 (.flat (.arcs [])) rfl (by decide) _) ?_
  refine awp_weak (awk_boxcell 103 1 1 2 [(.int .i64 n), .nils] .nils (.rw 6301 0 0) _ (by kernel_rfl) rfl (wkv_nils (o := .flat (.arcs [])) (by kernel_rfl))) ?_
  refine awp_loop (I := fun κ σ => ∃ (i : Nat) (b : List Arc), ((i ≤ es.length) ∧ (b = twice (es.take i)) ∧ es.length - i = κ) ∧ σ = ⟨29, [(2, .one (.ptr 102 0 0)), (3, .one (.ptr 103 0 0)), (10, .one (.ro (.arcs es))), (11, .one (.int .i64 ((es.length : Nat) : Int))), (12, .one (.int .i64 (i : Int)))], [(102, .box 1 2 [(.int .i64 0), .nils]), (103, .box 1 2 [(.int .i64 n), (.rw 6301 0 b.length)]), (6301, .flat (.arcs b))]⟩) _ ⟨0, [], ⟨(by omega), (by rfl), rfl⟩, (by kernel_rfl)⟩ ?_
  rintro κ _ ⟨i, b, ⟨hi, hb, rfl⟩, rfl⟩
  have hbl : b.length ≤ 120 := by rw [hb, twice_len]; simp; omega
  refine awp_run_seq [2, 3, 10, 11, 12, 13] [102, 103, 6301] [] ⟨29, [(2, .one (.ptr 102 0 0)), (3, .one (.ptr 103 0 0)), (10, .one (.ro (.arcs es))), (11, .one (.int .i64 ((es.length : Nat) : Int))), (12, .one (.int .i64 (i : Int))), (13, .one (.bool (decide ((i : Int) < ((es.length : Nat) : Int)))))], [(102, .box 1 2 [(.int .i64 0), .nils]), (103, .box 1 2 [(.int .i64 n), (.rw 6301 0 b.length)]), (6301, .flat (.arcs b))]⟩ hT (by kernel_rfl) trivial ?_
  refine awp_seq ?_
  refine awp_cond (b := (decide ((i : Int) < ((es.length : Nat) : Int)))) (by kernel_rfl) (fun c3 => ?_) (fun c3 => ?_)
  ·
    try simp only [bs] at c3
    refine awp_skip ?_
    refine awp_seq ?_
    refine awp_block ?_
    refine awp_run_seq [2, 3, 5, 10, 11, 12] [102, 103, 105, 6301] [((0 : Int) ≤ (i : Int)), ((i : Int) < ((es.length : Nat) : Int)), (0 < 1)] ⟨29, [(2, .one (.ptr 102 0 0)), (3, .one (.ptr 103 0 0)), (5, .one (.ptr 105 0 0)), (10, .one (.ro (.arcs es))), (11, .one (.int .i64 ((es.length : Nat) : Int))), (12, .one (.int .i64 (i : Int)))], [(102, .box 1 2 [(.int .i64 0), .nils]), (103, .box 1 2 [(.int .i64 n), (.rw 6301 0 b.length)]), (105, .box 1 3 [(.int .i64 ((List.getD es i default).src)), (.int .i64 ((List.getD es i default).dst)), (.int .i64 ((List.getD es i default).cap))]), (6301, .flat (.arcs b))]⟩ hT (by kernel_rfl) ⟨(by omega), (by omega), (by decide), trivial⟩ ?_
    refine awp_region ?_
    refine aops_run 12 [2, 3, 10, 11, 12] [102, 103, 6301] [(0 < 1), (0 < 1), (0 < 1), (0 < 1), (b.length = b.length), ((b.length + 2) * 24 ≤ 140737488355328), ((b.length + 2) ≤ 9223372036854775807), (0 < 1)] ⟨29, [(2, .one (.ptr 102 0 0)), (3, .one (.ptr 103 0 0)), (10, .one (.ro (.arcs es))), (11, .one (.int .i64 ((es.length : Nat) : Int))), (12, .one (.int .i64 (i : Int)))], [(102, .box 1 2 [(.int .i64 0), .nils]), (103, .box 1 2 [(.int .i64 n), (.rw 6301 0 (b.length + 2))]), (6301, .flat (.arcs (b ++ [⟨((List.getD es i default).src), ((List.getD es i default).dst), ((List.getD es i default).cap)⟩, ⟨((List.getD es i default).dst), ((List.getD es i default).src), 0⟩])))]⟩ hT (by kernel_rfl) (by kernel_rfl) ⟨(by decide), (by decide), (by decide), (by decide), (by omega), (by omega), (by omega), (by decide), trivial⟩ ?_
    refine aops_end (by kernel_rfl) ?_
    refine awp_run [2, 3, 10, 11, 12] [102, 103, 6301] [(-9223372036854775808 ≤ (((i + 1) : Nat) : Int) ∧ (((i + 1) : Nat) : Int) ≤ 9223372036854775807)] ⟨29, [(2, .one (.ptr 102 0 0)), (3, .one (.ptr 103 0 0)), (10, .one (.ro (.arcs es))), (11, .one (.int .i64 ((es.length : Nat) : Int))), (12, .one (.int .i64 (((i + 1) : Nat) : Int)))], [(102, .box 1 2 [(.int .i64 0), .nils]), (103, .box 1 2 [(.int .i64 n), (.rw 6301 0 (b.length + 2))]), (6301, .flat (.arcs (b ++ [⟨((List.getD es i default).src), ((List.getD es i default).dst), ((List.getD es i default).cap)⟩, ⟨((List.getD es i default).dst), ((List.getD es i default).src), 0⟩])))]⟩ hT (by kernel_rfl) ⟨(by omega), trivial⟩ ?_
    refine loop_end _ ?_ ⟨(i + 1), (b ++ [⟨((List.getD es i default).src), ((List.getD es i default).dst), ((List.getD es i default).cap)⟩, ⟨((List.getD es i default).dst), ((List.getD es i default).src), 0⟩]), ⟨(by omega), (by rw [hb, take_getD es default i (by omega), twice_snoc]; rfl), rfl⟩, (by first | (simp only [lens]; done) | (simp only [Nat.zero_add]; done) | simp only [lens, Nat.zero_add])⟩
    omega
  ·
    try simp only [bs] at c3
    have hfin : b = twice es := by rw [hb, List.take_of_length_le (by omega)]
    refine awp_exit ?_
    refine awp_run_seq [2] [102, 6301] [(0 < 1), (0 < 1)] ⟨29, [(2, .one (.ptr 102 0 0))], [(102, .box 1 2 [(.int .i64 n), (.rw 6301 0 b.length)]), (6301, .flat (.arcs b))]⟩ hT (by kernel_rfl) ⟨(by decide), (by decide), trivial⟩ ?_
    refine awp_weak (awk_seal 6301 (s' := ⟨29, [(2, .one (.ptr 102 0 0))], [(102, .box 1 2 [(.int .i64 n), (.ro (.arcs (List.take b.length b)))])]⟩) (by kernel_rfl)) ?_
    rw [show (List.take b.length b) = b from List.take_of_length_le (by first | omega | simp)]
    refine awp_ret ?_
    refine kRet.ret _ [] [(0 < 1)] (.agg [(.int .i64 n), (.ro (.arcs b))]) [] (by kernel_rfl) ⟨(by decide), trivial⟩ ?_
    exact ⟨congrArg (fun x1 => (.agg [(.int .i64 n), (.ro (.arcs x1))] : AV)) (show b = (twice es) from by exact hfin), rfl⟩
theorem walk_sides (n : Int) (es : List Arc) : ACall Try.prog 32 [.agg [(.int .i64 n), (.ro (.arcs es))]] [] (fun ov oh => ov = .tup [(false, [(.ro (.ints .i64 (okL (sidesErr n es) (sidesOf n es))))]), (false, [(.int .i64 (sidesErr n es))])] ∧ oh = []) := by
  refine acall_intro hT Try.func32 rfl (by kernel_rfl) rfl (by kernel_rfl) ?_
  refine awp_run_seq [1] [101] [] ⟨99, [(1, .one (.ptr 101 0 0))], [(101, .box 1 2 [(.int .i64 n), (.ro (.arcs es))])]⟩ hT (by kernel_rfl) trivial ?_
  refine awp_seq (awp_region ?_)
  refine aops_run 1 [1, 14] [101] [(0 < 1)] ⟨99, [(1, .one (.ptr 101 0 0)), (14, .agg [(.int .i64 n), (.ro (.arcs es))])], [(101, .box 1 2 [(.int .i64 n), (.ro (.arcs es))])]⟩ hT (by kernel_rfl) (by kernel_rfl) ⟨(by decide), trivial⟩ ?_
  refine aops_pure false ⟨true, [], 58, [.agg [(.int .i64 n), (.ro (.arcs es))]], []⟩ [.agg [(.int .i64 n), (.ro (.arcs es))]] (.tup [(false, [(.ro (.ints .i64 (okL (graphErr n es (-10000)) (joinedOf n es))))]), (false, [(.int .i64 (graphErr n es (-10000)))])]) ⟨99, [(1, .one (.ptr 101 0 0)), (14, .agg [(.int .i64 n), (.ro (.arcs es))]), (15, .tup [(false, [(.ro (.ints .i64 (okL (graphErr n es (-10000)) (joinedOf n es))))]), (false, [(.int .i64 (graphErr n es (-10000)))])])], [(101, .box 1 2 [(.int .i64 n), (.ro (.arcs es))])]⟩ (by kernel_rfl) (by kernel_rfl) (fun _ => trivial) rfl (fun _ => walk_parts n es) ?_
  refine aops_run 5 [1, 4, 5] [101] [] ⟨99, [(1, .one (.ptr 101 0 0)), (4, .one (.ro (.ints .i64 (okL (graphErr n es (-10000)) (joinedOf n es))))), (5, .one (.int .i64 (graphErr n es (-10000))))], [(101, .box 1 2 [(.int .i64 n), (.ro (.arcs es))])]⟩ hT (by kernel_rfl) (by kernel_rfl) trivial ?_
  refine aops_end_seq (by kernel_rfl) ?_
  refine awp_seq ?_
  refine awp_run_seq [1, 4, 5, 19] [101] [] ⟨99, [(1, .one (.ptr 101 0 0)), (4, .one (.ro (.ints .i64 (okL (graphErr n es (-10000)) (joinedOf n es))))), (5, .one (.int .i64 (graphErr n es (-10000)))), (19, .one (.bool (decide ((graphErr n es (-10000)) ≠ 0))))], [(101, .box 1 2 [(.int .i64 n), (.ro (.arcs es))])]⟩ hT (by kernel_rfl) trivial ?_
  refine awp_cond (b := (decide ((graphErr n es (-10000)) ≠ 0))) (by kernel_rfl) (fun c2 => ?_) (fun c2 => ?_)
  ·
    try simp only [bs] at c2
    have hS : (sidesErr n es) = (graphErr n es (-10000)) := if_pos c2
    have hS0 : (sidesErr n es) ≠ 0 := by rw [hS]; exact c2
    refine awp_run_seq [2, 3] [] [] ⟨99, [(2, .one .nils), (3, .one (.int .i64 (graphErr n es (-10000))))], []⟩ hT (by kernel_rfl) trivial ?_
    refine awp_weak (awk_slot 2 (.one .nils) (.one (.ro (.ints .i64 []))) _ (by kernel_rfl) (.one (wkv_nil0 rfl))) ?_
    refine awp_ret ?_
    refine kRet.ret _ [] [] (.tup [(false, [(.ro (.ints .i64 []))]), (false, [(.int .i64 (graphErr n es (-10000)))])]) [] (by kernel_rfl) trivial ?_
    exact ⟨by first | rw [show (okL (sidesErr n es) (sidesOf n es)) = [] from Eq.symm (by first | exact hS.symm | exact (okL_no _ hS0).symm), show (sidesErr n es) = (graphErr n es (-10000)) from Eq.symm (by first | exact hS.symm | exact (okL_no _ hS0).symm)] | rw [show (okL (sidesErr n es) (sidesOf n es)) = [] from Eq.symm (by first | exact hS.symm | exact (okL_no _ hS0).symm)] | rw [show (sidesErr n es) = (graphErr n es (-10000)) from Eq.symm (by first | exact hS.symm | exact (okL_no _ hS0).symm)], rfl⟩
  ·
    try simp only [bs] at c2
    have hE : (graphErr n es (-10000)) = 0 := by omega
    have hG := graphErr_ok hE
    have h1 := hG.n1
    have h2 := hG.n2
    have hA := hG.inR
    have hA2 := hA.twice
    have hle := hG.len
    have htl := twice_len es
    have hjl := joinedOf_len n es
    refine awp_skip ?_
    refine awp_run_seq [1, 4, 6] [101, 123] [(0 < 1), ((0 : Int) ≤ n), (n ≤ n), ((8 : Int) * n ≤ 281474976710656), (n ≤ 9223372036854775807)] ⟨99, [(1, .one (.ptr 101 0 0)), (4, .one (.ro (.ints .i64 (okL (graphErr n es (-10000)) (joinedOf n es))))), (6, .one (.rw 123 0 (Int.toNat n)))], [(101, .box 1 2 [(.int .i64 n), (.ro (.arcs es))]), (123, .flat (.ints .i64 (List.replicate (Int.toNat n) (0 : Int))))]⟩ hT (by kernel_rfl) ⟨(by decide), (by omega), (by omega), (by omega), (by omega), trivial⟩ ?_
    refine awp_seq ?_
    rw [show (okL (graphErr n es (-10000)) (joinedOf n es)) = (joinedOf n es) from okL_ok _ hE]
    refine awp_run_seq [1, 6, 24, 25, 26] [101, 123] [] ⟨99, [(1, .one (.ptr 101 0 0)), (6, .one (.rw 123 0 (Int.toNat n))), (24, .one (.ro (.ints .i64 (joinedOf n es)))), (25, .one (.int .i64 (((List.length (joinedOf n es)) : Nat) : Int))), (26, .one (.int .i64 0))], [(101, .box 1 2 [(.int .i64 n), (.ro (.arcs es))]), (123, .flat (.ints .i64 (List.replicate (Int.toNat n) (0 : Int))))]⟩ hT (by kernel_rfl) trivial ?_
    refine awp_block ?_
    refine awp_loop (I := fun κ σ => ∃ (i : Nat) (s : List Int), ((i ≤ n.toNat) ∧ (s.length = n.toNat) ∧ (∀ v, v < i → s.getD v 0 = if (joinedOf n es).getD v 0 = v then 0 else -1) ∧ n.toNat - i = κ) ∧ σ = ⟨99, [(1, .one (.ptr 101 0 0)), (6, .one (.rw 123 0 (Int.toNat n))), (24, .one (.ro (.ints .i64 (joinedOf n es)))), (25, .one (.int .i64 (((List.length (joinedOf n es)) : Nat) : Int))), (26, .one (.int .i64 (i : Int)))], [(101, .box 1 2 [(.int .i64 n), (.ro (.arcs es))]), (123, .flat (.ints .i64 s))]⟩) _ ⟨0, (List.replicate (Int.toNat n) (0 : Int)), ⟨(by omega), (by simp), (by intro v hv; omega), rfl⟩, (by kernel_rfl)⟩ ?_
    rintro κ _ ⟨i, s, ⟨hi, hsl, hsv, rfl⟩, rfl⟩
    refine awp_run_seq [1, 6, 24, 25, 26, 27] [101, 123] [] ⟨99, [(1, .one (.ptr 101 0 0)), (6, .one (.rw 123 0 (Int.toNat n))), (24, .one (.ro (.ints .i64 (joinedOf n es)))), (25, .one (.int .i64 (((List.length (joinedOf n es)) : Nat) : Int))), (26, .one (.int .i64 (i : Int))), (27, .one (.bool (decide ((i : Int) < (((List.length (joinedOf n es)) : Nat) : Int)))))], [(101, .box 1 2 [(.int .i64 n), (.ro (.arcs es))]), (123, .flat (.ints .i64 s))]⟩ hT (by kernel_rfl) trivial ?_
    refine awp_seq ?_
    refine awp_cond (b := (decide ((i : Int) < (((List.length (joinedOf n es)) : Nat) : Int)))) (by kernel_rfl) (fun c6 => ?_) (fun c6 => ?_)
    ·
      try simp only [bs] at c6
      refine awp_skip ?_
      refine awp_seq ?_
      refine awp_block ?_
      refine awp_run_seq [1, 6, 7, 8, 24, 25, 26] [101, 123] [((0 : Int) ≤ (i : Int)), ((i : Int) < (((List.length (joinedOf n es)) : Nat) : Int))] ⟨99, [(1, .one (.ptr 101 0 0)), (6, .one (.rw 123 0 (Int.toNat n))), (7, .one (.int .i64 (i : Int))), (8, .one (.int .i64 (List.getD (joinedOf n es) i 0))), (24, .one (.ro (.ints .i64 (joinedOf n es)))), (25, .one (.int .i64 (((List.length (joinedOf n es)) : Nat) : Int))), (26, .one (.int .i64 (i : Int)))], [(101, .box 1 2 [(.int .i64 n), (.ro (.arcs es))]), (123, .flat (.ints .i64 s))]⟩ hT (by kernel_rfl) ⟨(by omega), (by omega), trivial⟩ ?_
      refine awp_run_seq [1, 6, 7, 8, 24, 25, 26] [101, 123] [((0 : Int) ≤ (i : Int)), ((i : Int) < (((Int.toNat n) : Nat) : Int)), (i < s.length)] ⟨99, [(1, .one (.ptr 101 0 0)), (6, .one (.rw 123 0 (Int.toNat n))), (7, .one (.int .i64 (i : Int))), (8, .one (.int .i64 (List.getD (joinedOf n es) i 0))), (24, .one (.ro (.ints .i64 (joinedOf n es)))), (25, .one (.int .i64 (((List.length (joinedOf n es)) : Nat) : Int))), (26, .one (.int .i64 (i : Int)))], [(101, .box 1 2 [(.int .i64 n), (.ro (.arcs es))]), (123, .flat (.ints .i64 (List.set s i (-1))))]⟩ hT (by kernel_rfl) ⟨(by omega), (by omega), (by omega), trivial⟩ ?_
      refine awp_run_seq [1, 6, 7, 24, 25, 26, 36] [101, 123] [] ⟨99, [(1, .one (.ptr 101 0 0)), (6, .one (.rw 123 0 (Int.toNat n))), (7, .one (.int .i64 (i : Int))), (24, .one (.ro (.ints .i64 (joinedOf n es)))), (25, .one (.int .i64 (((List.length (joinedOf n es)) : Nat) : Int))), (26, .one (.int .i64 (i : Int))), (36, .one (.bool (decide ((List.getD (joinedOf n es) i 0) = (i : Int)))))], [(101, .box 1 2 [(.int .i64 n), (.ro (.arcs es))]), (123, .flat (.ints .i64 (List.set s i (-1))))]⟩ hT (by kernel_rfl) trivial ?_
      refine awp_cond (b := (decide ((List.getD (joinedOf n es) i 0) = (i : Int)))) (by kernel_rfl) (fun c9 => ?_) (fun c9 => ?_)
      ·
        try simp only [bs] at c9
        have hsv2 : ∀ v, v < i + 1 → ((s.set i (-1)).set i 0).getD v 0 = if (joinedOf n es).getD v 0 = v then 0 else -1 := by
          intro v hv
          rcases Nat.lt_succ_iff_lt_or_eq.1 hv with h | h
          · rw [getD_set_ne _ _ _ _ _ (by omega), getD_set_ne _ _ _ _ _ (by omega)]; exact hsv v h
          · subst h; rw [getD_set_self _ _ _ _ (by rw [List.length_set]; omega), if_pos c9]
        refine awp_run [1, 6, 24, 25, 26] [101, 123] [((0 : Int) ≤ (i : Int)), ((i : Int) < (((Int.toNat n) : Nat) : Int)), (i < (List.length (List.set s i (-1))))] ⟨99, [(1, .one (.ptr 101 0 0)), (6, .one (.rw 123 0 (Int.toNat n))), (24, .one (.ro (.ints .i64 (joinedOf n es)))), (25, .one (.int .i64 (((List.length (joinedOf n es)) : Nat) : Int))), (26, .one (.int .i64 (i : Int)))], [(101, .box 1 2 [(.int .i64 n), (.ro (.arcs es))]), (123, .flat (.ints .i64 (List.set (List.set s i (-1)) i 0)))]⟩ hT (by kernel_rfl) ⟨(by first | omega | (simp only [lens]; omega) | (simp only [Bool.cond_decide]; omega) | (simp only [nadd_eq]; omega)), (by first | omega | (simp only [lens]; omega) | (simp only [Bool.cond_decide]; omega) | (simp only [nadd_eq]; omega)), (by first | omega | (simp only [lens]; omega) | (simp only [Bool.cond_decide]; omega) | (simp only [nadd_eq]; omega)), trivial⟩ ?_
        refine awp_run [1, 6, 24, 25, 26] [101, 123] [(-9223372036854775808 ≤ (((i + 1) : Nat) : Int) ∧ (((i + 1) : Nat) : Int) ≤ 9223372036854775807)] ⟨99, [(1, .one (.ptr 101 0 0)), (6, .one (.rw 123 0 (Int.toNat n))), (24, .one (.ro (.ints .i64 (joinedOf n es)))), (25, .one (.int .i64 (((List.length (joinedOf n es)) : Nat) : Int))), (26, .one (.int .i64 (((i + 1) : Nat) : Int)))], [(101, .box 1 2 [(.int .i64 n), (.ro (.arcs es))]), (123, .flat (.ints .i64 (List.set (List.set s i (-1)) i 0)))]⟩ hT (by kernel_rfl) ⟨(by omega), trivial⟩ ?_
        refine loop_end _ ?_ ⟨(i + 1), (List.set (List.set s i (-1)) i 0), ⟨(by omega), (by simp only [lens]; exact hsl), (by exact hsv2), rfl⟩, (by kernel_rfl)⟩
        omega
      ·
        try simp only [bs] at c9
        have hsv2 : ∀ v, v < i + 1 → (s.set i (-1)).getD v 0 = if (joinedOf n es).getD v 0 = v then 0 else -1 := by
          intro v hv
          rcases Nat.lt_succ_iff_lt_or_eq.1 hv with h | h
          · rw [getD_set_ne _ _ _ _ _ (by omega)]; exact hsv v h
          · subst h; rw [getD_set_self _ _ _ _ (by omega), if_neg c9]
        refine awp_skip ?_
        refine awp_run [1, 6, 24, 25, 26] [101, 123] [(-9223372036854775808 ≤ (((i + 1) : Nat) : Int) ∧ (((i + 1) : Nat) : Int) ≤ 9223372036854775807)] ⟨99, [(1, .one (.ptr 101 0 0)), (6, .one (.rw 123 0 (Int.toNat n))), (24, .one (.ro (.ints .i64 (joinedOf n es)))), (25, .one (.int .i64 (((List.length (joinedOf n es)) : Nat) : Int))), (26, .one (.int .i64 (((i + 1) : Nat) : Int)))], [(101, .box 1 2 [(.int .i64 n), (.ro (.arcs es))]), (123, .flat (.ints .i64 (List.set s i (-1))))]⟩ hT (by kernel_rfl) ⟨(by omega), trivial⟩ ?_
        refine loop_end _ ?_ ⟨(i + 1), (List.set s i (-1)), ⟨(by omega), (by simp only [lens]; exact hsl), (by exact hsv2), rfl⟩, (by kernel_rfl)⟩
        omega
    ·
      try simp only [bs] at c6
      have hst := spread_start h2 hA hsl (fun v hv => hsv v (by omega))
      refine awp_exit ?_
      refine awp_seq ?_
      refine awp_run_seq [1, 6, 42, 43] [101, 123] [(0 < 1)] ⟨99, [(1, .one (.ptr 101 0 0)), (6, .one (.rw 123 0 (Int.toNat n))), (42, .one (.int .i64 n)), (43, .one (.int .i64 0))], [(101, .box 1 2 [(.int .i64 n), (.ro (.arcs es))]), (123, .flat (.ints .i64 s))]⟩ hT (by kernel_rfl) ⟨(by decide), trivial⟩ ?_
      refine awp_block ?_
      refine awp_loop (I := fun κ σ => ∃ (r : Nat) (s : List Int), ((r ≤ n.toNat) ∧ (Spread n es s) ∧ (Cov n es s r) ∧ n.toNat - r = κ) ∧ σ = ⟨99, [(1, .one (.ptr 101 0 0)), (6, .one (.rw 123 0 (Int.toNat n))), (42, .one (.int .i64 n)), (43, .one (.int .i64 (r : Int)))], [(101, .box 1 2 [(.int .i64 n), (.ro (.arcs es))]), (123, .flat (.ints .i64 s))]⟩) _ ⟨0, s, ⟨(by omega), (by exact hst.1), (by exact hst.2), rfl⟩, (by kernel_rfl)⟩ ?_
      rintro κ _ ⟨r, s, ⟨hr, hS, hC, rfl⟩, rfl⟩
      refine awp_run_seq [1, 6, 42, 43, 44] [101, 123] [] ⟨99, [(1, .one (.ptr 101 0 0)), (6, .one (.rw 123 0 (Int.toNat n))), (42, .one (.int .i64 n)), (43, .one (.int .i64 (r : Int))), (44, .one (.bool (decide ((r : Int) < n))))], [(101, .box 1 2 [(.int .i64 n), (.ro (.arcs es))]), (123, .flat (.ints .i64 s))]⟩ hT (by kernel_rfl) trivial ?_
      refine awp_seq ?_
      refine awp_cond (b := (decide ((r : Int) < n))) (by kernel_rfl) (fun c13 => ?_) (fun c13 => ?_)
      ·
        try simp only [bs] at c13
        refine awp_skip ?_
        refine awp_seq ?_
        refine awp_block ?_
        refine awp_seq (awp_region ?_)
        refine aops_run 1 [1, 6, 42, 43, 45] [101, 123] [(0 < 1)] ⟨99, [(1, .one (.ptr 101 0 0)), (6, .one (.rw 123 0 (Int.toNat n))), (42, .one (.int .i64 n)), (43, .one (.int .i64 (r : Int))), (45, .agg [(.int .i64 n), (.ro (.arcs es))])], [(101, .box 1 2 [(.int .i64 n), (.ro (.arcs es))]), (123, .flat (.ints .i64 s))]⟩ hT (by kernel_rfl) (by kernel_rfl) ⟨(by decide), trivial⟩ ?_
        refine aops_pure false ⟨true, [], 59, [.agg [(.int .i64 n), (.ro (.arcs es))]], []⟩ [.agg [(.int .i64 n), (.ro (.arcs es))]] (.agg [(.int .i64 n), (.ro (.arcs (twice es)))]) ⟨99, [(1, .one (.ptr 101 0 0)), (6, .one (.rw 123 0 (Int.toNat n))), (42, .one (.int .i64 n)), (43, .one (.int .i64 (r : Int))), (45, .agg [(.int .i64 n), (.ro (.arcs es))]), (46, .agg [(.int .i64 n), (.ro (.arcs (twice es)))])], [(101, .box 1 2 [(.int .i64 n), (.ro (.arcs es))]), (123, .flat (.ints .i64 s))]⟩ (by kernel_rfl) (by kernel_rfl) (fun _ => trivial) rfl (fun _ => walk_both n es (by first | assumption | omega)) ?_
        refine aops_run 3 [1, 6, 42, 43, 47, 48, 49] [101, 123] [] ⟨99, [(1, .one (.ptr 101 0 0)), (6, .one (.rw 123 0 (Int.toNat n))), (42, .one (.int .i64 n)), (43, .one (.int .i64 (r : Int))), (47, .one (.ro (.arcs (twice es)))), (48, .one (.int .i64 (((List.length (twice es)) : Nat) : Int))), (49, .one (.int .i64 0))], [(101, .box 1 2 [(.int .i64 n), (.ro (.arcs es))]), (123, .flat (.ints .i64 s))]⟩ hT (by kernel_rfl) (by kernel_rfl) trivial ?_
        refine aops_end_seq (by kernel_rfl) ?_
        refine awp_block ?_
        refine awp_loop (I := fun κ σ => ∃ (k : Nat) (s3 : List Int), ((k ≤ (twice es).length) ∧ (Spread n es s3) ∧ (Round2 es s s3 k) ∧ (twice es).length - k = κ) ∧ σ = ⟨99, [(1, .one (.ptr 101 0 0)), (6, .one (.rw 123 0 (Int.toNat n))), (42, .one (.int .i64 n)), (43, .one (.int .i64 (r : Int))), (47, .one (.ro (.arcs (twice es)))), (48, .one (.int .i64 (((List.length (twice es)) : Nat) : Int))), (49, .one (.int .i64 (k : Int)))], [(101, .box 1 2 [(.int .i64 n), (.ro (.arcs es))]), (123, .flat (.ints .i64 s3))]⟩) _ ⟨0, s, ⟨(by omega), (by exact hS), (by exact Round2.start), rfl⟩, (by kernel_rfl)⟩ ?_
        rintro κ _ ⟨k, s3, ⟨hk, hS3, hR3, rfl⟩, rfl⟩
        refine awp_run_seq [1, 6, 42, 43, 47, 48, 49, 50] [101, 123] [] ⟨99, [(1, .one (.ptr 101 0 0)), (6, .one (.rw 123 0 (Int.toNat n))), (42, .one (.int .i64 n)), (43, .one (.int .i64 (r : Int))), (47, .one (.ro (.arcs (twice es)))), (48, .one (.int .i64 (((List.length (twice es)) : Nat) : Int))), (49, .one (.int .i64 (k : Int))), (50, .one (.bool (decide ((k : Int) < (((List.length (twice es)) : Nat) : Int)))))], [(101, .box 1 2 [(.int .i64 n), (.ro (.arcs es))]), (123, .flat (.ints .i64 s3))]⟩ hT (by kernel_rfl) trivial ?_
        refine awp_seq ?_
        refine awp_cond (b := (decide ((k : Int) < (((List.length (twice es)) : Nat) : Int)))) (by kernel_rfl) (fun c15 => ?_) (fun c15 => ?_)
        ·
          try simp only [bs] at c15
          have hkl : k < (twice es).length := by omega
          obtain ⟨b1, b2, b3, b4⟩ := hA2 _ (getD_mem (d := default) hkl)
          have hsl3 := hS3.len
          have hin3 := hS3.in_ (v := ((twice es).getD k default).src.toNat) (by omega)
          refine awp_skip ?_
          refine awp_seq ?_
          refine awp_block ?_
          refine awp_run_seq [1, 6, 10, 42, 43, 47, 48, 49] [101, 110, 123] [((0 : Int) ≤ (k : Int)), ((k : Int) < (((List.length (twice es)) : Nat) : Int)), (0 < 1)] ⟨99, [(1, .one (.ptr 101 0 0)), (6, .one (.rw 123 0 (Int.toNat n))), (10, .one (.ptr 110 0 0)), (42, .one (.int .i64 n)), (43, .one (.int .i64 (r : Int))), (47, .one (.ro (.arcs (twice es)))), (48, .one (.int .i64 (((List.length (twice es)) : Nat) : Int))), (49, .one (.int .i64 (k : Int)))], [(101, .box 1 2 [(.int .i64 n), (.ro (.arcs es))]), (110, .box 1 3 [(.int .i64 ((List.getD (twice es) k default).src)), (.int .i64 ((List.getD (twice es) k default).dst)), (.int .i64 ((List.getD (twice es) k default).cap))]), (123, .flat (.ints .i64 s3))]⟩ hT (by kernel_rfl) ⟨(by omega), (by omega), (by decide), trivial⟩ ?_
          refine awp_run_seq [1, 6, 10, 42, 43, 47, 48, 49, 66] [101, 110, 123] [(0 < 1), ((0 : Int) ≤ ((List.getD (twice es) k default).src)), (((List.getD (twice es) k default).src) < (((Int.toNat n) : Nat) : Int)), ((Int.toNat ((List.getD (twice es) k default).src)) < s3.length), ((decide ((0 : Int) ≤ (List.getD s3 (Int.toNat ((List.getD (twice es) k default).src)) 0))) = true → ((decide ((0 : Int) ≤ (List.getD s3 (Int.toNat ((List.getD (twice es) k default).src)) 0))) = true → (decide ((0 : Int) ≤ (List.getD s3 (Int.toNat ((List.getD (twice es) k default).src)) 0))) = true)), ((decide ((0 : Int) ≤ (List.getD s3 (Int.toNat ((List.getD (twice es) k default).src)) 0))) = true → (0 < 1)), ((decide ((0 : Int) ≤ (List.getD s3 (Int.toNat ((List.getD (twice es) k default).src)) 0))) = true → ((decide ((0 : Int) ≤ (List.getD s3 (Int.toNat ((List.getD (twice es) k default).src)) 0))) = true → (decide ((0 : Int) ≤ (List.getD s3 (Int.toNat ((List.getD (twice es) k default).src)) 0))) = true)), ((decide ((0 : Int) ≤ (List.getD s3 (Int.toNat ((List.getD (twice es) k default).src)) 0))) = true → ((decide ((0 : Int) ≤ (List.getD s3 (Int.toNat ((List.getD (twice es) k default).src)) 0))) = true → (decide ((0 : Int) ≤ (List.getD s3 (Int.toNat ((List.getD (twice es) k default).src)) 0))) = true)), ((decide ((0 : Int) ≤ (List.getD s3 (Int.toNat ((List.getD (twice es) k default).src)) 0))) = true → ((0 : Int) ≤ ((List.getD (twice es) k default).dst))), ((decide ((0 : Int) ≤ (List.getD s3 (Int.toNat ((List.getD (twice es) k default).src)) 0))) = true → (((List.getD (twice es) k default).dst) < (((Int.toNat n) : Nat) : Int))), ((decide ((0 : Int) ≤ (List.getD s3 (Int.toNat ((List.getD (twice es) k default).src)) 0))) = true → ((decide ((0 : Int) ≤ (List.getD s3 (Int.toNat ((List.getD (twice es) k default).src)) 0))) = true → (decide ((0 : Int) ≤ (List.getD s3 (Int.toNat ((List.getD (twice es) k default).src)) 0))) = true)), ((decide ((0 : Int) ≤ (List.getD s3 (Int.toNat ((List.getD (twice es) k default).src)) 0))) = true → ((Int.toNat ((List.getD (twice es) k default).dst)) < s3.length)), ((decide ((0 : Int) ≤ (List.getD s3 (Int.toNat ((List.getD (twice es) k default).src)) 0))) = true → ((decide ((0 : Int) ≤ (List.getD s3 (Int.toNat ((List.getD (twice es) k default).src)) 0))) = true → (decide ((0 : Int) ≤ (List.getD s3 (Int.toNat ((List.getD (twice es) k default).src)) 0))) = true)), ((decide ((0 : Int) ≤ (List.getD s3 (Int.toNat ((List.getD (twice es) k default).src)) 0))) = true → (decide ((0 : Int) ≤ (List.getD s3 (Int.toNat ((List.getD (twice es) k default).src)) 0))) = true)] ⟨99, [(1, .one (.ptr 101 0 0)), (6, .one (.rw 123 0 (Int.toNat n))), (10, .one (.ptr 110 0 0)), (42, .one (.int .i64 n)), (43, .one (.int .i64 (r : Int))), (47, .one (.ro (.arcs (twice es)))), (48, .one (.int .i64 (((List.length (twice es)) : Nat) : Int))), (49, .one (.int .i64 (k : Int))), (66, .one (.bool ((decide ((0 : Int) ≤ (List.getD s3 (Int.toNat ((List.getD (twice es) k default).src)) 0))) && (decide ((List.getD s3 (Int.toNat ((List.getD (twice es) k default).dst)) 0) < 0)))))], [(101, .box 1 2 [(.int .i64 n), (.ro (.arcs es))]), (110, .box 1 3 [(.int .i64 ((List.getD (twice es) k default).src)), (.int .i64 ((List.getD (twice es) k default).dst)), (.int .i64 ((List.getD (twice es) k default).cap))]), (123, .flat (.ints .i64 s3))]⟩ hT (by kernel_rfl) ⟨(by decide), (by omega), (by omega), (by omega), (by intro hg; first | exact hg | skip; (try simp only [bs] at hg ⊢); first | exact hg | first | omega | (simp only [lens]; omega) | (simp only [Bool.cond_decide]; omega) | (simp only [nadd_eq]; omega) | grind), (by intro hg; first | exact hg | skip; (try simp only [bs] at hg); first | exact hg | first | omega | (simp only [lens]; omega) | (simp only [Bool.cond_decide]; omega) | (simp only [nadd_eq]; omega) | grind), (by intro hg; first | exact hg | skip; (try simp only [bs] at hg ⊢); first | exact hg | first | omega | (simp only [lens]; omega) | (simp only [Bool.cond_decide]; omega) | (simp only [nadd_eq]; omega) | grind), (by intro hg; first | exact hg | skip; (try simp only [bs] at hg ⊢); first | exact hg | first | omega | (simp only [lens]; omega) | (simp only [Bool.cond_decide]; omega) | (simp only [nadd_eq]; omega) | grind), (by intro hg; first | exact hg | skip; (try simp only [bs] at hg); first | exact hg | first | omega | (simp only [lens]; omega) | (simp only [Bool.cond_decide]; omega) | (simp only [nadd_eq]; omega) | grind), (by intro hg; first | exact hg | skip; (try simp only [bs] at hg); first | exact hg | first | omega | (simp only [lens]; omega) | (simp only [Bool.cond_decide]; omega) | (simp only [nadd_eq]; omega) | grind), (by intro hg; first | exact hg | skip; (try simp only [bs] at hg ⊢); first | exact hg | first | omega | (simp only [lens]; omega) | (simp only [Bool.cond_decide]; omega) | (simp only [nadd_eq]; omega) | grind), (by intro hg; first | exact hg | skip; (try simp only [bs] at hg); first | exact hg | first | omega | (simp only [lens]; omega) | (simp only [Bool.cond_decide]; omega) | (simp only [nadd_eq]; omega) | grind), (by intro hg; first | exact hg | skip; (try simp only [bs] at hg ⊢); first | exact hg | first | omega | (simp only [lens]; omega) | (simp only [Bool.cond_decide]; omega) | (simp only [nadd_eq]; omega) | grind), (fun h => h), trivial⟩ ?_
          refine awp_cond (b := ((decide ((0 : Int) ≤ (List.getD s3 (Int.toNat ((List.getD (twice es) k default).src)) 0))) && (decide ((List.getD s3 (Int.toNat ((List.getD (twice es) k default).dst)) 0) < 0)))) (by kernel_rfl) (fun c17 => ?_) (fun c17 => ?_)
          ·
            try simp only [bs] at c17
            have hst3 := hS3.step hR3 h2 hA hkl (if_pos ⟨c17.1, c17.2⟩).symm
            refine awp_tail 10 [1, 6, 42, 43, 47, 48, 49, 75, 76] [101, 123] [(0 < 1), (0 < 1), ((0 : Int) ≤ ((List.getD (twice es) k default).src)), (((List.getD (twice es) k default).src) < (((Int.toNat n) : Nat) : Int)), ((Int.toNat ((List.getD (twice es) k default).src)) < s3.length), (-9223372036854775808 ≤ (1 - (List.getD s3 (Int.toNat ((List.getD (twice es) k default).src)) 0)) ∧ (1 - (List.getD s3 (Int.toNat ((List.getD (twice es) k default).src)) 0)) ≤ 9223372036854775807), ((0 : Int) ≤ ((List.getD (twice es) k default).dst)), (((List.getD (twice es) k default).dst) < (((Int.toNat n) : Nat) : Int))] ⟨99, [(1, .one (.ptr 101 0 0)), (6, .one (.rw 123 0 (Int.toNat n))), (42, .one (.int .i64 n)), (43, .one (.int .i64 (r : Int))), (47, .one (.ro (.arcs (twice es)))), (48, .one (.int .i64 (((List.length (twice es)) : Nat) : Int))), (49, .one (.int .i64 (k : Int))), (75, .one (.int .i64 (1 - (List.getD s3 (Int.toNat ((List.getD (twice es) k default).src)) 0)))), (76, .one (.ptr 123 (Int.toNat ((List.getD (twice es) k default).dst)) 0))], [(101, .box 1 2 [(.int .i64 n), (.ro (.arcs es))]), (123, .flat (.ints .i64 s3))]⟩ (by kernel_rfl) (by kernel_rfl) hT (by kernel_rfl) ⟨(by decide), (by decide), (by omega), (by omega), (by omega), (by omega), (by omega), (by omega), trivial⟩ ?_
            refine aops_run 1 [1, 6, 42, 43, 47, 48, 49] [101, 123] [((Int.toNat ((List.getD (twice es) k default).dst)) < s3.length)] ⟨99, [(1, .one (.ptr 101 0 0)), (6, .one (.rw 123 0 (Int.toNat n))), (42, .one (.int .i64 n)), (43, .one (.int .i64 (r : Int))), (47, .one (.ro (.arcs (twice es)))), (48, .one (.int .i64 (((List.length (twice es)) : Nat) : Int))), (49, .one (.int .i64 (k : Int)))], [(101, .box 1 2 [(.int .i64 n), (.ro (.arcs es))]), (123, .flat (.ints .i64 (List.set s3 (Int.toNat ((List.getD (twice es) k default).dst)) (1 - (List.getD s3 (Int.toNat ((List.getD (twice es) k default).src)) 0)))))]⟩ hT (by kernel_rfl) (by kernel_rfl) ⟨(by omega), trivial⟩ ?_
            refine aops_end (by kernel_rfl) ?_
            refine awp_run [1, 6, 42, 43, 47, 48, 49] [101, 123] [(-9223372036854775808 ≤ (((k + 1) : Nat) : Int) ∧ (((k + 1) : Nat) : Int) ≤ 9223372036854775807)] ⟨99, [(1, .one (.ptr 101 0 0)), (6, .one (.rw 123 0 (Int.toNat n))), (42, .one (.int .i64 n)), (43, .one (.int .i64 (r : Int))), (47, .one (.ro (.arcs (twice es)))), (48, .one (.int .i64 (((List.length (twice es)) : Nat) : Int))), (49, .one (.int .i64 (((k + 1) : Nat) : Int)))], [(101, .box 1 2 [(.int .i64 n), (.ro (.arcs es))]), (123, .flat (.ints .i64 (List.set s3 (Int.toNat ((List.getD (twice es) k default).dst)) (1 - (List.getD s3 (Int.toNat ((List.getD (twice es) k default).src)) 0)))))]⟩ hT (by kernel_rfl) ⟨(by omega), trivial⟩ ?_
            refine loop_end _ ?_ ⟨(k + 1), (List.set s3 (Int.toNat ((List.getD (twice es) k default).dst)) (1 - (List.getD s3 (Int.toNat ((List.getD (twice es) k default).src)) 0))), ⟨(by omega), (by exact hst3.1), (by exact hst3.2), rfl⟩, (by kernel_rfl)⟩
            omega
          ·
            try simp only [bs] at c17
            have hst3 := hS3.step hR3 h2 hA hkl (if_neg (by omega)).symm
            refine awp_skip ?_
            refine awp_run [1, 6, 42, 43, 47, 48, 49] [101, 123] [(-9223372036854775808 ≤ (((k + 1) : Nat) : Int) ∧ (((k + 1) : Nat) : Int) ≤ 9223372036854775807)] ⟨99, [(1, .one (.ptr 101 0 0)), (6, .one (.rw 123 0 (Int.toNat n))), (42, .one (.int .i64 n)), (43, .one (.int .i64 (r : Int))), (47, .one (.ro (.arcs (twice es)))), (48, .one (.int .i64 (((List.length (twice es)) : Nat) : Int))), (49, .one (.int .i64 (((k + 1) : Nat) : Int)))], [(101, .box 1 2 [(.int .i64 n), (.ro (.arcs es))]), (123, .flat (.ints .i64 s3))]⟩ hT (by kernel_rfl) ⟨(by omega), trivial⟩ ?_
            refine loop_end _ ?_ ⟨(k + 1), s3, ⟨(by omega), (by exact hst3.1), (by exact hst3.2), rfl⟩, (by kernel_rfl)⟩
            omega
        ·
          try simp only [bs] at c15
          have hC2 := hC.step hR3 (by omega) h2 hA
          refine awp_exit ?_
          refine awp_run [1, 6, 42, 43] [101, 123] [(-9223372036854775808 ≤ (((r + 1) : Nat) : Int) ∧ (((r + 1) : Nat) : Int) ≤ 9223372036854775807)] ⟨99, [(1, .one (.ptr 101 0 0)), (6, .one (.rw 123 0 (Int.toNat n))), (42, .one (.int .i64 n)), (43, .one (.int .i64 (((r + 1) : Nat) : Int)))], [(101, .box 1 2 [(.int .i64 n), (.ro (.arcs es))]), (123, .flat (.ints .i64 s3))]⟩ hT (by kernel_rfl) ⟨(by omega), trivial⟩ ?_
          refine loop_end _ ?_ ⟨(r + 1), s3, ⟨(by omega), (by exact hS3), (by exact hC2), rfl⟩, (by kernel_rfl)⟩
          omega
      ·
        try simp only [bs] at c13
        have hSd := hS.end_ hC (by omega) h2 hA
        have hsl4 := hS.len
        have hany := hSd.any (sided_ref h2 hA) h2 hA
        refine awp_exit ?_
        refine awp_seq ?_
        refine awp_run_seq [6, 80, 81, 82] [123] [(0 < 1)] ⟨99, [(6, .one (.rw 123 0 (Int.toNat n))), (80, .one (.ro (.arcs es))), (81, .one (.int .i64 ((es.length : Nat) : Int))), (82, .one (.int .i64 0))], [(123, .flat (.ints .i64 s))]⟩ hT (by kernel_rfl) ⟨(by decide), trivial⟩ ?_
        refine awp_block ?_
        refine awp_loop (I := fun κ σ => ∃ (k : Nat), ((k ≤ es.length) ∧ (∀ j, j < k → eqSide s (es.getD j default) = false) ∧ es.length - k = κ) ∧ σ = ⟨99, [(6, .one (.rw 123 0 (Int.toNat n))), (80, .one (.ro (.arcs es))), (81, .one (.int .i64 ((es.length : Nat) : Int))), (82, .one (.int .i64 (k : Int)))], [(123, .flat (.ints .i64 s))]⟩) _ ⟨0, ⟨(by omega), (by intro j hj; omega), rfl⟩, (by kernel_rfl)⟩ ?_
        rintro κ _ ⟨k, ⟨hk, hno, rfl⟩, rfl⟩
        refine awp_run_seq [6, 80, 81, 82, 83] [123] [] ⟨99, [(6, .one (.rw 123 0 (Int.toNat n))), (80, .one (.ro (.arcs es))), (81, .one (.int .i64 ((es.length : Nat) : Int))), (82, .one (.int .i64 (k : Int))), (83, .one (.bool (decide ((k : Int) < ((es.length : Nat) : Int)))))], [(123, .flat (.ints .i64 s))]⟩ hT (by kernel_rfl) trivial ?_
        refine awp_seq ?_
        refine awp_cond (b := (decide ((k : Int) < ((es.length : Nat) : Int)))) (by kernel_rfl) (fun c22 => ?_) (fun c22 => ?_)
        ·
          try simp only [bs] at c22
          have hkl : k < es.length := by omega
          obtain ⟨b1, b2, b3, b4⟩ := hA _ (getD_mem (d := default) hkl)
          refine awp_skip ?_
          refine awp_seq ?_
          refine awp_block ?_
          refine awp_run_seq [6, 12, 80, 81, 82] [112, 123] [((0 : Int) ≤ (k : Int)), ((k : Int) < ((es.length : Nat) : Int)), (0 < 1)] ⟨99, [(6, .one (.rw 123 0 (Int.toNat n))), (12, .one (.ptr 112 0 0)), (80, .one (.ro (.arcs es))), (81, .one (.int .i64 ((es.length : Nat) : Int))), (82, .one (.int .i64 (k : Int)))], [(112, .box 1 3 [(.int .i64 ((List.getD es k default).src)), (.int .i64 ((List.getD es k default).dst)), (.int .i64 ((List.getD es k default).cap))]), (123, .flat (.ints .i64 s))]⟩ hT (by kernel_rfl) ⟨(by omega), (by omega), (by decide), trivial⟩ ?_
          refine awp_seq (awp_still [6, 80, 81, 82, 96] [123] [(0 < 1), ((0 : Int) ≤ ((List.getD es k default).src)), (((List.getD es k default).src) < (((Int.toNat n) : Nat) : Int)), ((Int.toNat ((List.getD es k default).src)) < s.length), (0 < 1), ((0 : Int) ≤ ((List.getD es k default).dst)), (((List.getD es k default).dst) < (((Int.toNat n) : Nat) : Int)), ((Int.toNat ((List.getD es k default).dst)) < s.length)] ⟨99, [(6, .one (.rw 123 0 (Int.toNat n))), (80, .one (.ro (.arcs es))), (81, .one (.int .i64 ((es.length : Nat) : Int))), (82, .one (.int .i64 (k : Int))), (96, .one (.bool (decide ((List.getD s (Int.toNat ((List.getD es k default).src)) 0) = (List.getD s (Int.toNat ((List.getD es k default).dst)) 0)))))], [(123, .flat (.ints .i64 s))]⟩ (by kernel_rfl) (by kernel_rfl) hT (by kernel_rfl) ⟨(by decide), (by omega), (by omega), (by omega), (by decide), (by omega), (by omega), (by omega), trivial⟩ ?_)
          refine awp_cond (b := (decide ((List.getD s (Int.toNat ((List.getD es k default).src)) 0) = (List.getD s (Int.toNat ((List.getD es k default).dst)) 0)))) (by kernel_rfl) (fun c24 => ?_) (fun c24 => ?_)
          ·
            try simp only [bs] at c24
            have hyes : es.any (eqSide s) = true := any_at (d := default) hkl (decide_eq_true c24)
            have hS6 : (sidesErr n es) = 6 := by rw [sidesErr, if_neg (by omega), ← hany, if_pos hyes]
            refine awp_run_seq [2, 3] [] [] ⟨99, [(2, .one .nils), (3, .one (.int .i64 6))], []⟩ hT (by kernel_rfl) trivial ?_
            refine awp_weak (awk_slot 2 (.one .nils) (.one (.ro (.ints .i64 []))) _ (by kernel_rfl) (.one (wkv_nil0 rfl))) ?_
            refine awp_ret ?_
            refine kRet.ret _ [] [] (.tup [(false, [(.ro (.ints .i64 []))]), (false, [(.int .i64 6)])]) [] (by kernel_rfl) trivial ?_
            exact ⟨by first | rw [show (okL (sidesErr n es) (sidesOf n es)) = [] from Eq.symm (by first | exact hS6.symm | exact (okL_no _ (by rw [hS6]; decide)).symm), show (sidesErr n es) = 6 from Eq.symm (by first | exact hS6.symm | exact (okL_no _ (by rw [hS6]; decide)).symm)] | rw [show (okL (sidesErr n es) (sidesOf n es)) = [] from Eq.symm (by first | exact hS6.symm | exact (okL_no _ (by rw [hS6]; decide)).symm)] | rw [show (sidesErr n es) = 6 from Eq.symm (by first | exact hS6.symm | exact (okL_no _ (by rw [hS6]; decide)).symm)], rfl⟩
          ·
            try simp only [bs] at c24
            have hnk : eqSide s (es.getD k default) = false := decide_eq_false c24
            refine awp_skip ?_
            refine awp_run [6, 80, 81, 82] [123] [(-9223372036854775808 ≤ (((k + 1) : Nat) : Int) ∧ (((k + 1) : Nat) : Int) ≤ 9223372036854775807)] ⟨99, [(6, .one (.rw 123 0 (Int.toNat n))), (80, .one (.ro (.arcs es))), (81, .one (.int .i64 ((es.length : Nat) : Int))), (82, .one (.int .i64 (((k + 1) : Nat) : Int)))], [(123, .flat (.ints .i64 s))]⟩ hT (by kernel_rfl) ⟨(by omega), trivial⟩ ?_
            refine loop_end _ ?_ ⟨(k + 1), ⟨(by omega), (by intro j hj; rcases Nat.lt_succ_iff_lt_or_eq.1 hj with h | h; exact hno j h; subst h; exact hnk), rfl⟩, (by kernel_rfl)⟩
            omega
        ·
          try simp only [bs] at c22
          have hno2 : es.any (eqSide s) = false := any_none (d := default) (fun j hj => hno j (by omega))
          have hS0 : (sidesErr n es) = 0 := by rw [sidesErr, if_neg (by omega), ← hany, hno2]; rfl
          have hfin : s = sidesOf n es := (hSd.uniq (sided_ref h2 hA) h2 hA hno2).symm
          refine awp_exit ?_
          refine awp_weak (awk_seal 123 (s' := ⟨99, [(6, .one (.ro (.ints .i64 (List.take (Int.toNat n) s)))), (80, .one (.ro (.arcs es))), (81, .one (.int .i64 ((es.length : Nat) : Int))), (82, .one (.int .i64 (k : Int))), (83, .one (.bool (decide ((k : Int) < ((es.length : Nat) : Int)))))], []⟩) (by kernel_rfl)) ?_
          rw [show (List.take (Int.toNat n) s) = s from List.take_of_length_le (by first | omega | simp)]
          refine awp_run_seq [2, 3] [] [] ⟨99, [(2, .one (.ro (.ints .i64 s))), (3, .one (.int .i64 0))], []⟩ hT (by kernel_rfl) trivial ?_
          refine awp_ret ?_
          refine kRet.ret _ [] [] (.tup [(false, [(.ro (.ints .i64 s))]), (false, [(.int .i64 0)])]) [] (by kernel_rfl) trivial ?_
          exact ⟨by first | rw [show (okL (sidesErr n es) (sidesOf n es)) = s from Eq.symm (by first | exact hS0.symm | (rw [okL_ok _ hS0]; exact hfin)), show (sidesErr n es) = 0 from Eq.symm (by first | exact hS0.symm | (rw [okL_ok _ hS0]; exact hfin))] | rw [show (okL (sidesErr n es) (sidesOf n es)) = s from Eq.symm (by first | exact hS0.symm | (rw [okL_ok _ hS0]; exact hfin))] | rw [show (sidesErr n es) = 0 from Eq.symm (by first | exact hS0.symm | (rw [okL_ok _ hS0]; exact hfin))], rfl⟩
end Go.Ab
