/- Of graphs: degrees. -/
import Derived.Test.YtcmaffldmodacaaTab
import Derived.Test.YtcmaffldmodacaaG1
set_option maxRecDepth 100000
namespace Go.Ab
open Go Go.Proofs
theorem graph_degrees (n : Int) (es : List Arc) : ACall Try.prog 33 [.agg [(.int .i64 n), (.ro (.arcs es))]] [] (fun ov oh => ov = .tup [(false, [(.ro (.ints .i64 (okL (graphErr n es (-10000)) (bump Arc.src n es))))]), (false, [(.ro (.ints .i64 (okL (graphErr n es (-10000)) (bump Arc.dst n es))))]), (false, [(.int .i64 (graphErr n es (-10000)))])] ∧ oh = []) := by
  refine acall_intro hT Try.func33 rfl (by kernel_rfl) rfl (by kernel_rfl) ?_
  refine awp_run_seq [1] [101] [] ⟨45, [(1, .one (.ptr 101 0 0))], [(101, .box 1 2 [(.int .i64 n), (.ro (.arcs es))])]⟩ hT (by kernel_rfl) trivial ?_
  refine awp_seq ?_
  refine awp_seq (awp_region ?_)
  refine aops_run 1 [1, 10] [101] [(0 < 1)] ⟨45, [(1, .one (.ptr 101 0 0)), (10, .agg [(.int .i64 n), (.ro (.arcs es))])], [(101, .box 1 2 [(.int .i64 n), (.ro (.arcs es))])]⟩ hT (by kernel_rfl) (by kernel_rfl) ⟨(by decide), trivial⟩ ?_
  refine aops_pure false ⟨true, [], 30, [.agg [(.int .i64 n), (.ro (.arcs es))]], []⟩ [.agg [(.int .i64 n), (.ro (.arcs es))]] (.one (.int .i64 (graphErr n es (-10000)))) ⟨45, [(1, .one (.ptr 101 0 0)), (10, .agg [(.int .i64 n), (.ro (.arcs es))]), (11, .one (.int .i64 (graphErr n es (-10000))))], [(101, .box 1 2 [(.int .i64 n), (.ro (.arcs es))])]⟩ (by kernel_rfl) (by kernel_rfl) (fun _ => trivial) rfl (fun _ => graph_CheckLong n es) ?_
  refine aops_run 1 [1, 5] [101] [] ⟨45, [(1, .one (.ptr 101 0 0)), (5, .one (.int .i64 (graphErr n es (-10000))))], [(101, .box 1 2 [(.int .i64 n), (.ro (.arcs es))])]⟩ hT (by kernel_rfl) (by kernel_rfl) trivial ?_
  refine aops_end_seq (by kernel_rfl) ?_
  refine awp_run_seq [1, 5, 13] [101] [] ⟨45, [(1, .one (.ptr 101 0 0)), (5, .one (.int .i64 (graphErr n es (-10000)))), (13, .one (.bool (decide ((graphErr n es (-10000)) ≠ 0))))], [(101, .box 1 2 [(.int .i64 n), (.ro (.arcs es))])]⟩ hT (by kernel_rfl) trivial ?_
  refine awp_cond (b := (decide ((graphErr n es (-10000)) ≠ 0))) (by kernel_rfl) (fun c2 => ?_) (fun c2 => ?_)
  ·
    try simp only [bs] at c2
    refine awp_run_seq [2, 3, 4] [] [] ⟨45, [(2, .one .nils), (3, .one .nils), (4, .one (.int .i64 (graphErr n es (-10000))))], []⟩ hT (by kernel_rfl) trivial ?_
    refine awp_weak (awk_slot 2 (.one .nils) (.one (.ro (.ints .i64 []))) _ (by kernel_rfl) (.one (wkv_nil0 rfl))) ?_
    refine awp_weak (awk_slot 3 (.one .nils) (.one (.ro (.ints .i64 []))) _ (by kernel_rfl) (.one (wkv_nil0 rfl))) ?_
    refine awp_ret ?_
    refine kRet.ret _ [] [] (.tup [(false, [(.ro (.ints .i64 []))]), (false, [(.ro (.ints .i64 []))]), (false, [(.int .i64 (graphErr n es (-10000)))])]) [] (by kernel_rfl) trivial ?_
    exact ⟨by first | rw [show (okL (graphErr n es (-10000)) (bump Arc.src n es)) = [] from Eq.symm (by first | exact (okI_no _ c2).symm | exact (okL_no _ c2).symm), show (okL (graphErr n es (-10000)) (bump Arc.dst n es)) = [] from Eq.symm (by first | exact (okI_no _ c2).symm | exact (okL_no _ c2).symm)] | rw [show (okL (graphErr n es (-10000)) (bump Arc.src n es)) = [] from Eq.symm (by first | exact (okI_no _ c2).symm | exact (okL_no _ c2).symm)] | rw [show (okL (graphErr n es (-10000)) (bump Arc.dst n es)) = [] from Eq.symm (by first | exact (okI_no _ c2).symm | exact (okL_no _ c2).symm)], rfl⟩
  ·
    try simp only [bs] at c2
    have hE : graphErr n es (-10000) = 0 := by omega
    have hok := graphErr_ok hE
    have h1 := hok.n1
    have h2 := hok.n2
    have h3 := hok.len
    refine awp_skip ?_
    refine awp_seq (awp_calm2 [] false [[], [0], [0, 1], [], [3], [3, 4], [0, 1, 2], [0, 1, 2, 3, 4, 5, 6]] 8 [1, 6, 7] [101, 117, 120] [(0, []), (1, [(0 < 1)]), (2, [((0 : Int) ≤ n), (n ≤ n), ((8 : Int) * n ≤ 281474976710656), (n ≤ 9223372036854775807)]), (3, []), (4, [(0 < 1)]), (5, [((0 : Int) ≤ n), (n ≤ n), ((8 : Int) * n ≤ 281474976710656), (n ≤ 9223372036854775807)]), (6, []), (7, [])] [] 1 ⟨45, [(1, .one (.ptr 101 0 0)), (6, .one (.rw 117 0 (Int.toNat n))), (7, .one (.rw 120 0 (Int.toNat n)))], [(101, .box 1 2 [(.int .i64 n), (.ro (.arcs es))]), (117, .flat (.ints .i64 (List.replicate (Int.toNat n) (0 : Int)))), (120, .flat (.ints .i64 (List.replicate (Int.toNat n) (0 : Int))))]⟩ (by kernel_rfl) (by kernel_rfl) hT (by kernel_rfl) (by kernel_rfl) ⟨trivial, ⟨(by decide), trivial⟩, ⟨(by omega), (by omega), (by omega), (by omega), trivial⟩, trivial, ⟨(by decide), trivial⟩, ⟨(by omega), (by omega), (by omega), (by omega), trivial⟩, trivial, trivial, trivial⟩ trivial ?_)
    refine awp_seq ?_
    refine awp_run_seq [6, 7, 22, 23, 24] [117, 120] [(0 < 1)] ⟨45, [(6, .one (.rw 117 0 (Int.toNat n))), (7, .one (.rw 120 0 (Int.toNat n))), (22, .one (.ro (.arcs es))), (23, .one (.int .i64 ((es.length : Nat) : Int))), (24, .one (.int .i64 0))], [(117, .flat (.ints .i64 (List.replicate (Int.toNat n) (0 : Int)))), (120, .flat (.ints .i64 (List.replicate (Int.toNat n) (0 : Int))))]⟩ hT (by kernel_rfl) ⟨(by decide), trivial⟩ ?_
    refine awp_block ?_
    refine awp_loop (I := fun κ σ => ∃ (i : Nat) (l m : List Int), ((i ≤ es.length) ∧ (l = bump Arc.src n (es.take i)) ∧ (m = bump Arc.dst n (es.take i)) ∧ es.length - i = κ) ∧ σ = ⟨45, [(6, .one (.rw 117 0 (Int.toNat n))), (7, .one (.rw 120 0 (Int.toNat n))), (22, .one (.ro (.arcs es))), (23, .one (.int .i64 ((es.length : Nat) : Int))), (24, .one (.int .i64 (i : Int)))], [(117, .flat (.ints .i64 l)), (120, .flat (.ints .i64 m))]⟩) _ ⟨0, (List.replicate (Int.toNat n) (0 : Int)), (List.replicate (Int.toNat n) (0 : Int)), ⟨(by omega), (by rfl), (by rfl), rfl⟩, (by kernel_rfl)⟩ ?_
    rintro κ _ ⟨i, l, m, ⟨hi, hl, hm, rfl⟩, rfl⟩
    have hll : l.length = n.toNat := by rw [hl]; exact (bump_all _ _ _).1
    have hml : m.length = n.toNat := by rw [hm]; exact (bump_all _ _ _).1
    refine awp_run_seq [6, 7, 22, 23, 24, 25] [117, 120] [] ⟨45, [(6, .one (.rw 117 0 (Int.toNat n))), (7, .one (.rw 120 0 (Int.toNat n))), (22, .one (.ro (.arcs es))), (23, .one (.int .i64 ((es.length : Nat) : Int))), (24, .one (.int .i64 (i : Int))), (25, .one (.bool (decide ((i : Int) < ((es.length : Nat) : Int)))))], [(117, .flat (.ints .i64 l)), (120, .flat (.ints .i64 m))]⟩ hT (by kernel_rfl) trivial ?_
    refine awp_seq ?_
    refine awp_cond (b := (decide ((i : Int) < ((es.length : Nat) : Int)))) (by kernel_rfl) (fun c6 => ?_) (fun c6 => ?_)
    ·
      try simp only [bs] at c6
      have ha := hok.at_ (i := i) (by omega)
      obtain ⟨a1, a2, a3, a4, _, _⟩ := ha
      have htl : (es.take i).length ≤ 60 := by simp; omega
      have hlb := (bump_all Arc.src n (es.take i)).2 (es.getD i default).src.toNat
      rw [← hl] at hlb
      have hmb := (bump_all Arc.dst n (es.take i)).2 (es.getD i default).dst.toNat
      rw [← hm] at hmb
      refine awp_skip ?_
      refine awp_seq ?_
      refine awp_block ?_
      refine awp_run_seq [6, 7, 9, 22, 23, 24] [109, 117, 120] [((0 : Int) ≤ (i : Int)), ((i : Int) < ((es.length : Nat) : Int)), (0 < 1)] ⟨45, [(6, .one (.rw 117 0 (Int.toNat n))), (7, .one (.rw 120 0 (Int.toNat n))), (9, .one (.ptr 109 0 0)), (22, .one (.ro (.arcs es))), (23, .one (.int .i64 ((es.length : Nat) : Int))), (24, .one (.int .i64 (i : Int)))], [(109, .box 1 3 [(.int .i64 ((List.getD es i default).src)), (.int .i64 ((List.getD es i default).dst)), (.int .i64 ((List.getD es i default).cap))]), (117, .flat (.ints .i64 l)), (120, .flat (.ints .i64 m))]⟩ hT (by kernel_rfl) ⟨(by omega), (by omega), (by decide), trivial⟩ ?_
      refine awp_run_seq [6, 7, 9, 22, 23, 24] [109, 117, 120] [(0 < 1), ((0 : Int) ≤ ((List.getD es i default).src)), (((List.getD es i default).src) < (((Int.toNat n) : Nat) : Int)), ((Int.toNat ((List.getD es i default).src)) < l.length), (-9223372036854775808 ≤ ((List.getD l (Int.toNat ((List.getD es i default).src)) 0) + 1) ∧ ((List.getD l (Int.toNat ((List.getD es i default).src)) 0) + 1) ≤ 9223372036854775807), ((0 : Int) ≤ ((List.getD es i default).src)), (((List.getD es i default).src) < (((Int.toNat n) : Nat) : Int)), ((Int.toNat ((List.getD es i default).src)) < l.length)] ⟨45, [(6, .one (.rw 117 0 (Int.toNat n))), (7, .one (.rw 120 0 (Int.toNat n))), (9, .one (.ptr 109 0 0)), (22, .one (.ro (.arcs es))), (23, .one (.int .i64 ((es.length : Nat) : Int))), (24, .one (.int .i64 (i : Int)))], [(109, .box 1 3 [(.int .i64 ((List.getD es i default).src)), (.int .i64 ((List.getD es i default).dst)), (.int .i64 ((List.getD es i default).cap))]), (117, .flat (.ints .i64 (List.set l (Int.toNat ((List.getD es i default).src)) ((List.getD l (Int.toNat ((List.getD es i default).src)) 0) + 1)))), (120, .flat (.ints .i64 m))]⟩ hT (by kernel_rfl) ⟨(by decide), (by omega), (by omega), (by omega), (by omega), (by omega), (by omega), (by omega), trivial⟩ ?_
      refine awp_run [6, 7, 22, 23, 24] [117, 120] [(0 < 1), ((0 : Int) ≤ ((List.getD es i default).dst)), (((List.getD es i default).dst) < (((Int.toNat n) : Nat) : Int)), ((Int.toNat ((List.getD es i default).dst)) < m.length), (-9223372036854775808 ≤ ((List.getD m (Int.toNat ((List.getD es i default).dst)) 0) + 1) ∧ ((List.getD m (Int.toNat ((List.getD es i default).dst)) 0) + 1) ≤ 9223372036854775807), ((0 : Int) ≤ ((List.getD es i default).dst)), (((List.getD es i default).dst) < (((Int.toNat n) : Nat) : Int)), ((Int.toNat ((List.getD es i default).dst)) < m.length)] ⟨45, [(6, .one (.rw 117 0 (Int.toNat n))), (7, .one (.rw 120 0 (Int.toNat n))), (22, .one (.ro (.arcs es))), (23, .one (.int .i64 ((es.length : Nat) : Int))), (24, .one (.int .i64 (i : Int)))], [(117, .flat (.ints .i64 (List.set l (Int.toNat ((List.getD es i default).src)) ((List.getD l (Int.toNat ((List.getD es i default).src)) 0) + 1)))), (120, .flat (.ints .i64 (List.set m (Int.toNat ((List.getD es i default).dst)) ((List.getD m (Int.toNat ((List.getD es i default).dst)) 0) + 1))))]⟩ hT (by kernel_rfl) ⟨(by decide), (by omega), (by omega), (by omega), (by omega), (by omega), (by omega), (by omega), trivial⟩ ?_
      refine awp_run [6, 7, 22, 23, 24] [117, 120] [(-9223372036854775808 ≤ (((i + 1) : Nat) : Int) ∧ (((i + 1) : Nat) : Int) ≤ 9223372036854775807)] ⟨45, [(6, .one (.rw 117 0 (Int.toNat n))), (7, .one (.rw 120 0 (Int.toNat n))), (22, .one (.ro (.arcs es))), (23, .one (.int .i64 ((es.length : Nat) : Int))), (24, .one (.int .i64 (((i + 1) : Nat) : Int)))], [(117, .flat (.ints .i64 (List.set l (Int.toNat ((List.getD es i default).src)) ((List.getD l (Int.toNat ((List.getD es i default).src)) 0) + 1)))), (120, .flat (.ints .i64 (List.set m (Int.toNat ((List.getD es i default).dst)) ((List.getD m (Int.toNat ((List.getD es i default).dst)) 0) + 1))))]⟩ hT (by kernel_rfl) ⟨(by omega), trivial⟩ ?_
      refine loop_end _ ?_ ⟨(i + 1), (List.set l (Int.toNat ((List.getD es i default).src)) ((List.getD l (Int.toNat ((List.getD es i default).src)) 0) + 1)), (List.set m (Int.toNat ((List.getD es i default).dst)) ((List.getD m (Int.toNat ((List.getD es i default).dst)) 0) + 1)), ⟨(by omega), (by rw [bump_step _ _ _ _ (by omega), ← hl]), (by rw [bump_step _ _ _ _ (by omega), ← hm]), rfl⟩, (by kernel_rfl)⟩
      omega
    ·
      try simp only [bs] at c6
      have hfl : l = bump Arc.src n es := by rw [hl, List.take_of_length_le (by omega)]
      have hfm : m = bump Arc.dst n es := by rw [hm, List.take_of_length_le (by omega)]
      refine awp_exit ?_
      refine awp_run_seq [2, 3, 4] [117, 120] [] ⟨45, [(2, .one (.rw 117 0 (Int.toNat n))), (3, .one (.rw 120 0 (Int.toNat n))), (4, .one (.int .i64 0))], [(117, .flat (.ints .i64 l)), (120, .flat (.ints .i64 m))]⟩ hT (by kernel_rfl) trivial ?_
      refine awp_weak (awk_seal 117 (s' := ⟨45, [(2, .one (.ro (.ints .i64 (List.take (Int.toNat n) l)))), (3, .one (.rw 120 0 (Int.toNat n))), (4, .one (.int .i64 0))], [(120, .flat (.ints .i64 m))]⟩) (by kernel_rfl)) ?_
      rw [show (List.take (Int.toNat n) l) = l from List.take_of_length_le (by first | omega | simp)]
      refine awp_weak (awk_seal 120 (s' := ⟨45, [(2, .one (.ro (.ints .i64 l))), (3, .one (.ro (.ints .i64 (List.take (Int.toNat n) m)))), (4, .one (.int .i64 0))], []⟩) (by kernel_rfl)) ?_
      rw [show (List.take (Int.toNat n) m) = m from List.take_of_length_le (by first | omega | simp)]
      refine awp_ret ?_
      refine kRet.ret _ [] [] (.tup [(false, [(.ro (.ints .i64 l))]), (false, [(.ro (.ints .i64 m))]), (false, [(.int .i64 0)])]) [] (by kernel_rfl) trivial ?_
      exact ⟨by first | rw [show (okL (graphErr n es (-10000)) (bump Arc.src n es)) = l from Eq.symm (by first | exact hE.symm | exact (okI_ok _ hE).symm | exact (okL_ok _ hE).symm | (rw [okL_ok _ hE]; exact hfl) | (rw [okL_ok _ hE]; exact hfm)), show (okL (graphErr n es (-10000)) (bump Arc.dst n es)) = m from Eq.symm (by first | exact hE.symm | exact (okI_ok _ hE).symm | exact (okL_ok _ hE).symm | (rw [okL_ok _ hE]; exact hfl) | (rw [okL_ok _ hE]; exact hfm)), show (graphErr n es (-10000)) = 0 from Eq.symm (by first | exact hE.symm | exact (okI_ok _ hE).symm | exact (okL_ok _ hE).symm | (rw [okL_ok _ hE]; exact hfl) | (rw [okL_ok _ hE]; exact hfm))] | rw [show (okL (graphErr n es (-10000)) (bump Arc.src n es)) = l from Eq.symm (by first | exact hE.symm | exact (okI_ok _ hE).symm | exact (okL_ok _ hE).symm | (rw [okL_ok _ hE]; exact hfl) | (rw [okL_ok _ hE]; exact hfm))] | rw [show (okL (graphErr n es (-10000)) (bump Arc.dst n es)) = m from Eq.symm (by first | exact hE.symm | exact (okI_ok _ hE).symm | exact (okL_ok _ hE).symm | (rw [okL_ok _ hE]; exact hfl) | (rw [okL_ok _ hE]; exact hfm))] | rw [show (graphErr n es (-10000)) = 0 from Eq.symm (by first | exact hE.symm | exact (okI_ok _ hE).symm | exact (okL_ok _ hE).symm | (rw [okL_ok _ hE]; exact hfl) | (rw [okL_ok _ hE]; exact hfm))], rfl⟩
end Go.Ab
