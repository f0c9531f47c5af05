/- Of pairs of two sides: what is short. -/
import Derived.Test.YtakfbagokponeaaTab
import Derived.Test.YtakfbagokponeaaMatch3
import Derived.Test.YtakfbagokponeaaMatch4
import Derived.Test.YtakfbagokponeaaPlKuhn2
set_option maxRecDepth 100000
namespace Go.Ab
open Go Go.Proofs
theorem match_short (m n : Int) (l : List Arc) : ACall Try.prog 41 [.one (.int .i64 m), .one (.int .i64 n), .one (.ro (.arcs l))] [] (fun ov oh => ov = .tup [(false, [(.int .u16 (okI (shortErr m n l) (iandn (fullM m) (iandn (fullM m) (rndTo l m (matesP l n.toNat m.toNat) (m.toNat + n.toNat)).1))))]), (false, [(.int .i64 (shortErr m n l))])] ∧ oh = []) := by
  refine acall_intro hT Try.func41 rfl (by kernel_rfl) rfl (by kernel_rfl) ?_
  refine awp_run_seq [0, 1, 2] [] [] ⟨40, [(0, .one (.int .i64 m)), (1, .one (.int .i64 n)), (2, .one (.ro (.arcs l)))], []⟩ hT (by kernel_rfl) trivial ?_
  refine awp_seq (awp_region ?_)
  refine aops_run 3 [0, 1, 2, 14, 15, 16] [] [] ⟨40, [(0, .one (.int .i64 m)), (1, .one (.int .i64 n)), (2, .one (.ro (.arcs l))), (14, .one (.int .i64 m)), (15, .one (.int .i64 n)), (16, .one (.ro (.arcs l)))], []⟩ hT (by kernel_rfl) (by kernel_rfl) trivial ?_
  refine aops_pure false ⟨true, [], 40, [.one (.int .i64 m), .one (.int .i64 n), .one (.ro (.arcs l))], []⟩ [.one (.int .i64 m), .one (.int .i64 n), .one (.ro (.arcs l))] (.tup [(false, [(.int .u16 (okI (matchErr m n l) (iandn (fullM m) (rndTo l m (matesP l (Int.toNat n) (Int.toNat m)) (Int.toNat m + Int.toNat n)).1)))]), (false, [(.int .u16 (okI (matchErr m n l) (rndTo l m (matesP l (Int.toNat n) (Int.toNat m)) (Int.toNat m + Int.toNat n)).2))]), (false, [(.int .i64 (matchErr m n l))])]) ⟨40, [(0, .one (.int .i64 m)), (1, .one (.int .i64 n)), (2, .one (.ro (.arcs l))), (14, .one (.int .i64 m)), (15, .one (.int .i64 n)), (16, .one (.ro (.arcs l))), (17, .tup [(false, [(.int .u16 (okI (matchErr m n l) (iandn (fullM m) (rndTo l m (matesP l (Int.toNat n) (Int.toNat m)) (Int.toNat m + Int.toNat n)).1)))]), (false, [(.int .u16 (okI (matchErr m n l) (rndTo l m (matesP l (Int.toNat n) (Int.toNat m)) (Int.toNat m + Int.toNat n)).2))]), (false, [(.int .i64 (matchErr m n l))])])], []⟩ (by kernel_rfl) (by kernel_rfl) (fun _ => trivial) rfl (fun _ => match_hold m n l) ?_
  refine aops_run 7 [0, 1, 2, 8, 10] [] [] ⟨40, [(0, .one (.int .i64 m)), (1, .one (.int .i64 n)), (2, .one (.ro (.arcs l))), (8, .one (.int .u16 (okI (matchErr m n l) (iandn (fullM m) (rndTo l m (matesP l (Int.toNat n) (Int.toNat m)) (Int.toNat m + Int.toNat n)).1)))), (10, .one (.int .i64 (matchErr m n l)))], []⟩ hT (by kernel_rfl) (by kernel_rfl) trivial ?_
  refine aops_end_seq (by kernel_rfl) ?_
  refine awp_seq ?_
  refine awp_run_seq [0, 1, 2, 8, 10, 22] [] [] ⟨40, [(0, .one (.int .i64 m)), (1, .one (.int .i64 n)), (2, .one (.ro (.arcs l))), (8, .one (.int .u16 (okI (matchErr m n l) (iandn (fullM m) (rndTo l m (matesP l (Int.toNat n) (Int.toNat m)) (Int.toNat m + Int.toNat n)).1)))), (10, .one (.int .i64 (matchErr m n l))), (22, .one (.bool (decide ((matchErr m n l) ≠ 0))))], []⟩ hT (by kernel_rfl) trivial ?_
  refine awp_cond (b := (decide ((matchErr m n l) ≠ 0))) (by kernel_rfl) (fun c2 => ?_) (fun c2 => ?_)
  · -- yes 2
    try simp only [bs] at c2
    have hS : (shortErr m n l) = (matchErr m n l) := if_pos (by omega)
    refine awp_run_seq [6, 7] [] [] ⟨40, [(6, .one (.int .u16 0)), (7, .one (.int .i64 (matchErr m n l)))], []⟩ hT (by kernel_rfl) trivial ?_
    refine awp_ret ?_
    refine kRet.ret _ [] [] (.tup [(false, [(.int .u16 0)]), (false, [(.int .i64 (matchErr m n l))])]) [] (by kernel_rfl) trivial ?_
    exact ⟨by first | rw [show (okI (shortErr m n l) (iandn (fullM m) (iandn (fullM m) (rndTo l m (matesP l n.toNat m.toNat) (m.toNat + n.toNat)).1))) = 0 from Eq.symm (by exact (okI_no _ (by omega)).symm), show (shortErr m n l) = (matchErr m n l) from Eq.symm (by exact hS.symm)] | rw [show (okI (shortErr m n l) (iandn (fullM m) (iandn (fullM m) (rndTo l m (matesP l n.toNat m.toNat) (m.toNat + n.toNat)).1))) = 0 from Eq.symm (by exact (okI_no _ (by omega)).symm)] | rw [show (shortErr m n l) = (matchErr m n l) from Eq.symm (by exact hS.symm)], rfl⟩
  · -- no 2
    try simp only [bs] at c2
    have hE : (matchErr m n l) = 0 := by omega
    have hOk := matchErr_ok hE
    have h1 := hOk.m0
    have h2 := hOk.m12
    have h3 := hOk.n0
    have h4 := hOk.n12
    have hpm := pow16 (k := m.toNat) (by omega)
    have hsl : ((List.length (okL (matchErr m n l) (sorted (pickM (matesP l n.toNat m.toNat))))) : Int) = cntM (matesP l n.toNat m.toNat) := by rw [okL_ok _ hE, sorted_len, pick_len]
    have hb1 := B16.iandn (b := (rndTo l m (matesP l n.toNat m.toNat) (m.toNat + n.toNat)).1) (full_16 h2)
    have hb2 : 0 ≤ okI (matchErr m n l) (iandn (fullM m) (rndTo l m (matesP l n.toNat m.toNat) (m.toNat + n.toNat)).1) ∧ okI (matchErr m n l) (iandn (fullM m) (rndTo l m (matesP l n.toNat m.toNat) (m.toNat + n.toNat)).1) ≤ 65535 := by rw [okI_ok _ hE]; exact hb1
    refine awp_skip ?_
    refine awp_seq ?_
    refine awp_seq (awp_region ?_)
    refine aops_run 3 [0, 8, 25, 26, 27] [] [] ⟨40, [(0, .one (.int .i64 m)), (8, .one (.int .u16 (okI (matchErr m n l) (iandn (fullM m) (rndTo l m (matesP l (Int.toNat n) (Int.toNat m)) (Int.toNat m + Int.toNat n)).1)))), (25, .one (.int .i64 m)), (26, .one (.int .i64 n)), (27, .one (.ro (.arcs l)))], []⟩ hT (by kernel_rfl) (by kernel_rfl) trivial ?_
    refine aops_pure false ⟨true, [], 39, [.one (.int .i64 m), .one (.int .i64 n), .one (.ro (.arcs l))], []⟩ [.one (.int .i64 m), .one (.int .i64 n), .one (.ro (.arcs l))] (.tup [(false, [(.ro (.ints .i64 (okL (matchErr m n l) (sorted (pickM (matesP l (Int.toNat n) (Int.toNat m)))))))]), (false, [(.int .i64 (matchErr m n l))])]) ⟨40, [(0, .one (.int .i64 m)), (8, .one (.int .u16 (okI (matchErr m n l) (iandn (fullM m) (rndTo l m (matesP l (Int.toNat n) (Int.toNat m)) (Int.toNat m + Int.toNat n)).1)))), (25, .one (.int .i64 m)), (26, .one (.int .i64 n)), (27, .one (.ro (.arcs l))), (28, .tup [(false, [(.ro (.ints .i64 (okL (matchErr m n l) (sorted (pickM (matesP l (Int.toNat n) (Int.toNat m)))))))]), (false, [(.int .i64 (matchErr m n l))])])], []⟩ (by kernel_rfl) (by kernel_rfl) (fun _ => trivial) rfl (fun _ => match_most m n l) ?_
    refine aops_run 5 [0, 8, 11] [] [] ⟨40, [(0, .one (.int .i64 m)), (8, .one (.int .u16 (okI (matchErr m n l) (iandn (fullM m) (rndTo l m (matesP l (Int.toNat n) (Int.toNat m)) (Int.toNat m + Int.toNat n)).1)))), (11, .one (.ro (.ints .i64 (okL (matchErr m n l) (sorted (pickM (matesP l (Int.toNat n) (Int.toNat m))))))))], []⟩ hT (by kernel_rfl) (by kernel_rfl) trivial ?_
    refine aops_end_seq (by kernel_rfl) ?_
    refine awp_run_seq [0, 8, 34] [] [] ⟨40, [(0, .one (.int .i64 m)), (8, .one (.int .u16 (okI (matchErr m n l) (iandn (fullM m) (rndTo l m (matesP l (Int.toNat n) (Int.toNat m)) (Int.toNat m + Int.toNat n)).1)))), (34, .one (.bool (decide ((((List.length (okL (matchErr m n l) (sorted (pickM (matesP l (Int.toNat n) (Int.toNat m)))))) : Nat) : Int) = m))))], []⟩ hT (by kernel_rfl) trivial ?_
    refine awp_cond (b := (decide ((((List.length (okL (matchErr m n l) (sorted (pickM (matesP l (Int.toNat n) (Int.toNat m)))))) : Nat) : Int) = m))) (by kernel_rfl) (fun c5 => ?_) (fun c5 => ?_)
    · -- yes 5
      try simp only [bs] at c5
      have hS : (shortErr m n l) = 5 := by rw [shortErr, if_neg (by omega), if_pos (by omega)]
      refine awp_run_seq [6, 7] [] [] ⟨40, [(6, .one (.int .u16 0)), (7, .one (.int .i64 5))], []⟩ hT (by kernel_rfl) trivial ?_
      refine awp_ret ?_
      refine kRet.ret _ [] [] (.tup [(false, [(.int .u16 0)]), (false, [(.int .i64 5)])]) [] (by kernel_rfl) trivial ?_
      exact ⟨by first | rw [show (okI (shortErr m n l) (iandn (fullM m) (iandn (fullM m) (rndTo l m (matesP l n.toNat m.toNat) (m.toNat + n.toNat)).1))) = 0 from Eq.symm (by exact (okI_no _ (by omega)).symm), show (shortErr m n l) = 5 from Eq.symm (by exact hS.symm)] | rw [show (okI (shortErr m n l) (iandn (fullM m) (iandn (fullM m) (rndTo l m (matesP l n.toNat m.toNat) (m.toNat + n.toNat)).1))) = 0 from Eq.symm (by exact (okI_no _ (by omega)).symm)] | rw [show (shortErr m n l) = 5 from Eq.symm (by exact hS.symm)], rfl⟩
    · -- no 5
      try simp only [bs] at c5
      have hS : (shortErr m n l) = 0 := by rw [shortErr, if_neg (by omega), if_neg (by omega)]
      refine awp_skip ?_
      refine awp_run_seq [6, 7] [] [((0 : Int) ≤ m), (m ≤ 16), (0 ≤ ((1 : Int) * 2 ^ (Int.toNat m)) ∧ ((1 : Int) * 2 ^ (Int.toNat m)) ≤ 65535), (0 ≤ (((1 : Int) * 2 ^ (Int.toNat m)) - 1) ∧ (((1 : Int) * 2 ^ (Int.toNat m)) - 1) ≤ 65535), ((0 : Int) ≤ (((1 : Int) * 2 ^ (Int.toNat m)) - 1) ∧ (0 ≤ (((1 : Int) * 2 ^ (Int.toNat m)) - 1) ∧ (((1 : Int) * 2 ^ (Int.toNat m)) - 1) ≤ 65535)), ((0 : Int) ≤ (okI (matchErr m n l) (iandn (fullM m) (rndTo l m (matesP l (Int.toNat n) (Int.toNat m)) (Int.toNat m + Int.toNat n)).1)) ∧ (0 ≤ (okI (matchErr m n l) (iandn (fullM m) (rndTo l m (matesP l (Int.toNat n) (Int.toNat m)) (Int.toNat m + Int.toNat n)).1)) ∧ (okI (matchErr m n l) (iandn (fullM m) (rndTo l m (matesP l (Int.toNat n) (Int.toNat m)) (Int.toNat m + Int.toNat n)).1)) ≤ 65535))] ⟨40, [(6, .one (.int .u16 (iandn (((1 : Int) * 2 ^ (Int.toNat m)) - 1) (okI (matchErr m n l) (iandn (fullM m) (rndTo l m (matesP l (Int.toNat n) (Int.toNat m)) (Int.toNat m + Int.toNat n)).1))))), (7, .one (.int .i64 0))], []⟩ hT (by kernel_rfl) ⟨(by first | omega | (simp only [lens]; omega) | (simp only [Bool.cond_decide]; omega) | (simp only [nadd_eq]; omega)), (by first | omega | (simp only [lens]; omega) | (simp only [Bool.cond_decide]; omega) | (simp only [nadd_eq]; omega)), (by first | omega | (simp only [lens]; omega) | (simp only [Bool.cond_decide]; omega) | (simp only [nadd_eq]; omega)), (by first | omega | (simp only [lens]; omega) | (simp only [Bool.cond_decide]; omega) | (simp only [nadd_eq]; omega)), (by first | omega | (simp only [lens]; omega) | (simp only [Bool.cond_decide]; omega) | (simp only [nadd_eq]; omega)), (by first | omega | (simp only [lens]; omega) | (simp only [Bool.cond_decide]; omega) | (simp only [nadd_eq]; omega)), trivial⟩ ?_
      refine awp_ret ?_
      refine kRet.ret _ [] [] (.tup [(false, [(.int .u16 (iandn (((1 : Int) * 2 ^ (Int.toNat m)) - 1) (okI (matchErr m n l) (iandn (fullM m) (rndTo l m (matesP l (Int.toNat n) (Int.toNat m)) (Int.toNat m + Int.toNat n)).1))))]), (false, [(.int .i64 0)])]) [] (by kernel_rfl) trivial ?_
      exact ⟨by first | rw [show (okI (shortErr m n l) (iandn (fullM m) (iandn (fullM m) (rndTo l m (matesP l n.toNat m.toNat) (m.toNat + n.toNat)).1))) = (iandn (((1 : Int) * 2 ^ (Int.toNat m)) - 1) (okI (matchErr m n l) (iandn (fullM m) (rndTo l m (matesP l (Int.toNat n) (Int.toNat m)) (Int.toNat m + Int.toNat n)).1))) from Eq.symm (by rw [okI_ok _ hS, okI_ok _ hE]; rfl), show (shortErr m n l) = 0 from Eq.symm (by exact hS.symm)] | rw [show (okI (shortErr m n l) (iandn (fullM m) (iandn (fullM m) (rndTo l m (matesP l n.toNat m.toNat) (m.toNat + n.toNat)).1))) = (iandn (((1 : Int) * 2 ^ (Int.toNat m)) - 1) (okI (matchErr m n l) (iandn (fullM m) (rndTo l m (matesP l (Int.toNat n) (Int.toNat m)) (Int.toNat m + Int.toNat n)).1))) from Eq.symm (by rw [okI_ok _ hS, okI_ok _ hE]; rfl)] | rw [show (shortErr m n l) = 0 from Eq.symm (by exact hS.symm)], rfl⟩

end Go.Ab
