/- Of pairs of two sides: the most. -/
import Derived.Test.YtakfbagokponeaaTab
import Derived.Test.YtakfbagokponeaaMatch2
import Derived.Test.YtakfbagokponeaaMatch0
import Derived.Test.YtakfbagokponeaaSort1
set_option maxRecDepth 100000
namespace Go.Ab
open Go Go.Proofs
theorem match_most (m n : Int) (l : List Arc) : ACall Try.prog 39 [.one (.int .i64 m), .one (.int .i64 n), .one (.ro (.arcs l))] [] (fun ov oh => ov = .tup [(false, [(.ro (.ints .i64 (okL (matchErr m n l) (sorted (pickM (matesP l n.toNat m.toNat))))))]), (false, [(.int .i64 (matchErr m n l))])] ∧ oh = []) := by
  refine acall_intro hT Try.func39 rfl (by kernel_rfl) rfl (by kernel_rfl) ?_
  refine awp_run_seq [0, 1, 2] [] [] ⟨38, [(0, .one (.int .i64 m)), (1, .one (.int .i64 n)), (2, .one (.ro (.arcs l)))], []⟩ hT (by kernel_rfl) trivial ?_
  refine awp_seq ?_
  refine awp_seq (awp_region ?_)
  refine aops_run 3 [0, 1, 2, 12, 13, 14] [] [] ⟨38, [(0, .one (.int .i64 m)), (1, .one (.int .i64 n)), (2, .one (.ro (.arcs l))), (12, .one (.int .i64 m)), (13, .one (.int .i64 n)), (14, .one (.ro (.arcs l)))], []⟩ hT (by kernel_rfl) (by kernel_rfl) trivial ?_
  refine aops_pure false ⟨true, [], 43, [.one (.int .i64 m), .one (.int .i64 n), .one (.ro (.arcs l))], []⟩ [.one (.int .i64 m), .one (.int .i64 n), .one (.ro (.arcs l))] (.one (.int .i64 (matchErr m n l))) ⟨38, [(0, .one (.int .i64 m)), (1, .one (.int .i64 n)), (2, .one (.ro (.arcs l))), (12, .one (.int .i64 m)), (13, .one (.int .i64 n)), (14, .one (.ro (.arcs l))), (15, .one (.int .i64 (matchErr m n l)))], []⟩ (by kernel_rfl) (by kernel_rfl) (fun _ => trivial) rfl (fun _ => match_check m n l) ?_
  refine aops_run 1 [0, 1, 2, 8] [] [] ⟨38, [(0, .one (.int .i64 m)), (1, .one (.int .i64 n)), (2, .one (.ro (.arcs l))), (8, .one (.int .i64 (matchErr m n l)))], []⟩ hT (by kernel_rfl) (by kernel_rfl) trivial ?_
  refine aops_end_seq (by kernel_rfl) ?_
  refine awp_run_seq [0, 1, 2, 8, 17] [] [] ⟨38, [(0, .one (.int .i64 m)), (1, .one (.int .i64 n)), (2, .one (.ro (.arcs l))), (8, .one (.int .i64 (matchErr m n l))), (17, .one (.bool (decide ((matchErr m n l) ≠ 0))))], []⟩ hT (by kernel_rfl) trivial ?_
  refine awp_cond (b := (decide ((matchErr m n l) ≠ 0))) (by kernel_rfl) (fun c2 => ?_) (fun c2 => ?_)
  · -- yes 2
    try simp only [bs] at c2
    refine awp_run_seq [6, 7] [] [] ⟨38, [(6, .one .nils), (7, .one (.int .i64 (matchErr m n l)))], []⟩ hT (by kernel_rfl) trivial ?_
    refine awp_weak (awk_slot 6 (.one .nils) (.one (.ro (.ints .i64 []))) _ (by kernel_rfl) (.one (wkv_nil0 rfl))) ?_
    refine awp_ret ?_
    refine kRet.ret _ [] [] (.tup [(false, [(.ro (.ints .i64 []))]), (false, [(.int .i64 (matchErr m n l))])]) [] (by kernel_rfl) trivial ?_
    exact ⟨congrArg (fun x1 => (.tup [(false, [(.ro (.ints .i64 x1))]), (false, [(.int .i64 (matchErr m n l))])] : AV)) (show [] = (okL (matchErr m n l) (sorted (pickM (matesP l n.toNat m.toNat)))) from by exact (okL_no _ (by omega)).symm), rfl⟩
  · -- no 2
    try simp only [bs] at c2
    have hE : (matchErr m n l) = 0 := by omega
    have hOk := matchErr_ok hE
    have h1 := hOk.m0
    have h2 := hOk.m12
    have h3 := hOk.n0
    have h4 := hOk.n12
    have hMo := mates_ok l n.toNat m.toNat
    have hMl := hMo.1
    refine awp_skip ?_
    refine awp_run_seq [0, 1, 2, 9] [] [] ⟨38, [(0, .one (.int .i64 m)), (1, .one (.int .i64 n)), (2, .one (.ro (.arcs l))), (9, .one .nils)], []⟩ hT (by kernel_rfl) trivial ?_
    refine awp_seq ?_
    refine awp_seq (awp_region ?_)
    refine aops_run 3 [9, 19, 20, 21] [] [] ⟨38, [(9, .one .nils), (19, .one (.int .i64 m)), (20, .one (.int .i64 n)), (21, .one (.ro (.arcs l)))], []⟩ hT (by kernel_rfl) (by kernel_rfl) trivial ?_
    refine aops_pure false ⟨true, [], 94, [.one (.int .i64 m), .one (.int .i64 n), .one (.ro (.arcs l))], []⟩ [.one (.int .i64 m), .one (.int .i64 n), .one (.ro (.arcs l))] (.one (.ro (.ints .i64 (matesP l (Int.toNat n) (Int.toNat m))))) ⟨38, [(9, .one .nils), (19, .one (.int .i64 m)), (20, .one (.int .i64 n)), (21, .one (.ro (.arcs l))), (22, .one (.ro (.ints .i64 (matesP l (Int.toNat n) (Int.toNat m)))))], []⟩ (by kernel_rfl) (by kernel_rfl) (fun _ => trivial) rfl (fun _ => match_mates m n l hOk) ?_
    refine aops_run 2 [9, 22, 23, 24] [] [] ⟨38, [(9, .one .nils), (22, .one (.ro (.ints .i64 (matesP l (Int.toNat n) (Int.toNat m))))), (23, .one (.int .i64 (((List.length (matesP l (Int.toNat n) (Int.toNat m))) : Nat) : Int))), (24, .one (.int .i64 0))], []⟩ hT (by kernel_rfl) (by kernel_rfl) trivial ?_
    refine aops_end_seq (by kernel_rfl) ?_
    refine awp_block ?_
    refine awp_weak (awk_empty 5009 (.flat (.ints .i64 [])) rfl (by decide) _) ?_
    refine awp_weak (awk_slot 9 (.one .nils) (.one (.rw 5009 0 0)) _ (by kernel_rfl) (.one (wkv_nils (o := .flat (.ints .i64 [])) (by kernel_rfl)))) ?_
    refine awp_loop (I := fun κ σ => ∃ (k : Nat) (o : List Int), ((k ≤ (matesP l n.toNat m.toNat).length) ∧ (o = pickM ((matesP l n.toNat m.toNat).take k)) ∧ (matesP l n.toNat m.toNat).length - k = κ) ∧ σ = ⟨38, [(9, .one (.rw 5009 0 o.length)), (22, .one (.ro (.ints .i64 (matesP l (Int.toNat n) (Int.toNat m))))), (23, .one (.int .i64 (((List.length (matesP l (Int.toNat n) (Int.toNat m))) : Nat) : Int))), (24, .one (.int .i64 ((k : Nat) : Int)))], [(5009, .flat (.ints .i64 o))]⟩) _ ⟨0, [], ⟨(by omega), (by rfl), rfl⟩, (by kernel_rfl)⟩ ?_
    rintro κ _ ⟨k, o, ⟨hk, ho, rfl⟩, rfl⟩
    have hol : o.length ≤ k := by rw [ho]; exact Nat.le_trans (pick_le _) (by rw [List.length_take]; omega)
    refine awp_run_seq [9, 22, 23, 24, 25] [5009] [] ⟨38, [(9, .one (.rw 5009 0 o.length)), (22, .one (.ro (.ints .i64 (matesP l (Int.toNat n) (Int.toNat m))))), (23, .one (.int .i64 (((List.length (matesP l (Int.toNat n) (Int.toNat m))) : Nat) : Int))), (24, .one (.int .i64 ((k : Nat) : Int))), (25, .one (.bool (decide (((k : Nat) : Int) < (((List.length (matesP l (Int.toNat n) (Int.toNat m))) : Nat) : Int)))))], [(5009, .flat (.ints .i64 o))]⟩ hT (by kernel_rfl) trivial ?_
    refine awp_seq ?_
    refine awp_cond (b := (decide (((k : Nat) : Int) < (((List.length (matesP l (Int.toNat n) (Int.toNat m))) : Nat) : Int)))) (by kernel_rfl) (fun c6 => ?_) (fun c6 => ?_)
    · -- yes 6
      try simp only [bs] at c6
      have hkl : k < (matesP l n.toNat m.toNat).length := by omega
      have hpt := pick_take hkl
      refine awp_skip ?_
      refine awp_seq ?_
      refine awp_block ?_
      refine awp_run_seq [9, 11, 22, 23, 24] [5009] [((0 : Int) ≤ ((k : Nat) : Int)), (((k : Nat) : Int) < (((List.length (matesP l (Int.toNat n) (Int.toNat m))) : Nat) : Int))] ⟨38, [(9, .one (.rw 5009 0 o.length)), (11, .one (.int .i64 (List.getD (matesP l (Int.toNat n) (Int.toNat m)) k 0))), (22, .one (.ro (.ints .i64 (matesP l (Int.toNat n) (Int.toNat m))))), (23, .one (.int .i64 (((List.length (matesP l (Int.toNat n) (Int.toNat m))) : Nat) : Int))), (24, .one (.int .i64 ((k : Nat) : Int)))], [(5009, .flat (.ints .i64 o))]⟩ hT (by kernel_rfl) ⟨(by first | omega | (simp only [lens]; omega) | (simp only [Bool.cond_decide]; omega) | (simp only [nadd_eq]; omega)), (by first | omega | (simp only [lens]; omega) | (simp only [Bool.cond_decide]; omega) | (simp only [nadd_eq]; omega)), trivial⟩ ?_
      refine awp_run_seq [9, 11, 22, 23, 24, 29] [5009] [] ⟨38, [(9, .one (.rw 5009 0 o.length)), (11, .one (.int .i64 (List.getD (matesP l (Int.toNat n) (Int.toNat m)) k 0))), (22, .one (.ro (.ints .i64 (matesP l (Int.toNat n) (Int.toNat m))))), (23, .one (.int .i64 (((List.length (matesP l (Int.toNat n) (Int.toNat m))) : Nat) : Int))), (24, .one (.int .i64 ((k : Nat) : Int))), (29, .one (.bool (decide ((0 : Int) ≤ (List.getD (matesP l (Int.toNat n) (Int.toNat m)) k 0)))))], [(5009, .flat (.ints .i64 o))]⟩ hT (by kernel_rfl) trivial ?_
      refine awp_cond (b := (decide ((0 : Int) ≤ (List.getD (matesP l (Int.toNat n) (Int.toNat m)) k 0)))) (by kernel_rfl) (fun c8 => ?_) (fun c8 => ?_)
      · -- yes 8
        try simp only [bs] at c8
        rw [if_pos c8] at hpt
        refine awp_run [9, 22, 23, 24] [5009] [(o.length = o.length), ((o.length + 1) * 8 ≤ 140737488355328), ((o.length + 1) ≤ 9223372036854775807)] ⟨38, [(9, .one (.rw 5009 0 (o.length + 1))), (22, .one (.ro (.ints .i64 (matesP l (Int.toNat n) (Int.toNat m))))), (23, .one (.int .i64 (((List.length (matesP l (Int.toNat n) (Int.toNat m))) : Nat) : Int))), (24, .one (.int .i64 ((k : Nat) : Int)))], [(5009, .flat (.ints .i64 (o ++ [(List.getD (matesP l (Int.toNat n) (Int.toNat m)) k 0)])))]⟩ hT (by kernel_rfl) ⟨(by first | omega | (simp only [lens]; omega) | (simp only [Bool.cond_decide]; omega) | (simp only [nadd_eq]; omega)), (by first | omega | (simp only [lens]; omega) | (simp only [Bool.cond_decide]; omega) | (simp only [nadd_eq]; omega)), (by first | omega | (simp only [lens]; omega) | (simp only [Bool.cond_decide]; omega) | (simp only [nadd_eq]; omega)), trivial⟩ ?_
        refine awp_run [9, 22, 23, 24] [5009] [(-9223372036854775808 ≤ (((k + 1) : Nat) : Int) ∧ (((k + 1) : Nat) : Int) ≤ 9223372036854775807)] ⟨38, [(9, .one (.rw 5009 0 (o.length + 1))), (22, .one (.ro (.ints .i64 (matesP l (Int.toNat n) (Int.toNat m))))), (23, .one (.int .i64 (((List.length (matesP l (Int.toNat n) (Int.toNat m))) : Nat) : Int))), (24, .one (.int .i64 (((k + 1) : Nat) : Int)))], [(5009, .flat (.ints .i64 (o ++ [(List.getD (matesP l (Int.toNat n) (Int.toNat m)) k 0)])))]⟩ hT (by kernel_rfl) ⟨(by first | omega | (simp only [lens]; omega) | (simp only [Bool.cond_decide]; omega) | (simp only [nadd_eq]; omega)), trivial⟩ ?_
        refine loop_end _ ?_ ⟨(k + 1), (o ++ [(List.getD (matesP l (Int.toNat n) (Int.toNat m)) k 0)]), ⟨(by omega), (by rw [hpt, ho]), rfl⟩, (by first | (simp only [lens]; done) | (simp only [Nat.zero_add]; done) | simp only [lens, Nat.zero_add])⟩
        omega
      · -- no 8
        try simp only [bs] at c8
        rw [if_neg (by omega), List.append_nil] at hpt
        refine awp_skip ?_
        refine awp_run [9, 22, 23, 24] [5009] [(-9223372036854775808 ≤ (((k + 1) : Nat) : Int) ∧ (((k + 1) : Nat) : Int) ≤ 9223372036854775807)] ⟨38, [(9, .one (.rw 5009 0 o.length)), (22, .one (.ro (.ints .i64 (matesP l (Int.toNat n) (Int.toNat m))))), (23, .one (.int .i64 (((List.length (matesP l (Int.toNat n) (Int.toNat m))) : Nat) : Int))), (24, .one (.int .i64 (((k + 1) : Nat) : Int)))], [(5009, .flat (.ints .i64 o))]⟩ hT (by kernel_rfl) ⟨(by first | omega | (simp only [lens]; omega) | (simp only [Bool.cond_decide]; omega) | (simp only [nadd_eq]; omega)), trivial⟩ ?_
        refine loop_end _ ?_ ⟨(k + 1), o, ⟨(by omega), (by rw [hpt, ho]), rfl⟩, (by kernel_rfl)⟩
        omega
    · -- no 6
      try simp only [bs] at c6
      have hoe : o = pickM (matesP l n.toNat m.toNat) := by rw [ho, List.take_of_length_le (by omega)]
      have hsl := sorted_len o
      refine awp_exit ?_
      refine awp_seq (awp_region ?_)
      refine aops_run 1 [9, 35] [5009] [] ⟨38, [(9, .one (.rw 5009 0 o.length)), (35, .one (.rw 5009 0 o.length))], [(5009, .flat (.ints .i64 o))]⟩ hT (by kernel_rfl) (by kernel_rfl) trivial ?_
      refine aops_call [(1, 5009)] [] false ⟨true, [], 95, [.one (.rw 1 0 o.length)], [(1, .flat (.ints .i64 o))]⟩ [.one (.rw 1 0 o.length)] (sm := ⟨38, [(9, .one (.rw 5009 0 o.length)), (35, .one (.rw 5009 0 o.length)), (36, .whn false (.one .any))], [(5009, .flat (.ints .i64 o))]⟩) (by kernel_rfl) (by kernel_rfl) (by decide) (fun _ => trivial) rfl (fun _ => sort_is 1 o (by first | omega | (simp; omega))) (fun _ v Hr hv => ?_) (fun h => by cases h)
      obtain ⟨rfl, rfl⟩ := hv
      refine ⟨⟨38, [(9, .one (.rw 5009 0 o.length)), (35, .one (.rw 5009 0 o.length)), (36, .tup [])], [(5009, .flat (.ints .i64 (sorted o)))]⟩, by kernel_rfl, ?_⟩
      refine aops_cut [9] [5009] ⟨38, [(9, .one (.rw 5009 0 o.length))], [(5009, .flat (.ints .i64 (sorted o)))]⟩ (by kernel_rfl) ?_
      refine aops_end_seq (by kernel_rfl) ?_
      refine awp_weak (awk_seal 5009 (s' := ⟨38, [(9, .one (.ro (.ints .i64 (List.take o.length (sorted o)))))], []⟩) (by kernel_rfl)) ?_
      rw [show (List.take o.length (sorted o)) = (sorted o) from List.take_of_length_le (by first | omega | simp)]
      refine awp_run_seq [6, 7] [] [] ⟨38, [(6, .one (.ro (.ints .i64 (sorted o)))), (7, .one (.int .i64 0))], []⟩ hT (by kernel_rfl) trivial ?_
      refine awp_ret ?_
      refine kRet.ret _ [] [] (.tup [(false, [(.ro (.ints .i64 (sorted o)))]), (false, [(.int .i64 0)])]) [] (by kernel_rfl) trivial ?_
      exact ⟨by first | rw [show (okL (matchErr m n l) (sorted (pickM (matesP l n.toNat m.toNat)))) = (sorted o) from Eq.symm (by rw [okL_ok _ hE, hoe]), show (matchErr m n l) = 0 from Eq.symm (by exact hE.symm)] | rw [show (okL (matchErr m n l) (sorted (pickM (matesP l n.toNat m.toNat)))) = (sorted o) from Eq.symm (by rw [okL_ok _ hE, hoe])] | rw [show (matchErr m n l) = 0 from Eq.symm (by exact hE.symm)], rfl⟩

end Go.Ab
