/- Of degrees: Make. -/
import Derived.Test.YtglkldhjffnhhaaTab
import Derived.Test.YtglkldhjffnhhaaDeg1d
import Derived.Test.YtglkldhjffnhhaaDeg2d
set_option maxRecDepth 100000
namespace Go.Ab
open Go Go.Proofs
theorem degree_make (l : List Int) : ACall Try.prog 69 [.one (.ro (.ints .i64 l))] [] (fun ov oh => ov = .tup [(false, [(.ro (.arcs (okL (makeErrD l) (standL l))))]), (false, [(.int .i64 (makeErrD l))])] ∧ oh = []) := by
  refine acall_intro hT Try.func69 rfl (by kernel_rfl) rfl (by kernel_rfl) ?_
  refine awp_run_seq [0] [] [] ⟨71, [(0, .one (.ro (.ints .i64 l)))], []⟩ hT (by kernel_rfl) trivial ?_
  refine awp_seq (awp_region ?_)
  refine aops_run 1 [0, 14] [] [] ⟨71, [(0, .one (.ro (.ints .i64 l))), (14, .one (.ro (.ints .i64 l)))], []⟩ hT (by kernel_rfl) (by kernel_rfl) trivial ?_
  refine aops_pure false ⟨true, [], 68, [.one (.ro (.ints .i64 l))], []⟩ [.one (.ro (.ints .i64 l))] (.tup [(false, [(.bool (canB l))]), (false, [(.int .i64 (degErr l))])]) ⟨71, [(0, .one (.ro (.ints .i64 l))), (14, .one (.ro (.ints .i64 l))), (15, .tup [(false, [(.bool (canB l))]), (false, [(.int .i64 (degErr l))])])], []⟩ (by kernel_rfl) (by kernel_rfl) (fun _ => trivial) rfl (fun _ => degree_can l) ?_
  refine aops_run 5 [0, 4, 5] [] [] ⟨71, [(0, .one (.ro (.ints .i64 l))), (4, .one (.bool (canB l))), (5, .one (.int .i64 (degErr l)))], []⟩ hT (by kernel_rfl) (by kernel_rfl) trivial ?_
  refine aops_end_seq (by kernel_rfl) ?_
  refine awp_seq ?_
  refine awp_run_seq [0, 4, 5, 19] [] [] ⟨71, [(0, .one (.ro (.ints .i64 l))), (4, .one (.bool (canB l))), (5, .one (.int .i64 (degErr l))), (19, .one (.bool (decide ((degErr l) ≠ 0))))], []⟩ hT (by kernel_rfl) trivial ?_
  refine awp_cond (b := (decide ((degErr l) ≠ 0))) (by kernel_rfl) (fun c2 => ?_) (fun c2 => ?_)
  · -- yes 2
    try simp only [bs] at c2
    have hM := makeD_bad (l := l) (by omega)
    have hM0 : (makeErrD l) ≠ 0 := by omega
    refine awp_run_seq [2, 3] [] [] ⟨71, [(2, .one .nils), (3, .one (.int .i64 (degErr l)))], []⟩ hT (by kernel_rfl) trivial ?_
    refine awp_weak (awk_slot 2 (.one .nils) (.one (.ro (.arcs []))) _ (by kernel_rfl) (.one (wkv_nil0 rfl))) ?_
    refine awp_ret ?_
    refine kRet.ret _ [] [] (.tup [(false, [(.ro (.arcs []))]), (false, [(.int .i64 (degErr l))])]) [] (by kernel_rfl) trivial ?_
    exact ⟨by first | rw [show (okL (makeErrD l) (standL l)) = [] from Eq.symm (by first | exact hM.symm | exact (okL_no _ hM0).symm), show (makeErrD l) = (degErr l) from Eq.symm (by first | exact hM.symm | exact (okL_no _ hM0).symm)] | rw [show (okL (makeErrD l) (standL l)) = [] from Eq.symm (by first | exact hM.symm | exact (okL_no _ hM0).symm)] | rw [show (makeErrD l) = (degErr l) from Eq.symm (by first | exact hM.symm | exact (okL_no _ hM0).symm)], rfl⟩
  · -- no 2
    try simp only [bs] at c2
    have hE : (degErr l) = 0 := by omega
    obtain ⟨hl12, _⟩ := degErr_ok hE
    refine awp_skip ?_
    refine awp_seq ?_
    refine awp_run_seq [0, 22] [] [] ⟨71, [(0, .one (.ro (.ints .i64 l))), (22, .one (.bool (!(canB l))))], []⟩ hT (by kernel_rfl) trivial ?_
    refine awp_cond (b := (!(canB l))) (by kernel_rfl) (fun c4 => ?_) (fun c4 => ?_)
    · -- yes 4
      try simp only [bs] at c4
      have hM := makeD_none hE c4
      have hM0 : (makeErrD l) ≠ 0 := by omega
      refine awp_run_seq [2, 3] [] [] ⟨71, [(2, .one .nils), (3, .one (.int .i64 5))], []⟩ hT (by kernel_rfl) trivial ?_
      refine awp_weak (awk_slot 2 (.one .nils) (.one (.ro (.arcs []))) _ (by kernel_rfl) (.one (wkv_nil0 rfl))) ?_
      refine awp_ret ?_
      refine kRet.ret _ [] [] (.tup [(false, [(.ro (.arcs []))]), (false, [(.int .i64 5)])]) [] (by kernel_rfl) trivial ?_
      exact ⟨by first | rw [show (okL (makeErrD l) (standL l)) = [] from Eq.symm (by first | exact hM.symm | exact (okL_no _ hM0).symm), show (makeErrD l) = 5 from Eq.symm (by first | exact hM.symm | exact (okL_no _ hM0).symm)] | rw [show (okL (makeErrD l) (standL l)) = [] from Eq.symm (by first | exact hM.symm | exact (okL_no _ hM0).symm)] | rw [show (makeErrD l) = 5 from Eq.symm (by first | exact hM.symm | exact (okL_no _ hM0).symm)], rfl⟩
    · -- no 4
      try simp only [bs] at c4
      obtain ⟨hM, hS⟩ := makeD_ok hE c4
      refine awp_skip ?_
      refine awp_seq (awp_region ?_)
      refine aops_run 1 [0, 23] [] [] ⟨71, [(0, .one (.ro (.ints .i64 l))), (23, .one (.ro (.ints .i64 l)))], []⟩ hT (by kernel_rfl) (by kernel_rfl) trivial ?_
      refine aops_call [] [(9001, 124)] false ⟨true, [], 82, [.one (.ro (.ints .i64 l))], []⟩ [.one (.ro (.ints .i64 l))] (sm := ⟨71, [(0, .one (.ro (.ints .i64 l))), (23, .one (.ro (.ints .i64 l))), (24, .whn false (.one .any))], []⟩) (by kernel_rfl) (by kernel_rfl) (by decide) (fun _ => trivial) rfl (fun _ => clone_ints l (by first | omega | (simp; omega))) (fun _ v Hr hv => ?_) (fun h => by cases h)
      obtain ⟨rfl, rfl⟩ := hv
      refine ⟨⟨71, [(0, .one (.ro (.ints .i64 l))), (23, .one (.ro (.ints .i64 l))), (24, .one (.rw 124 0 l.length))], [(124, .flat (.ints .i64 l))]⟩, by kernel_rfl, ?_⟩
      refine aops_run 2 [0, 6] [106, 124] [(0 < 1)] ⟨71, [(0, .one (.ro (.ints .i64 l))), (6, .one (.ptr 106 0 0))], [(106, .box 1 1 [(.rw 124 0 l.length)]), (124, .flat (.ints .i64 l))]⟩ hT (by kernel_rfl) (by kernel_rfl) ⟨(by decide), trivial⟩ ?_
      refine aops_end_seq (by kernel_rfl) ?_
      refine awp_run_seq [0, 6, 7] [106, 124] [] ⟨71, [(0, .one (.ro (.ints .i64 l))), (6, .one (.ptr 106 0 0)), (7, .one .nils)], [(106, .box 1 1 [(.rw 124 0 l.length)]), (124, .flat (.ints .i64 l))]⟩ hT (by kernel_rfl) trivial ?_
      refine awp_seq ?_
      refine awp_run_seq [0, 6, 7, 26, 27] [106, 124] [] ⟨71, [(0, .one (.ro (.ints .i64 l))), (6, .one (.ptr 106 0 0)), (7, .one .nils), (26, .one (.int .i64 ((l.length : Nat) : Int))), (27, .one (.int .i64 0))], [(106, .box 1 1 [(.rw 124 0 l.length)]), (124, .flat (.ints .i64 l))]⟩ hT (by kernel_rfl) trivial ?_
      refine awp_block ?_
      refine awp_weak (awk_empty 5007 (.flat (.arcs [])) rfl (by decide) _) ?_
      refine awp_weak (awk_slot 7 (.one .nils) (.one (.rw 5007 0 0)) _ (by kernel_rfl) (.one (wkv_nils (o := .flat (.arcs [])) (by kernel_rfl)))) ?_
      refine awp_loop (I := fun κ σ => ∃ (i : Nat) (X : List Int) (acc : List Arc), ((i ≤ l.length) ∧ (StInv l i X acc) ∧ l.length - i = κ) ∧ σ = ⟨71, [(0, .one (.ro (.ints .i64 l))), (6, .one (.ptr 106 0 0)), (7, .one (.rw 5007 0 acc.length)), (26, .one (.int .i64 ((l.length : Nat) : Int))), (27, .one (.int .i64 ((i : Nat) : Int)))], [(106, .box 1 1 [(.rw 124 0 l.length)]), (124, .flat (.ints .i64 X)), (5007, .flat (.arcs acc))]⟩) _ ⟨0, l, [], ⟨(by omega), (by exact StInv.start hE), rfl⟩, (by kernel_rfl)⟩ ?_
      rintro κ _ ⟨i, X, acc, ⟨hi, hX, rfl⟩, rfl⟩
      have hXl := hX.len
      have hXa := hX.al
      refine awp_run_seq [0, 6, 7, 26, 27, 28] [106, 124, 5007] [] ⟨71, [(0, .one (.ro (.ints .i64 l))), (6, .one (.ptr 106 0 0)), (7, .one (.rw 5007 0 acc.length)), (26, .one (.int .i64 ((l.length : Nat) : Int))), (27, .one (.int .i64 ((i : Nat) : Int))), (28, .one (.bool (decide (((i : Nat) : Int) < ((l.length : Nat) : Int)))))], [(106, .box 1 1 [(.rw 124 0 l.length)]), (124, .flat (.ints .i64 X)), (5007, .flat (.arcs acc))]⟩ hT (by kernel_rfl) trivial ?_
      refine awp_seq ?_
      refine awp_cond (b := (decide (((i : Nat) : Int) < ((l.length : Nat) : Int)))) (by kernel_rfl) (fun c9 => ?_) (fun c9 => ?_)
      · -- yes 9
        try simp only [bs] at c9
        have hil : i < l.length := by omega
        have hgd := hX.good hil hS
        obtain ⟨hg1, hg2⟩ := badD_no hgd
        have hxi := hX.in_ i hil
        have hodl := ordD_len X i
        have hol := others_len i l.length
        refine awp_skip ?_
        refine awp_seq ?_
        refine awp_block ?_
        refine awp_run_seq [0, 6, 7, 8, 26, 27] [106, 124, 5007] [] ⟨71, [(0, .one (.ro (.ints .i64 l))), (6, .one (.ptr 106 0 0)), (7, .one (.rw 5007 0 acc.length)), (8, .one (.int .i64 ((i : Nat) : Int))), (26, .one (.int .i64 ((l.length : Nat) : Int))), (27, .one (.int .i64 ((i : Nat) : Int)))], [(106, .box 1 1 [(.rw 124 0 l.length)]), (124, .flat (.ints .i64 X)), (5007, .flat (.arcs acc))]⟩ hT (by kernel_rfl) trivial ?_
        refine awp_run_seq [0, 6, 7, 8, 9, 26, 27] [106, 124, 5007] [] ⟨71, [(0, .one (.ro (.ints .i64 l))), (6, .one (.ptr 106 0 0)), (7, .one (.rw 5007 0 acc.length)), (8, .one (.int .i64 ((i : Nat) : Int))), (9, .one .nils), (26, .one (.int .i64 ((l.length : Nat) : Int))), (27, .one (.int .i64 ((i : Nat) : Int)))], [(106, .box 1 1 [(.rw 124 0 l.length)]), (124, .flat (.ints .i64 X)), (5007, .flat (.arcs acc))]⟩ hT (by kernel_rfl) trivial ?_
        refine awp_seq ?_
        refine awp_run_seq [0, 6, 7, 8, 9, 10, 26, 27] [106, 124, 5007] [(-9223372036854775808 ≤ (((i + 1) : Nat) : Int) ∧ (((i + 1) : Nat) : Int) ≤ 9223372036854775807)] ⟨71, [(0, .one (.ro (.ints .i64 l))), (6, .one (.ptr 106 0 0)), (7, .one (.rw 5007 0 acc.length)), (8, .one (.int .i64 ((i : Nat) : Int))), (9, .one .nils), (10, .one (.int .i64 (((i + 1) : Nat) : Int))), (26, .one (.int .i64 ((l.length : Nat) : Int))), (27, .one (.int .i64 ((i : Nat) : Int)))], [(106, .box 1 1 [(.rw 124 0 l.length)]), (124, .flat (.ints .i64 X)), (5007, .flat (.arcs acc))]⟩ hT (by kernel_rfl) ⟨(by first | omega | (simp only [lens]; omega) | (simp only [lens]; done) | (simp; done)), trivial⟩ ?_
        refine awp_block ?_
        refine awp_weak (awk_empty 5009 (.flat (.ints .i64 [])) rfl (by decide) _) ?_
        refine awp_weak (awk_slot 9 (.one .nils) (.one (.rw 5009 0 0)) _ (by kernel_rfl) (.one (wkv_nils (o := .flat (.ints .i64 [])) (by kernel_rfl)))) ?_
        refine awp_loop (I := fun κ σ => ∃ (q : Nat) (ob : List Int), ((i + 1 + q ≤ l.length) ∧ (ob = (othersOf i l.length).take q) ∧ l.length - (i + 1 + q) = κ) ∧ σ = ⟨71, [(0, .one (.ro (.ints .i64 l))), (6, .one (.ptr 106 0 0)), (7, .one (.rw 5007 0 acc.length)), (8, .one (.int .i64 ((i : Nat) : Int))), (9, .one (.rw 5009 0 ob.length)), (10, .one (.int .i64 (((i + 1 + q) : Nat) : Int))), (26, .one (.int .i64 ((l.length : Nat) : Int))), (27, .one (.int .i64 ((i : Nat) : Int)))], [(106, .box 1 1 [(.rw 124 0 l.length)]), (124, .flat (.ints .i64 X)), (5007, .flat (.arcs acc)), (5009, .flat (.ints .i64 ob))]⟩) _ ⟨0, [], ⟨(by omega), (by rfl), rfl⟩, (by kernel_rfl)⟩ ?_
        rintro κ _ ⟨q, ob, ⟨hq, hob, rfl⟩, rfl⟩
        have hobl : ob.length = q := by rw [hob, List.length_take]; omega
        refine awp_seq ?_
        refine awp_run_seq [0, 6, 7, 8, 9, 10, 26, 27, 35] [106, 124, 5007, 5009] [] ⟨71, [(0, .one (.ro (.ints .i64 l))), (6, .one (.ptr 106 0 0)), (7, .one (.rw 5007 0 acc.length)), (8, .one (.int .i64 ((i : Nat) : Int))), (9, .one (.rw 5009 0 ob.length)), (10, .one (.int .i64 (((i + 1 + q) : Nat) : Int))), (26, .one (.int .i64 ((l.length : Nat) : Int))), (27, .one (.int .i64 ((i : Nat) : Int))), (35, .one (.bool (decide ((((i + 1 + q) : Nat) : Int) < ((l.length : Nat) : Int)))))], [(106, .box 1 1 [(.rw 124 0 l.length)]), (124, .flat (.ints .i64 X)), (5007, .flat (.arcs acc)), (5009, .flat (.ints .i64 ob))]⟩ hT (by kernel_rfl) trivial ?_
        refine awp_cond (b := (decide ((((i + 1 + q) : Nat) : Int) < ((l.length : Nat) : Int)))) (by kernel_rfl) (fun c13 => ?_) (fun c13 => ?_)
        · -- yes 13
          try simp only [bs] at c13
          have hsn := others_snoc (i := i) (q := q) (n := l.length) (by omega)
          refine awp_skip ?_
          refine awp_seq ?_
          refine awp_block ?_
          refine awp_run [0, 6, 7, 8, 9, 10, 26, 27] [106, 124, 5007, 5009] [(ob.length = ob.length), ((ob.length + 1) * 8 ≤ 140737488355328), ((ob.length + 1) ≤ 9223372036854775807)] ⟨71, [(0, .one (.ro (.ints .i64 l))), (6, .one (.ptr 106 0 0)), (7, .one (.rw 5007 0 acc.length)), (8, .one (.int .i64 ((i : Nat) : Int))), (9, .one (.rw 5009 0 (ob.length + 1))), (10, .one (.int .i64 (((i + 1 + q) : Nat) : Int))), (26, .one (.int .i64 ((l.length : Nat) : Int))), (27, .one (.int .i64 ((i : Nat) : Int)))], [(106, .box 1 1 [(.rw 124 0 l.length)]), (124, .flat (.ints .i64 X)), (5007, .flat (.arcs acc)), (5009, .flat (.ints .i64 (ob ++ [(((i + 1 + q) : Nat) : Int)])))]⟩ hT (by kernel_rfl) ⟨(by first | omega | (simp only [lens]; omega) | (simp only [lens]; done) | (simp; done)), (by first | omega | (simp only [lens]; omega) | (simp only [lens]; done) | (simp; done)), (by first | omega | (simp only [lens]; omega) | (simp only [lens]; done) | (simp; done)), trivial⟩ ?_
          refine awp_run [0, 6, 7, 8, 9, 10, 26, 27] [106, 124, 5007, 5009] [(-9223372036854775808 ≤ ((((i + 1 + q) + 1) : Nat) : Int) ∧ ((((i + 1 + q) + 1) : Nat) : Int) ≤ 9223372036854775807)] ⟨71, [(0, .one (.ro (.ints .i64 l))), (6, .one (.ptr 106 0 0)), (7, .one (.rw 5007 0 acc.length)), (8, .one (.int .i64 ((i : Nat) : Int))), (9, .one (.rw 5009 0 (ob.length + 1))), (10, .one (.int .i64 ((((i + 1 + q) + 1) : Nat) : Int))), (26, .one (.int .i64 ((l.length : Nat) : Int))), (27, .one (.int .i64 ((i : Nat) : Int)))], [(106, .box 1 1 [(.rw 124 0 l.length)]), (124, .flat (.ints .i64 X)), (5007, .flat (.arcs acc)), (5009, .flat (.ints .i64 (ob ++ [(((i + 1 + q) : Nat) : Int)])))]⟩ hT (by kernel_rfl) ⟨(by first | omega | (simp only [lens]; omega) | (simp only [lens]; done) | (simp; done)), trivial⟩ ?_
          refine loop_end _ ?_ ⟨(q + 1), (ob ++ [(((i + 1 + q) : Nat) : Int)]), ⟨(by omega), (by rw [hsn, hob]), rfl⟩, (by simp only [lens]; rfl)⟩
          omega
        · -- no 13
          try simp only [bs] at c13
          have hobf : ob = (othersOf i l.length) := by rw [hob, List.take_of_length_le (by omega)]
          refine awp_exit ?_
          rw [show ob = (othersOf i l.length) from hobf]
          refine awp_seq (awp_region ?_)
          refine aops_run 2 [0, 6, 7, 8, 9, 26, 27, 42, 43] [106, 124, 5007, 5009] [] ⟨71, [(0, .one (.ro (.ints .i64 l))), (6, .one (.ptr 106 0 0)), (7, .one (.rw 5007 0 acc.length)), (8, .one (.int .i64 ((i : Nat) : Int))), (9, .one (.rw 5009 0 ((othersOf i l.length).length))), (26, .one (.int .i64 ((l.length : Nat) : Int))), (27, .one (.int .i64 ((i : Nat) : Int))), (42, .one (.rw 5009 0 ((othersOf i l.length).length))), (43, .one (.fn 132 [(.ptr 106 0 0)]))], [(106, .box 1 1 [(.rw 124 0 l.length)]), (124, .flat (.ints .i64 X)), (5007, .flat (.arcs acc)), (5009, .flat (.ints .i64 (othersOf i l.length)))]⟩ hT (by kernel_rfl) (by kernel_rfl) trivial ?_
          refine aops_call [(1, 106), (2, 5009), (3, 124)] [] false ⟨true, [], 131, [.one (.rw 2 0 ((othersOf i l.length).length)), .one (.fn 132 [(.ptr 1 0 0)])], [(1, .box 1 1 [(.rw 3 0 l.length)]), (2, .flat (.ints .i64 (othersOf i l.length))), (3, .flat (.ints .i64 X))]⟩ [.one (.rw 2 0 ((othersOf i l.length).length)), .one (.fn 132 [(.ptr 1 0 0)])] (sm := ⟨71, [(0, .one (.ro (.ints .i64 l))), (6, .one (.ptr 106 0 0)), (7, .one (.rw 5007 0 acc.length)), (8, .one (.int .i64 ((i : Nat) : Int))), (9, .one (.rw 5009 0 ((othersOf i l.length).length))), (26, .one (.int .i64 ((l.length : Nat) : Int))), (27, .one (.int .i64 ((i : Nat) : Int))), (42, .one (.rw 5009 0 ((othersOf i l.length).length))), (43, .one (.fn 132 [(.ptr 106 0 0)])), (44, .whn false (.one .any))], [(106, .box 1 1 [(.rw 124 0 l.length)]), (124, .flat (.ints .i64 X)), (5007, .flat (.arcs acc)), (5009, .flat (.ints .i64 (othersOf i l.length)))]⟩) (by kernel_rfl) (by kernel_rfl) (by decide) (fun _ => trivial) rfl (fun _ => sort_others l.length i X (by omega) (by omega)) (fun _ v Hr hv => ?_) (fun h => by cases h)
          obtain ⟨rfl, rfl⟩ := hv
          refine ⟨⟨71, [(0, .one (.ro (.ints .i64 l))), (6, .one (.ptr 106 0 0)), (7, .one (.rw 5007 0 acc.length)), (8, .one (.int .i64 ((i : Nat) : Int))), (9, .one (.rw 5009 0 ((othersOf i l.length).length))), (26, .one (.int .i64 ((l.length : Nat) : Int))), (27, .one (.int .i64 ((i : Nat) : Int))), (42, .one (.rw 5009 0 ((othersOf i l.length).length))), (43, .one (.fn 132 [(.ptr 106 0 0)])), (44, .tup [])], [(106, .box 1 1 [(.rw 124 0 l.length)]), (124, .flat (.ints .i64 X)), (5007, .flat (.arcs acc)), (5009, .flat (.ints .i64 (ordD X i)))]⟩, by kernel_rfl, ?_⟩
          refine aops_cut [0, 6, 7, 8, 9, 26, 27] [106, 124, 5007, 5009] ⟨71, [(0, .one (.ro (.ints .i64 l))), (6, .one (.ptr 106 0 0)), (7, .one (.rw 5007 0 acc.length)), (8, .one (.int .i64 ((i : Nat) : Int))), (9, .one (.rw 5009 0 ((othersOf i l.length).length))), (26, .one (.int .i64 ((l.length : Nat) : Int))), (27, .one (.int .i64 ((i : Nat) : Int)))], [(106, .box 1 1 [(.rw 124 0 l.length)]), (124, .flat (.ints .i64 X)), (5007, .flat (.arcs acc)), (5009, .flat (.ints .i64 (ordD X i)))]⟩ (by kernel_rfl) ?_
          refine aops_end_seq (by kernel_rfl) ?_
          refine awp_run_seq [0, 6, 7, 8, 26, 27, 50, 51, 52] [106, 124, 5007, 5009] [(0 < 1), ((0 : Int) ≤ ((i : Nat) : Int)), (((i : Nat) : Int) < ((l.length : Nat) : Int)), (i < X.length), ((0 : Int) ≤ 0), ((0 : Int) ≤ (List.getD X i 0)), ((List.getD X i 0) ≤ (((othersOf i l.length).length : Nat) : Int))] ⟨71, [(0, .one (.ro (.ints .i64 l))), (6, .one (.ptr 106 0 0)), (7, .one (.rw 5007 0 acc.length)), (8, .one (.int .i64 ((i : Nat) : Int))), (26, .one (.int .i64 ((l.length : Nat) : Int))), (27, .one (.int .i64 ((i : Nat) : Int))), (50, .one (.rw 5009 0 (Int.toNat (List.getD X i 0)))), (51, .one (.int .i64 (((Int.toNat (List.getD X i 0)) : Nat) : Int))), (52, .one (.int .i64 0))], [(106, .box 1 1 [(.rw 124 0 l.length)]), (124, .flat (.ints .i64 X)), (5007, .flat (.arcs acc)), (5009, .flat (.ints .i64 (ordD X i)))]⟩ hT (by kernel_rfl) ⟨(by decide), (by first | omega | (simp only [lens]; omega) | (simp only [lens]; done) | (simp; done)), (by first | omega | (simp only [lens]; omega) | (simp only [lens]; done) | (simp; done)), (by first | omega | (simp only [lens]; omega) | (simp only [lens]; done) | (simp; done)), (by first | omega | (simp only [lens]; omega) | (simp only [lens]; done) | (simp; done)), (by first | omega | (simp only [lens]; omega) | (simp only [lens]; done) | (simp; done)), (by first | omega | (simp only [lens]; omega) | (simp only [lens]; done) | (simp; done)), trivial⟩ ?_
          refine awp_block ?_
          refine awp_loop (I := fun κ σ => ∃ (j : Nat) (Y : List Int) (a2 : List Arc), ((j ≤ (Int.toNat (List.getD X i 0))) ∧ (TakenD X Y i j) ∧ (a2 = acc ++ arcsD i ((ordD X i).take j)) ∧ (Int.toNat (List.getD X i 0)) - j = κ) ∧ σ = ⟨71, [(0, .one (.ro (.ints .i64 l))), (6, .one (.ptr 106 0 0)), (7, .one (.rw 5007 0 a2.length)), (8, .one (.int .i64 ((i : Nat) : Int))), (26, .one (.int .i64 ((l.length : Nat) : Int))), (27, .one (.int .i64 ((i : Nat) : Int))), (50, .one (.rw 5009 0 (Int.toNat (List.getD X i 0)))), (51, .one (.int .i64 (((Int.toNat (List.getD X i 0)) : Nat) : Int))), (52, .one (.int .i64 ((j : Nat) : Int)))], [(106, .box 1 1 [(.rw 124 0 l.length)]), (124, .flat (.ints .i64 Y)), (5007, .flat (.arcs a2)), (5009, .flat (.ints .i64 (ordD X i)))]⟩) _ ⟨0, X, acc, ⟨(by omega), (by exact TakenD.start X i), (by simp [arcsD]), rfl⟩, (by kernel_rfl)⟩ ?_
          rintro κ _ ⟨j, Y, a2, ⟨hj, hTk, hac, rfl⟩, rfl⟩
          have hYl := hTk.len
          have hacl := congrArg List.length hac
          rw [List.length_append, arcsD_len, List.length_take] at hacl
          refine awp_run_seq [0, 6, 7, 8, 26, 27, 50, 51, 52, 53] [106, 124, 5007, 5009] [] ⟨71, [(0, .one (.ro (.ints .i64 l))), (6, .one (.ptr 106 0 0)), (7, .one (.rw 5007 0 a2.length)), (8, .one (.int .i64 ((i : Nat) : Int))), (26, .one (.int .i64 ((l.length : Nat) : Int))), (27, .one (.int .i64 ((i : Nat) : Int))), (50, .one (.rw 5009 0 (Int.toNat (List.getD X i 0)))), (51, .one (.int .i64 (((Int.toNat (List.getD X i 0)) : Nat) : Int))), (52, .one (.int .i64 ((j : Nat) : Int))), (53, .one (.bool (decide (((j : Nat) : Int) < (((Int.toNat (List.getD X i 0)) : Nat) : Int)))))], [(106, .box 1 1 [(.rw 124 0 l.length)]), (124, .flat (.ints .i64 Y)), (5007, .flat (.arcs a2)), (5009, .flat (.ints .i64 (ordD X i)))]⟩ hT (by kernel_rfl) trivial ?_
          refine awp_seq ?_
          refine awp_cond (b := (decide (((j : Nat) : Int) < (((Int.toNat (List.getD X i 0)) : Nat) : Int)))) (by kernel_rfl) (fun c18 => ?_) (fun c18 => ?_)
          · -- yes 18
            try simp only [bs] at c18
            have hjl : j < (ordD X i).length := by omega
            have hoj := ordD_at hjl
            have htn := hTk.now hjl
            have hts := hTk.step hjl
            have hxo := hX.in_ (Int.toNat (List.getD (ordD X i) j 0)) (by omega)
            have htk := take_snoc hjl
            refine awp_skip ?_
            refine awp_seq ?_
            refine awp_block ?_
            refine awp_run_seq [0, 6, 7, 8, 12, 26, 27, 50, 51, 52] [106, 124, 5007, 5009] [((0 : Int) ≤ ((j : Nat) : Int)), (((j : Nat) : Int) < (((Int.toNat (List.getD X i 0)) : Nat) : Int)), (j < (List.length (ordD X i)))] ⟨71, [(0, .one (.ro (.ints .i64 l))), (6, .one (.ptr 106 0 0)), (7, .one (.rw 5007 0 a2.length)), (8, .one (.int .i64 ((i : Nat) : Int))), (12, .one (.int .i64 (List.getD (ordD X i) j 0))), (26, .one (.int .i64 ((l.length : Nat) : Int))), (27, .one (.int .i64 ((i : Nat) : Int))), (50, .one (.rw 5009 0 (Int.toNat (List.getD X i 0)))), (51, .one (.int .i64 (((Int.toNat (List.getD X i 0)) : Nat) : Int))), (52, .one (.int .i64 ((j : Nat) : Int)))], [(106, .box 1 1 [(.rw 124 0 l.length)]), (124, .flat (.ints .i64 Y)), (5007, .flat (.arcs a2)), (5009, .flat (.ints .i64 (ordD X i)))]⟩ hT (by kernel_rfl) ⟨(by first | omega | (simp only [lens]; omega) | (simp only [lens]; done) | (simp; done)), (by first | omega | (simp only [lens]; omega) | (simp only [lens]; done) | (simp; done)), (by first | omega | (simp only [lens]; omega) | (simp only [lens]; done) | (simp; done)), trivial⟩ ?_
            refine awp_run_seq [0, 6, 7, 8, 12, 26, 27, 50, 51, 52] [106, 124, 5007, 5009] [(a2.length = a2.length), ((a2.length + 1) * 24 ≤ 140737488355328), ((a2.length + 1) ≤ 9223372036854775807)] ⟨71, [(0, .one (.ro (.ints .i64 l))), (6, .one (.ptr 106 0 0)), (7, .one (.rw 5007 0 (a2.length + 1))), (8, .one (.int .i64 ((i : Nat) : Int))), (12, .one (.int .i64 (List.getD (ordD X i) j 0))), (26, .one (.int .i64 ((l.length : Nat) : Int))), (27, .one (.int .i64 ((i : Nat) : Int))), (50, .one (.rw 5009 0 (Int.toNat (List.getD X i 0)))), (51, .one (.int .i64 (((Int.toNat (List.getD X i 0)) : Nat) : Int))), (52, .one (.int .i64 ((j : Nat) : Int)))], [(106, .box 1 1 [(.rw 124 0 l.length)]), (124, .flat (.ints .i64 Y)), (5007, .flat (.arcs (a2 ++ [⟨((i : Nat) : Int), (List.getD (ordD X i) j 0), 0⟩]))), (5009, .flat (.ints .i64 (ordD X i)))]⟩ hT (by kernel_rfl) ⟨(by first | omega | (simp only [lens]; omega) | (simp only [lens]; done) | (simp; done)), (by first | omega | (simp only [lens]; omega) | (simp only [lens]; done) | (simp; done)), (by first | omega | (simp only [lens]; omega) | (simp only [lens]; done) | (simp; done)), trivial⟩ ?_
            refine awp_run [0, 6, 7, 8, 26, 27, 50, 51, 52] [106, 124, 5007, 5009] [(0 < 1), ((0 : Int) ≤ (List.getD (ordD X i) j 0)), ((List.getD (ordD X i) j 0) < ((l.length : Nat) : Int)), ((Int.toNat (List.getD (ordD X i) j 0)) < Y.length), (-9223372036854775808 ≤ ((List.getD Y (Int.toNat (List.getD (ordD X i) j 0)) 0) - 1) ∧ ((List.getD Y (Int.toNat (List.getD (ordD X i) j 0)) 0) - 1) ≤ 9223372036854775807), ((0 : Int) ≤ (List.getD (ordD X i) j 0)), ((List.getD (ordD X i) j 0) < ((l.length : Nat) : Int)), ((Int.toNat (List.getD (ordD X i) j 0)) < Y.length)] ⟨71, [(0, .one (.ro (.ints .i64 l))), (6, .one (.ptr 106 0 0)), (7, .one (.rw 5007 0 (a2.length + 1))), (8, .one (.int .i64 ((i : Nat) : Int))), (26, .one (.int .i64 ((l.length : Nat) : Int))), (27, .one (.int .i64 ((i : Nat) : Int))), (50, .one (.rw 5009 0 (Int.toNat (List.getD X i 0)))), (51, .one (.int .i64 (((Int.toNat (List.getD X i 0)) : Nat) : Int))), (52, .one (.int .i64 ((j : Nat) : Int)))], [(106, .box 1 1 [(.rw 124 0 l.length)]), (124, .flat (.ints .i64 (List.set Y (Int.toNat (List.getD (ordD X i) j 0)) ((List.getD Y (Int.toNat (List.getD (ordD X i) j 0)) 0) - 1)))), (5007, .flat (.arcs (a2 ++ [⟨((i : Nat) : Int), (List.getD (ordD X i) j 0), 0⟩]))), (5009, .flat (.ints .i64 (ordD X i)))]⟩ hT (by kernel_rfl) ⟨(by decide), (by first | omega | (simp only [lens]; omega) | (simp only [lens]; done) | (simp; done)), (by first | omega | (simp only [lens]; omega) | (simp only [lens]; done) | (simp; done)), (by first | omega | (simp only [lens]; omega) | (simp only [lens]; done) | (simp; done)), (by first | omega | (simp only [lens]; omega) | (simp only [lens]; done) | (simp; done)), (by first | omega | (simp only [lens]; omega) | (simp only [lens]; done) | (simp; done)), (by first | omega | (simp only [lens]; omega) | (simp only [lens]; done) | (simp; done)), (by first | omega | (simp only [lens]; omega) | (simp only [lens]; done) | (simp; done)), trivial⟩ ?_
            refine awp_run [0, 6, 7, 8, 26, 27, 50, 51, 52] [106, 124, 5007, 5009] [(-9223372036854775808 ≤ (((j + 1) : Nat) : Int) ∧ (((j + 1) : Nat) : Int) ≤ 9223372036854775807)] ⟨71, [(0, .one (.ro (.ints .i64 l))), (6, .one (.ptr 106 0 0)), (7, .one (.rw 5007 0 (a2.length + 1))), (8, .one (.int .i64 ((i : Nat) : Int))), (26, .one (.int .i64 ((l.length : Nat) : Int))), (27, .one (.int .i64 ((i : Nat) : Int))), (50, .one (.rw 5009 0 (Int.toNat (List.getD X i 0)))), (51, .one (.int .i64 (((Int.toNat (List.getD X i 0)) : Nat) : Int))), (52, .one (.int .i64 (((j + 1) : Nat) : Int)))], [(106, .box 1 1 [(.rw 124 0 l.length)]), (124, .flat (.ints .i64 (List.set Y (Int.toNat (List.getD (ordD X i) j 0)) ((List.getD Y (Int.toNat (List.getD (ordD X i) j 0)) 0) - 1)))), (5007, .flat (.arcs (a2 ++ [⟨((i : Nat) : Int), (List.getD (ordD X i) j 0), 0⟩]))), (5009, .flat (.ints .i64 (ordD X i)))]⟩ hT (by kernel_rfl) ⟨(by first | omega | (simp only [lens]; omega) | (simp only [lens]; done) | (simp; done)), trivial⟩ ?_
            refine loop_end _ ?_ ⟨(j + 1), (List.set Y (Int.toNat (List.getD (ordD X i) j 0)) ((List.getD Y (Int.toNat (List.getD (ordD X i) j 0)) 0) - 1)), (a2 ++ [⟨((i : Nat) : Int), (List.getD (ordD X i) j 0), 0⟩]), ⟨(by omega), (by exact hts), (by rw [htk, arcsD_snoc, ← List.append_assoc, ← hac]), rfl⟩, (by first | (simp only [lens]; done) | (simp only [Nat.zero_add]; done) | simp only [lens, Nat.zero_add])⟩
            omega
          · -- no 18
            try simp only [bs] at c18
            have hYe := hTk.end_ (by omega)
            have hpk : List.take j (ordD X i) = pickD X i := by unfold pickD; congr 1; omega
            have hnx := hX.next hil hgd hl12 hYe
            rw [hpk] at hac
            rw [← hac] at hnx
            refine awp_exit ?_
            refine awp_run [0, 6, 7, 26, 27] [106, 124, 5007] [(-9223372036854775808 ≤ (((i + 1) : Nat) : Int) ∧ (((i + 1) : Nat) : Int) ≤ 9223372036854775807)] ⟨71, [(0, .one (.ro (.ints .i64 l))), (6, .one (.ptr 106 0 0)), (7, .one (.rw 5007 0 a2.length)), (26, .one (.int .i64 ((l.length : Nat) : Int))), (27, .one (.int .i64 (((i + 1) : Nat) : Int)))], [(106, .box 1 1 [(.rw 124 0 l.length)]), (124, .flat (.ints .i64 Y)), (5007, .flat (.arcs a2))]⟩ hT (by kernel_rfl) ⟨(by first | omega | (simp only [lens]; omega) | (simp only [lens]; done) | (simp; done)), trivial⟩ ?_
            refine loop_end _ ?_ ⟨(i + 1), Y, a2, ⟨(by omega), (by exact hnx), rfl⟩, (by kernel_rfl)⟩
            omega
      · -- no 9
        try simp only [bs] at c9
        have hgo := hX.go
        rw [show l.length - i = 0 by omega] at hgo
        have hfin : standL l = acc := by unfold standL; rw [← hgo]; rfl
        refine awp_exit ?_
        refine awp_run_seq [2, 3] [5007] [] ⟨71, [(2, .one (.rw 5007 0 acc.length)), (3, .one (.int .i64 0))], [(5007, .flat (.arcs acc))]⟩ hT (by kernel_rfl) trivial ?_
        refine awp_weak (awk_seal 5007 (s' := ⟨71, [(2, .one (.ro (.arcs (List.take acc.length acc)))), (3, .one (.int .i64 0))], []⟩) (by kernel_rfl)) ?_
        rw [show (List.take acc.length acc) = acc from List.take_of_length_le (by first | omega | simp)]
        refine awp_ret ?_
        refine kRet.ret _ [] [] (.tup [(false, [(.ro (.arcs acc))]), (false, [(.int .i64 0)])]) [] (by kernel_rfl) trivial ?_
        exact ⟨by first | rw [show (okL (makeErrD l) (standL l)) = acc from Eq.symm (by first | exact hM.symm | (rw [okL_ok _ hM]; exact hfin.symm)), show (makeErrD l) = 0 from Eq.symm (by first | exact hM.symm | (rw [okL_ok _ hM]; exact hfin.symm))] | rw [show (okL (makeErrD l) (standL l)) = acc from Eq.symm (by first | exact hM.symm | (rw [okL_ok _ hM]; exact hfin.symm))] | rw [show (makeErrD l) = 0 from Eq.symm (by first | exact hM.symm | (rw [okL_ok _ hM]; exact hfin.symm))], rfl⟩

end Go.Ab
