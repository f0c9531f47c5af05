/- DegreeSays returns true. -/
import Derived.Test.YtglkldhjffnhhaaTab
import Derived.Test.YtglkldhjffnhhaaDeg3d
import Derived.Test.YtglkldhjffnhhaaDeg4d
import Derived.Test.YtglkldhjffnhhaaG2d
set_option maxRecDepth 100000
namespace Go.Ab
open Go Go.Proofs
theorem degreeSays_law (l : List Int) : ACall Try.prog 12 [.one (.ro (.ints .i64 l))] [] (fun ov oh => ov = .one (.bool true) ∧ oh = []) := by
  refine acall_intro hT Try.func12 rfl (by kernel_rfl) rfl (by kernel_rfl) ?_
  refine awp_run_seq [0] [] [] ⟨73, [(0, .one (.ro (.ints .i64 l)))], []⟩ hT (by kernel_rfl) trivial ?_
  refine awp_seq (awp_region ?_)
  refine aops_run 1 [0, 11] [] [] ⟨73, [(0, .one (.ro (.ints .i64 l))), (11, .one (.ro (.ints .i64 l)))], []⟩ hT (by kernel_rfl) (by kernel_rfl) trivial ?_
  refine aops_pure false ⟨true, [], 68, [.one (.ro (.ints .i64 l))], []⟩ [.one (.ro (.ints .i64 l))] (.tup [(false, [(.bool (canB l))]), (false, [(.int .i64 (degErr l))])]) ⟨73, [(0, .one (.ro (.ints .i64 l))), (11, .one (.ro (.ints .i64 l))), (12, .tup [(false, [(.bool (canB l))]), (false, [(.int .i64 (degErr l))])])], []⟩ (by kernel_rfl) (by kernel_rfl) (fun _ => trivial) rfl (fun _ => degree_can l) ?_
  refine aops_run 5 [0, 3, 4] [] [] ⟨73, [(0, .one (.ro (.ints .i64 l))), (3, .one (.bool (canB l))), (4, .one (.int .i64 (degErr l)))], []⟩ hT (by kernel_rfl) (by kernel_rfl) trivial ?_
  refine aops_end_seq (by kernel_rfl) ?_
  refine awp_seq (awp_region ?_)
  refine aops_run 1 [0, 3, 4, 16] [] [] ⟨73, [(0, .one (.ro (.ints .i64 l))), (3, .one (.bool (canB l))), (4, .one (.int .i64 (degErr l))), (16, .one (.ro (.ints .i64 l)))], []⟩ hT (by kernel_rfl) (by kernel_rfl) trivial ?_
  refine aops_pure false ⟨true, [], 69, [.one (.ro (.ints .i64 l))], []⟩ [.one (.ro (.ints .i64 l))] (.tup [(false, [(.ro (.arcs (okL (makeErrD l) (standL l))))]), (false, [(.int .i64 (makeErrD l))])]) ⟨73, [(0, .one (.ro (.ints .i64 l))), (3, .one (.bool (canB l))), (4, .one (.int .i64 (degErr l))), (16, .one (.ro (.ints .i64 l))), (17, .tup [(false, [(.ro (.arcs (okL (makeErrD l) (standL l))))]), (false, [(.int .i64 (makeErrD l))])])], []⟩ (by kernel_rfl) (by kernel_rfl) (fun _ => trivial) rfl (fun _ => degree_make l) ?_
  refine aops_run 5 [0, 3, 4, 5, 6] [] [] ⟨73, [(0, .one (.ro (.ints .i64 l))), (3, .one (.bool (canB l))), (4, .one (.int .i64 (degErr l))), (5, .one (.ro (.arcs (okL (makeErrD l) (standL l))))), (6, .one (.int .i64 (makeErrD l)))], []⟩ hT (by kernel_rfl) (by kernel_rfl) trivial ?_
  refine aops_end_seq (by kernel_rfl) ?_
  refine awp_seq (awp_region ?_)
  refine aops_run 1 [0, 3, 4, 5, 6, 20] [] [] ⟨73, [(0, .one (.ro (.ints .i64 l))), (3, .one (.bool (canB l))), (4, .one (.int .i64 (degErr l))), (5, .one (.ro (.arcs (okL (makeErrD l) (standL l))))), (6, .one (.int .i64 (makeErrD l))), (20, .one (.ro (.ints .i64 l)))], []⟩ hT (by kernel_rfl) (by kernel_rfl) trivial ?_
  refine aops_pure false ⟨true, [], 70, [.one (.ro (.ints .i64 l))], []⟩ [.one (.ro (.ints .i64 l))] (.one (.int .i64 (degErr l))) ⟨73, [(0, .one (.ro (.ints .i64 l))), (3, .one (.bool (canB l))), (4, .one (.int .i64 (degErr l))), (5, .one (.ro (.arcs (okL (makeErrD l) (standL l))))), (6, .one (.int .i64 (makeErrD l))), (20, .one (.ro (.ints .i64 l))), (21, .one (.int .i64 (degErr l)))], []⟩ (by kernel_rfl) (by kernel_rfl) (fun _ => trivial) rfl (fun _ => ref_degErr l) ?_
  refine aops_run 1 [0, 3, 4, 5, 6, 7] [] [] ⟨73, [(0, .one (.ro (.ints .i64 l))), (3, .one (.bool (canB l))), (4, .one (.int .i64 (degErr l))), (5, .one (.ro (.arcs (okL (makeErrD l) (standL l))))), (6, .one (.int .i64 (makeErrD l))), (7, .one (.int .i64 (degErr l)))], []⟩ hT (by kernel_rfl) (by kernel_rfl) trivial ?_
  refine aops_end_seq (by kernel_rfl) ?_
  refine awp_seq ?_
  refine awp_seq (awp_region ?_)
  refine aops_run 1 [0, 3, 4, 5, 6, 7, 22] [] [] ⟨73, [(0, .one (.ro (.ints .i64 l))), (3, .one (.bool (canB l))), (4, .one (.int .i64 (degErr l))), (5, .one (.ro (.arcs (okL (makeErrD l) (standL l))))), (6, .one (.int .i64 (makeErrD l))), (7, .one (.int .i64 (degErr l))), (22, .one (.ro (.ints .i64 l)))], []⟩ hT (by kernel_rfl) (by kernel_rfl) trivial ?_
  refine aops_pure false ⟨true, [], 71, [.one (.ro (.ints .i64 l))], []⟩ [.one (.ro (.ints .i64 l))] (.one (.int .i64 (degErr l))) ⟨73, [(0, .one (.ro (.ints .i64 l))), (3, .one (.bool (canB l))), (4, .one (.int .i64 (degErr l))), (5, .one (.ro (.arcs (okL (makeErrD l) (standL l))))), (6, .one (.int .i64 (makeErrD l))), (7, .one (.int .i64 (degErr l))), (22, .one (.ro (.ints .i64 l))), (23, .one (.int .i64 (degErr l)))], []⟩ (by kernel_rfl) (by kernel_rfl) (fun _ => trivial) rfl (fun _ => degree_check l) ?_
  refine aops_run 2 [0, 3, 4, 5, 6, 7, 25] [] [] ⟨73, [(0, .one (.ro (.ints .i64 l))), (3, .one (.bool (canB l))), (4, .one (.int .i64 (degErr l))), (5, .one (.ro (.arcs (okL (makeErrD l) (standL l))))), (6, .one (.int .i64 (makeErrD l))), (7, .one (.int .i64 (degErr l))), (25, .one (.bool (decide ((degErr l) ≠ (degErr l)))))], []⟩ hT (by kernel_rfl) (by kernel_rfl) trivial ?_
  refine aops_end_seq (by kernel_rfl) ?_
  refine awp_cond (b := (decide ((degErr l) ≠ (degErr l)))) (by kernel_rfl) (fun c4 => ?_) (fun c4 => ?_)
  · -- yes 4
    try simp only [bs] at c4
    exfalso; omega
  · -- no 4
    try simp only [bs] at c4
    refine awp_skip ?_
    refine awp_seq ?_
    refine awp_run_seq [0, 3, 4, 5, 6, 7, 27] [] [] ⟨73, [(0, .one (.ro (.ints .i64 l))), (3, .one (.bool (canB l))), (4, .one (.int .i64 (degErr l))), (5, .one (.ro (.arcs (okL (makeErrD l) (standL l))))), (6, .one (.int .i64 (makeErrD l))), (7, .one (.int .i64 (degErr l))), (27, .one (.bool (decide ((degErr l) ≠ 0))))], []⟩ hT (by kernel_rfl) trivial ?_
    refine awp_cond (b := (decide ((degErr l) ≠ 0))) (by kernel_rfl) (fun c6 => ?_) (fun c6 => ?_)
    · -- yes 6
      try simp only [bs] at c6
      have hM := makeD_bad (l := l) (by omega)
      have hC := canB_bad (l := l) (by omega)
      have hl0 : (okL (makeErrD l) (standL l)).length = 0 := by rw [okL_no _ (by omega)]; rfl
      refine awp_run_seq [2] [] [((decide ((degErr l) = (degErr l))) = true → ((decide ((degErr l) = (degErr l))) = true → (decide ((degErr l) = (degErr l))) = true)), ((decide ((degErr l) = (degErr l))) = true → ((decide ((degErr l) = (degErr l))) = true → (decide ((degErr l) = (degErr l))) = true)), ((decide ((degErr l) = (degErr l))) = true → (decide ((degErr l) = (degErr l))) = true), (((decide ((degErr l) = (degErr l))) && (decide ((makeErrD l) = (degErr l)))) = true → (((decide ((degErr l) = (degErr l))) && (decide ((makeErrD l) = (degErr l)))) = true → ((decide ((degErr l) = (degErr l))) && (decide ((makeErrD l) = (degErr l)))) = true)), (((decide ((degErr l) = (degErr l))) && (decide ((makeErrD l) = (degErr l)))) = true → ((decide ((degErr l) = (degErr l))) && (decide ((makeErrD l) = (degErr l)))) = true), ((((decide ((degErr l) = (degErr l))) && (decide ((makeErrD l) = (degErr l)))) && (!(canB l))) = true → ((((decide ((degErr l) = (degErr l))) && (decide ((makeErrD l) = (degErr l)))) && (!(canB l))) = true → (((decide ((degErr l) = (degErr l))) && (decide ((makeErrD l) = (degErr l)))) && (!(canB l))) = true)), ((((decide ((degErr l) = (degErr l))) && (decide ((makeErrD l) = (degErr l)))) && (!(canB l))) = true → ((((decide ((degErr l) = (degErr l))) && (decide ((makeErrD l) = (degErr l)))) && (!(canB l))) = true → (((decide ((degErr l) = (degErr l))) && (decide ((makeErrD l) = (degErr l)))) && (!(canB l))) = true)), ((((decide ((degErr l) = (degErr l))) && (decide ((makeErrD l) = (degErr l)))) && (!(canB l))) = true → (((decide ((degErr l) = (degErr l))) && (decide ((makeErrD l) = (degErr l)))) && (!(canB l))) = true)] ⟨73, [(2, .one (.bool ((((decide ((degErr l) = (degErr l))) && (decide ((makeErrD l) = (degErr l)))) && (!(canB l))) && (decide ((((List.length (okL (makeErrD l) (standL l))) : Nat) : Int) = 0)))))], []⟩ hT (by kernel_rfl) ⟨(by intro hg; first | exact hg | skip; (try simp only [bs] at hg ⊢); first | exact hg | first | omega | (simp only [lens]; omega) | (simp only [Bool.cond_decide]; omega) | (simp only [nadd_eq]; omega) | grind), (by intro hg; first | exact hg | skip; (try simp only [bs] at hg ⊢); first | exact hg | first | omega | (simp only [lens]; omega) | (simp only [Bool.cond_decide]; omega) | (simp only [nadd_eq]; omega) | grind), (fun h => h), (by intro hg; first | exact hg | skip; (try simp only [bs] at hg ⊢); first | exact hg | first | omega | (simp only [lens]; omega) | (simp only [Bool.cond_decide]; omega) | (simp only [nadd_eq]; omega) | grind), (fun h => h), (by intro hg; first | exact hg | skip; (try simp only [bs] at hg ⊢); first | exact hg | first | omega | (simp only [lens]; omega) | (simp only [Bool.cond_decide]; omega) | (simp only [nadd_eq]; omega) | grind), (by intro hg; first | exact hg | skip; (try simp only [bs] at hg ⊢); first | exact hg | first | omega | (simp only [lens]; omega) | (simp only [Bool.cond_decide]; omega) | (simp only [nadd_eq]; omega) | grind), (fun h => h), trivial⟩ ?_
      refine awp_ret ?_
      refine kRet.ret _ [] [] (.one (.bool ((((decide ((degErr l) = (degErr l))) && (decide ((makeErrD l) = (degErr l)))) && (!(canB l))) && (decide ((((List.length (okL (makeErrD l) (standL l))) : Nat) : Int) = 0))))) [] (by kernel_rfl) trivial ?_
      exact ⟨congrArg (fun x1 => (.one (.bool x1) : AV)) (show ((((decide ((degErr l) = (degErr l))) && (decide ((makeErrD l) = (degErr l)))) && (!(canB l))) && (decide ((((List.length (okL (makeErrD l) (standL l))) : Nat) : Int) = 0))) = true from by rw [hl0]; simp [hM, hC]), rfl⟩
    · -- no 6
      try simp only [bs] at c6
      have hE : (degErr l) = 0 := by omega
      refine awp_skip ?_
      refine awp_seq (awp_region ?_)
      refine aops_run 1 [3, 4, 5, 6, 46] [] [] ⟨73, [(3, .one (.bool (canB l))), (4, .one (.int .i64 (degErr l))), (5, .one (.ro (.arcs (okL (makeErrD l) (standL l))))), (6, .one (.int .i64 (makeErrD l))), (46, .one (.ro (.ints .i64 l)))], []⟩ hT (by kernel_rfl) (by kernel_rfl) trivial ?_
      refine aops_call [] [] false ⟨true, [], 72, [.one (.ro (.ints .i64 l))], []⟩ [.one (.ro (.ints .i64 l))] (sm := ⟨73, [(3, .one (.bool (canB l))), (4, .one (.int .i64 (degErr l))), (5, .one (.ro (.arcs (okL (makeErrD l) (standL l))))), (6, .one (.int .i64 (makeErrD l))), (46, .one (.ro (.ints .i64 l))), (47, .whn false (.one .any))], []⟩) (by kernel_rfl) (by kernel_rfl) (by decide) (fun _ => trivial) rfl (fun _ => ref_stand l (by omega)) (fun _ v Hr hv => ?_) (fun h => by cases h)
      obtain ⟨w, hw, rfl, rfl⟩ := hv
      refine ⟨⟨73, [(3, .one (.bool (canB l))), (4, .one (.int .i64 (degErr l))), (5, .one (.ro (.arcs (okL (makeErrD l) (standL l))))), (6, .one (.int .i64 (makeErrD l))), (46, .one (.ro (.ints .i64 l))), (47, .tup [(false, [(.ro (.arcs w))]), (false, [(.bool (Option.isSome (standRes l)))])])], []⟩, by kernel_rfl, ?_⟩
      refine aops_run 5 [3, 4, 5, 6, 8, 9] [] [] ⟨73, [(3, .one (.bool (canB l))), (4, .one (.int .i64 (degErr l))), (5, .one (.ro (.arcs (okL (makeErrD l) (standL l))))), (6, .one (.int .i64 (makeErrD l))), (8, .one (.ro (.arcs w))), (9, .one (.bool (Option.isSome (standRes l))))], []⟩ hT (by kernel_rfl) (by kernel_rfl) trivial ?_
      refine aops_end_seq (by kernel_rfl) ?_
      have hcs : canB l = (standRes l).isSome := by unfold canB; rw [decide_eq_true hE]; rfl
      refine awp_seq ?_
      refine awp_run_seq [5, 6, 8, 9, 56] [] [((!(decide ((degErr l) ≠ 0))) = true → ((!(decide ((degErr l) ≠ 0))) = true → (!(decide ((degErr l) ≠ 0))) = true)), ((!(decide ((degErr l) ≠ 0))) = true → ((!(decide ((degErr l) ≠ 0))) = true → (!(decide ((degErr l) ≠ 0))) = true)), ((!(decide ((degErr l) ≠ 0))) = true → (!(decide ((degErr l) ≠ 0))) = true)] ⟨73, [(5, .one (.ro (.arcs (okL (makeErrD l) (standL l))))), (6, .one (.int .i64 (makeErrD l))), (8, .one (.ro (.arcs w))), (9, .one (.bool (Option.isSome (standRes l)))), (56, .one (.bool ((decide ((degErr l) ≠ 0)) || (!((canB l) == (Option.isSome (standRes l)))))))], []⟩ hT (by kernel_rfl) ⟨(by intro hg; first | exact hg | skip; (try simp only [bs] at hg ⊢); first | exact hg | first | omega | (simp only [lens]; omega) | (simp only [Bool.cond_decide]; omega) | (simp only [nadd_eq]; omega) | grind), (by intro hg; first | exact hg | skip; (try simp only [bs] at hg ⊢); first | exact hg | first | omega | (simp only [lens]; omega) | (simp only [Bool.cond_decide]; omega) | (simp only [nadd_eq]; omega) | grind), (fun h => h), trivial⟩ ?_
      refine awp_cond (b := ((decide ((degErr l) ≠ 0)) || (!((canB l) == (Option.isSome (standRes l)))))) (by kernel_rfl) (fun c9 => ?_) (fun c9 => ?_)
      · -- yes 9
        try simp only [bs] at c9
        exfalso; rcases c9 with q | q; omega; rw [hcs] at q; simp at q
      · -- no 9
        try simp only [bs] at c9
        refine awp_skip ?_
        refine awp_seq ?_
        refine awp_run_seq [5, 6, 8, 58] [] [] ⟨73, [(5, .one (.ro (.arcs (okL (makeErrD l) (standL l))))), (6, .one (.int .i64 (makeErrD l))), (8, .one (.ro (.arcs w))), (58, .one (.bool (!(Option.isSome (standRes l)))))], []⟩ hT (by kernel_rfl) trivial ?_
        refine awp_cond (b := (!(Option.isSome (standRes l)))) (by kernel_rfl) (fun c11 => ?_) (fun c11 => ?_)
        · -- yes 11
          try simp only [bs] at c11
          have hM := makeD_none hE (by rw [hcs]; exact c11)
          have hl0 : (okL (makeErrD l) (standL l)).length = 0 := by rw [okL_no _ (by omega)]; rfl
          refine awp_run_seq [2] [] [((decide ((makeErrD l) = 5)) = true → ((decide ((makeErrD l) = 5)) = true → (decide ((makeErrD l) = 5)) = true)), ((decide ((makeErrD l) = 5)) = true → ((decide ((makeErrD l) = 5)) = true → (decide ((makeErrD l) = 5)) = true)), ((decide ((makeErrD l) = 5)) = true → (decide ((makeErrD l) = 5)) = true)] ⟨73, [(2, .one (.bool ((decide ((makeErrD l) = 5)) && (decide ((((List.length (okL (makeErrD l) (standL l))) : Nat) : Int) = 0)))))], []⟩ hT (by kernel_rfl) ⟨(by intro hg; first | exact hg | skip; (try simp only [bs] at hg ⊢); first | exact hg | first | omega | (simp only [lens]; omega) | (simp only [Bool.cond_decide]; omega) | (simp only [nadd_eq]; omega) | grind), (by intro hg; first | exact hg | skip; (try simp only [bs] at hg ⊢); first | exact hg | first | omega | (simp only [lens]; omega) | (simp only [Bool.cond_decide]; omega) | (simp only [nadd_eq]; omega) | grind), (fun h => h), trivial⟩ ?_
          refine awp_ret ?_
          refine kRet.ret _ [] [] (.one (.bool ((decide ((makeErrD l) = 5)) && (decide ((((List.length (okL (makeErrD l) (standL l))) : Nat) : Int) = 0))))) [] (by kernel_rfl) trivial ?_
          exact ⟨congrArg (fun x1 => (.one (.bool x1) : AV)) (show ((decide ((makeErrD l) = 5)) && (decide ((((List.length (okL (makeErrD l) (standL l))) : Nat) : Int) = 0))) = true from by rw [hl0]; simp [hM]), rfl⟩
        · -- no 11
          try simp only [bs] at c11
          obtain ⟨hM, hS⟩ := makeD_ok hE (by rw [hcs]; exact c11)
          have hwe := hw hS
          have hl1 : okL (makeErrD l) (standL l) = standL l := okL_ok _ hM
          refine awp_skip ?_
          refine awp_seq (awp_region ?_)
          refine aops_run 5 [68, 69, 70] [] [] ⟨73, [(68, .one (.bool (decide ((makeErrD l) = 0)))), (69, .whn (decide ((makeErrD l) = 0)) (.one (.ro (.arcs (okL (makeErrD l) (standL l)))))), (70, .whn (decide ((makeErrD l) = 0)) (.one (.ro (.arcs w))))], []⟩ hT (by kernel_rfl) (by kernel_rfl) trivial ?_
          refine aops_pure false ⟨(decide ((makeErrD l) = 0)), [((decide ((makeErrD l) = 0)) = true → (decide ((makeErrD l) = 0)) = true), ((decide ((makeErrD l) = 0)) = true → (decide ((makeErrD l) = 0)) = true)], 73, [.one (.ro (.arcs (okL (makeErrD l) (standL l)))), .one (.ro (.arcs w))], []⟩ [.one (.ro (.arcs (okL (makeErrD l) (standL l)))), .one (.ro (.arcs w))] (.one (.bool (decide ((okL (makeErrD l) (standL l)) = w)))) ⟨73, [(68, .one (.bool (decide ((makeErrD l) = 0)))), (69, .whn (decide ((makeErrD l) = 0)) (.one (.ro (.arcs (okL (makeErrD l) (standL l)))))), (70, .whn (decide ((makeErrD l) = 0)) (.one (.ro (.arcs w)))), (71, .whn (decide ((makeErrD l) = 0)) (.one (.bool (decide ((okL (makeErrD l) (standL l)) = w)))))], []⟩ (by kernel_rfl) (by kernel_rfl) (fun _ => ⟨(fun h => h), (fun h => h), trivial⟩) rfl (fun _ => same_arcs (okL (makeErrD l) (standL l)) w) ?_
          refine aops_run 2 [2] [] [((decide ((makeErrD l) = 0)) = true → (decide ((makeErrD l) = 0)) = true)] ⟨73, [(2, .one (.bool ((decide ((makeErrD l) = 0)) && (decide ((okL (makeErrD l) (standL l)) = w)))))], []⟩ hT (by kernel_rfl) (by kernel_rfl) ⟨(fun h => h), trivial⟩ ?_
          refine aops_end_seq (by kernel_rfl) ?_
          refine awp_ret ?_
          refine kRet.ret _ [] [] (.one (.bool ((decide ((makeErrD l) = 0)) && (decide ((okL (makeErrD l) (standL l)) = w))))) [] (by kernel_rfl) trivial ?_
          exact ⟨congrArg (fun x1 => (.one (.bool x1) : AV)) (show ((decide ((makeErrD l) = 0)) && (decide ((okL (makeErrD l) (standL l)) = w))) = true from by rw [hl1]; simp [hM, hwe]), rfl⟩

end Go.Ab
