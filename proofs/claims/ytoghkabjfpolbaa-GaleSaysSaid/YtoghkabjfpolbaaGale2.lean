/- Of gale: Make. -/
import Derived.Test.YtoghkabjfpolbaaTab
import Derived.Test.YtoghkabjfpolbaaGale0
import Derived.Test.YtoghkabjfpolbaaGale1
import Derived.Test.YtoghkabjfpolbaaF2
import Derived.Test.YtoghkabjfpolbaaPlPush
set_option maxRecDepth 100000
namespace Go.Ab
open Go Go.Proofs
theorem gale_make (rows cols : List Int) : ACall Try.prog 49 [.one (.ro (.ints .i64 rows)), .one (.ro (.ints .i64 cols))] [] (fun ov oh => ov = .tup [(false, [(.ro (.ints .u16 (okL (makeErr rows cols) (galeRes rows cols))))]), (false, [(.int .i64 (makeErr rows cols))])] ∧ oh = []) := by
  refine acall_intro hT Try.func49 rfl (by kernel_rfl) rfl (by kernel_rfl) ?_
  refine awp_run_seq [0, 1] [] [] ⟨75, [(0, .one (.ro (.ints .i64 rows))), (1, .one (.ro (.ints .i64 cols)))], []⟩ hT (by kernel_rfl) trivial ?_
  refine awp_seq ?_
  refine awp_seq (awp_region ?_)
  refine aops_run 2 [0, 1, 16, 17] [] [] ⟨75, [(0, .one (.ro (.ints .i64 rows))), (1, .one (.ro (.ints .i64 cols))), (16, .one (.ro (.ints .i64 rows))), (17, .one (.ro (.ints .i64 cols)))], []⟩ hT (by kernel_rfl) (by kernel_rfl) trivial ?_
  refine aops_pure false ⟨true, [], 53, [.one (.ro (.ints .i64 rows)), .one (.ro (.ints .i64 cols))], []⟩ [.one (.ro (.ints .i64 rows)), .one (.ro (.ints .i64 cols))] (.one (.int .i64 (sumsErr rows cols))) ⟨75, [(0, .one (.ro (.ints .i64 rows))), (1, .one (.ro (.ints .i64 cols))), (16, .one (.ro (.ints .i64 rows))), (17, .one (.ro (.ints .i64 cols))), (18, .one (.int .i64 (sumsErr rows cols)))], []⟩ (by kernel_rfl) (by kernel_rfl) (fun _ => trivial) rfl (fun _ => gale_check rows cols) ?_
  refine aops_run 1 [0, 1, 6] [] [] ⟨75, [(0, .one (.ro (.ints .i64 rows))), (1, .one (.ro (.ints .i64 cols))), (6, .one (.int .i64 (sumsErr rows cols)))], []⟩ hT (by kernel_rfl) (by kernel_rfl) trivial ?_
  refine aops_end_seq (by kernel_rfl) ?_
  refine awp_run_seq [0, 1, 6, 20] [] [] ⟨75, [(0, .one (.ro (.ints .i64 rows))), (1, .one (.ro (.ints .i64 cols))), (6, .one (.int .i64 (sumsErr rows cols))), (20, .one (.bool (decide ((sumsErr rows cols) ≠ 0))))], []⟩ hT (by kernel_rfl) trivial ?_
  refine awp_cond (b := (decide ((sumsErr rows cols) ≠ 0))) (by kernel_rfl) (fun c2 => ?_) (fun c2 => ?_)
  · -- yes 2
    try simp only [bs] at c2
    have hE : (makeErr rows cols) = sumsErr rows cols := by rw [makeErr, if_pos (by omega)]
    have hE0 : (makeErr rows cols) ≠ 0 := by omega
    refine awp_run_seq [4, 5] [] [] ⟨75, [(4, .one .nils), (5, .one (.int .i64 (sumsErr rows cols)))], []⟩ hT (by kernel_rfl) trivial ?_
    refine awp_weak (awk_slot 4 (.one .nils) (.one (.ro (.ints .u16 []))) _ (by kernel_rfl) (.one (wkv_nil0 rfl))) ?_
    refine awp_ret ?_
    refine kRet.ret _ [] [] (.tup [(false, [(.ro (.ints .u16 []))]), (false, [(.int .i64 (sumsErr rows cols))])]) [] (by kernel_rfl) trivial ?_
    exact ⟨by first | rw [show (okL (makeErr rows cols) (galeRes rows cols)) = [] from Eq.symm (by first | exact hE | exact hE.symm | exact (okL_no _ hE0).symm), show (makeErr rows cols) = (sumsErr rows cols) from Eq.symm (by first | exact hE | exact hE.symm | exact (okL_no _ hE0).symm)] | rw [show (okL (makeErr rows cols) (galeRes rows cols)) = [] from Eq.symm (by first | exact hE | exact hE.symm | exact (okL_no _ hE0).symm)] | rw [show (makeErr rows cols) = (sumsErr rows cols) from Eq.symm (by first | exact hE | exact hE.symm | exact (okL_no _ hE0).symm)], rfl⟩
  · -- no 2
    try simp only [bs] at c2
    have hs0 : sumsErr rows cols = 0 := by omega
    obtain ⟨n1, n2, n3, n4⟩ := sumsErr_ok hs0
    refine awp_skip ?_
    refine awp_seq (awp_region ?_)
    refine aops_run 1 [0, 1, 22] [] [] ⟨75, [(0, .one (.ro (.ints .i64 rows))), (1, .one (.ro (.ints .i64 cols))), (22, .one (.ro (.ints .i64 cols)))], []⟩ hT (by kernel_rfl) (by kernel_rfl) trivial ?_
    refine aops_call [] [(9001, 123)] false ⟨true, [], 80, [.one (.ro (.ints .i64 cols))], []⟩ [.one (.ro (.ints .i64 cols))] (sm := ⟨75, [(0, .one (.ro (.ints .i64 rows))), (1, .one (.ro (.ints .i64 cols))), (22, .one (.ro (.ints .i64 cols))), (23, .whn false (.one .any))], []⟩) (by kernel_rfl) (by kernel_rfl) (by decide) (fun _ => trivial) rfl (fun _ => clone_ints cols (by first | omega | (simp; omega))) (fun _ v Hr hv => ?_) (fun h => by cases h)
    obtain ⟨rfl, rfl⟩ := hv
    refine ⟨⟨75, [(0, .one (.ro (.ints .i64 rows))), (1, .one (.ro (.ints .i64 cols))), (22, .one (.ro (.ints .i64 cols))), (23, .one (.rw 123 0 cols.length))], [(123, .flat (.ints .i64 cols))]⟩, by kernel_rfl, ?_⟩
    refine aops_run 2 [0, 1, 7] [107, 123] [(0 < 1)] ⟨75, [(0, .one (.ro (.ints .i64 rows))), (1, .one (.ro (.ints .i64 cols))), (7, .one (.ptr 107 0 0))], [(107, .box 1 1 [(.rw 123 0 cols.length)]), (123, .flat (.ints .i64 cols))]⟩ hT (by kernel_rfl) (by kernel_rfl) ⟨(by decide), trivial⟩ ?_
    refine aops_end_seq (by kernel_rfl) ?_
    refine awp_run_seq [0, 1, 7, 8] [107, 123] [] ⟨75, [(0, .one (.ro (.ints .i64 rows))), (1, .one (.ro (.ints .i64 cols))), (7, .one (.ptr 107 0 0)), (8, .one .nils)], [(107, .box 1 1 [(.rw 123 0 cols.length)]), (123, .flat (.ints .i64 cols))]⟩ hT (by kernel_rfl) trivial ?_
    refine awp_seq ?_
    refine awp_run_seq [1, 7, 8, 24, 25, 26] [107, 123] [] ⟨75, [(1, .one (.ro (.ints .i64 cols))), (7, .one (.ptr 107 0 0)), (8, .one .nils), (24, .one (.ro (.ints .i64 rows))), (25, .one (.int .i64 ((rows.length : Nat) : Int))), (26, .one (.int .i64 0))], [(107, .box 1 1 [(.rw 123 0 cols.length)]), (123, .flat (.ints .i64 cols))]⟩ hT (by kernel_rfl) trivial ?_
    refine awp_block ?_
    refine awp_weak (awk_empty 5008 (.flat (.ints .u16 [])) rfl (by decide) _) ?_
    refine awp_weak (awk_slot 8 (.one .nils) (.one (.rw 5008 0 0)) _ (by kernel_rfl) (.one (wkv_nils (o := .flat (.ints .u16 [])) (by kernel_rfl)))) ?_
    refine awp_loop (I := fun κ σ => ∃ (i : Nat) (X acc : List Int), ((i ≤ rows.length) ∧ (X.length = cols.length ∧ ∀ k : Nat, k < X.length → 0 ≤ X.getD k 0 ∧ X.getD k 0 ≤ 12) ∧ (galeGo (rows.drop i) X acc = galeGo rows cols []) ∧ (acc.length = i) ∧ rows.length - i = κ) ∧ σ = ⟨75, [(1, .one (.ro (.ints .i64 cols))), (7, .one (.ptr 107 0 0)), (8, .one (.rw 5008 0 acc.length)), (24, .one (.ro (.ints .i64 rows))), (25, .one (.int .i64 ((rows.length : Nat) : Int))), (26, .one (.int .i64 ((i : Nat) : Int)))], [(107, .box 1 1 [(.rw 123 0 cols.length)]), (123, .flat (.ints .i64 X)), (5008, .flat (.ints .u16 acc))]⟩) _ ⟨0, cols, [], ⟨(by omega), (by exact ⟨rfl, n4⟩), (by rfl), (by rfl), rfl⟩, (by kernel_rfl)⟩ ?_
    rintro κ _ ⟨i, X, acc, ⟨hi, hX, hg, hac, rfl⟩, rfl⟩
    have hXl := hX.1
    refine awp_run_seq [1, 7, 8, 24, 25, 26, 27] [107, 123, 5008] [] ⟨75, [(1, .one (.ro (.ints .i64 cols))), (7, .one (.ptr 107 0 0)), (8, .one (.rw 5008 0 acc.length)), (24, .one (.ro (.ints .i64 rows))), (25, .one (.int .i64 ((rows.length : Nat) : Int))), (26, .one (.int .i64 ((i : Nat) : Int))), (27, .one (.bool (decide (((i : Nat) : Int) < ((rows.length : Nat) : Int)))))], [(107, .box 1 1 [(.rw 123 0 cols.length)]), (123, .flat (.ints .i64 X)), (5008, .flat (.ints .u16 acc))]⟩ hT (by kernel_rfl) trivial ?_
    refine awp_seq ?_
    refine awp_cond (b := (decide (((i : Nat) : Int) < ((rows.length : Nat) : Int)))) (by kernel_rfl) (fun c7 => ?_) (fun c7 => ?_)
    · -- yes 7
      try simp only [bs] at c7
      have hil : i < rows.length := by omega
      have hgd := gale_drop (L := X) (acc := acc) hil
      rw [hg] at hgd
      have hri := n3 i hil
      refine awp_skip ?_
      refine awp_seq ?_
      refine awp_block ?_
      refine awp_run_seq [1, 7, 8, 10, 24, 25, 26] [107, 123, 5008] [((0 : Int) ≤ ((i : Nat) : Int)), (((i : Nat) : Int) < ((rows.length : Nat) : Int))] ⟨75, [(1, .one (.ro (.ints .i64 cols))), (7, .one (.ptr 107 0 0)), (8, .one (.rw 5008 0 acc.length)), (10, .one (.int .i64 (List.getD rows i 0))), (24, .one (.ro (.ints .i64 rows))), (25, .one (.int .i64 ((rows.length : Nat) : Int))), (26, .one (.int .i64 ((i : Nat) : Int)))], [(107, .box 1 1 [(.rw 123 0 cols.length)]), (123, .flat (.ints .i64 X)), (5008, .flat (.ints .u16 acc))]⟩ hT (by kernel_rfl) ⟨(by first | omega | (simp only [lens]; omega) | (simp only [lens]; done) | (simp; done)), (by first | omega | (simp only [lens]; omega) | (simp only [lens]; done) | (simp; done)), trivial⟩ ?_
      refine awp_run_seq [1, 7, 8, 10, 11, 24, 25, 26] [107, 123, 5008] [] ⟨75, [(1, .one (.ro (.ints .i64 cols))), (7, .one (.ptr 107 0 0)), (8, .one (.rw 5008 0 acc.length)), (10, .one (.int .i64 (List.getD rows i 0))), (11, .one .nils), (24, .one (.ro (.ints .i64 rows))), (25, .one (.int .i64 ((rows.length : Nat) : Int))), (26, .one (.int .i64 ((i : Nat) : Int)))], [(107, .box 1 1 [(.rw 123 0 cols.length)]), (123, .flat (.ints .i64 X)), (5008, .flat (.ints .u16 acc))]⟩ hT (by kernel_rfl) trivial ?_
      refine awp_seq ?_
      refine awp_run_seq [1, 7, 8, 10, 11, 24, 25, 26, 31, 32] [107, 123, 5008] [] ⟨75, [(1, .one (.ro (.ints .i64 cols))), (7, .one (.ptr 107 0 0)), (8, .one (.rw 5008 0 acc.length)), (10, .one (.int .i64 (List.getD rows i 0))), (11, .one .nils), (24, .one (.ro (.ints .i64 rows))), (25, .one (.int .i64 ((rows.length : Nat) : Int))), (26, .one (.int .i64 ((i : Nat) : Int))), (31, .one (.int .i64 ((cols.length : Nat) : Int))), (32, .one (.int .i64 0))], [(107, .box 1 1 [(.rw 123 0 cols.length)]), (123, .flat (.ints .i64 X)), (5008, .flat (.ints .u16 acc))]⟩ hT (by kernel_rfl) trivial ?_
      refine awp_block ?_
      refine awp_weak (awk_empty 5011 (.flat (.ints .i64 [])) rfl (by decide) _) ?_
      refine awp_weak (awk_slot 11 (.one .nils) (.one (.rw 5011 0 0)) _ (by kernel_rfl) (.one (wkv_nils (o := .flat (.ints .i64 [])) (by kernel_rfl)))) ?_
      refine awp_loop (I := fun κ σ => ∃ (q : Nat) (ordb : List Int), ((q ≤ cols.length) ∧ (ordb = (idsOf cols.length).take q) ∧ cols.length - q = κ) ∧ σ = ⟨75, [(1, .one (.ro (.ints .i64 cols))), (7, .one (.ptr 107 0 0)), (8, .one (.rw 5008 0 acc.length)), (10, .one (.int .i64 (List.getD rows i 0))), (11, .one (.rw 5011 0 ordb.length)), (24, .one (.ro (.ints .i64 rows))), (25, .one (.int .i64 ((rows.length : Nat) : Int))), (26, .one (.int .i64 ((i : Nat) : Int))), (31, .one (.int .i64 ((cols.length : Nat) : Int))), (32, .one (.int .i64 ((q : Nat) : Int)))], [(107, .box 1 1 [(.rw 123 0 cols.length)]), (123, .flat (.ints .i64 X)), (5008, .flat (.ints .u16 acc)), (5011, .flat (.ints .i64 ordb))]⟩) _ ⟨0, [], ⟨(by omega), (by rfl), rfl⟩, (by kernel_rfl)⟩ ?_
      rintro κ _ ⟨q, ordb, ⟨hq, hob, rfl⟩, rfl⟩
      have hobl : ordb.length = q := by rw [hob, List.length_take, ids_len]; omega
      refine awp_run_seq [1, 7, 8, 10, 11, 24, 25, 26, 31, 32, 33] [107, 123, 5008, 5011] [] ⟨75, [(1, .one (.ro (.ints .i64 cols))), (7, .one (.ptr 107 0 0)), (8, .one (.rw 5008 0 acc.length)), (10, .one (.int .i64 (List.getD rows i 0))), (11, .one (.rw 5011 0 ordb.length)), (24, .one (.ro (.ints .i64 rows))), (25, .one (.int .i64 ((rows.length : Nat) : Int))), (26, .one (.int .i64 ((i : Nat) : Int))), (31, .one (.int .i64 ((cols.length : Nat) : Int))), (32, .one (.int .i64 ((q : Nat) : Int))), (33, .one (.bool (decide (((q : Nat) : Int) < ((cols.length : Nat) : Int)))))], [(107, .box 1 1 [(.rw 123 0 cols.length)]), (123, .flat (.ints .i64 X)), (5008, .flat (.ints .u16 acc)), (5011, .flat (.ints .i64 ordb))]⟩ hT (by kernel_rfl) trivial ?_
      refine awp_seq ?_
      refine awp_cond (b := (decide (((q : Nat) : Int) < ((cols.length : Nat) : Int)))) (by kernel_rfl) (fun c11 => ?_) (fun c11 => ?_)
      · -- yes 11
        try simp only [bs] at c11
        have hql : q < cols.length := by omega
        have hts := take_snoc (l := idsOf cols.length) (j := q) (by rw [ids_len]; exact hql)
        rw [ids_at hql] at hts
        refine awp_skip ?_
        refine awp_seq ?_
        refine awp_block ?_
        refine awp_run_seq [1, 7, 8, 10, 11, 12, 24, 25, 26, 31, 32] [107, 123, 5008, 5011] [] ⟨75, [(1, .one (.ro (.ints .i64 cols))), (7, .one (.ptr 107 0 0)), (8, .one (.rw 5008 0 acc.length)), (10, .one (.int .i64 (List.getD rows i 0))), (11, .one (.rw 5011 0 ordb.length)), (12, .one (.int .i64 ((q : Nat) : Int))), (24, .one (.ro (.ints .i64 rows))), (25, .one (.int .i64 ((rows.length : Nat) : Int))), (26, .one (.int .i64 ((i : Nat) : Int))), (31, .one (.int .i64 ((cols.length : Nat) : Int))), (32, .one (.int .i64 ((q : Nat) : Int)))], [(107, .box 1 1 [(.rw 123 0 cols.length)]), (123, .flat (.ints .i64 X)), (5008, .flat (.ints .u16 acc)), (5011, .flat (.ints .i64 ordb))]⟩ hT (by kernel_rfl) trivial ?_
        refine awp_run [1, 7, 8, 10, 11, 24, 25, 26, 31, 32] [107, 123, 5008, 5011] [(ordb.length = ordb.length), ((ordb.length + 1) * 8 ≤ 140737488355328), ((ordb.length + 1) ≤ 9223372036854775807)] ⟨75, [(1, .one (.ro (.ints .i64 cols))), (7, .one (.ptr 107 0 0)), (8, .one (.rw 5008 0 acc.length)), (10, .one (.int .i64 (List.getD rows i 0))), (11, .one (.rw 5011 0 (ordb.length + 1))), (24, .one (.ro (.ints .i64 rows))), (25, .one (.int .i64 ((rows.length : Nat) : Int))), (26, .one (.int .i64 ((i : Nat) : Int))), (31, .one (.int .i64 ((cols.length : Nat) : Int))), (32, .one (.int .i64 ((q : Nat) : Int)))], [(107, .box 1 1 [(.rw 123 0 cols.length)]), (123, .flat (.ints .i64 X)), (5008, .flat (.ints .u16 acc)), (5011, .flat (.ints .i64 (ordb ++ [((q : Nat) : Int)])))]⟩ hT (by kernel_rfl) ⟨(by first | omega | (simp only [lens]; omega) | (simp only [lens]; done) | (simp; done)), (by first | omega | (simp only [lens]; omega) | (simp only [lens]; done) | (simp; done)), (by first | omega | (simp only [lens]; omega) | (simp only [lens]; done) | (simp; done)), trivial⟩ ?_
        refine awp_run [1, 7, 8, 10, 11, 24, 25, 26, 31, 32] [107, 123, 5008, 5011] [(-9223372036854775808 ≤ (((q + 1) : Nat) : Int) ∧ (((q + 1) : Nat) : Int) ≤ 9223372036854775807)] ⟨75, [(1, .one (.ro (.ints .i64 cols))), (7, .one (.ptr 107 0 0)), (8, .one (.rw 5008 0 acc.length)), (10, .one (.int .i64 (List.getD rows i 0))), (11, .one (.rw 5011 0 (ordb.length + 1))), (24, .one (.ro (.ints .i64 rows))), (25, .one (.int .i64 ((rows.length : Nat) : Int))), (26, .one (.int .i64 ((i : Nat) : Int))), (31, .one (.int .i64 ((cols.length : Nat) : Int))), (32, .one (.int .i64 (((q + 1) : Nat) : Int)))], [(107, .box 1 1 [(.rw 123 0 cols.length)]), (123, .flat (.ints .i64 X)), (5008, .flat (.ints .u16 acc)), (5011, .flat (.ints .i64 (ordb ++ [((q : Nat) : Int)])))]⟩ hT (by kernel_rfl) ⟨(by first | omega | (simp only [lens]; omega) | (simp only [lens]; done) | (simp; done)), trivial⟩ ?_
        refine loop_end _ ?_ ⟨(q + 1), (ordb ++ [((q : Nat) : Int)]), ⟨(by omega), (by rw [hts, hob]), rfl⟩, (by first | (simp only [lens]; done) | (simp only [Nat.zero_add]; done) | simp only [lens, Nat.zero_add])⟩
        omega
      · -- no 11
        try simp only [bs] at c11
        have hordb : ordb = (idsOf cols.length) := by rw [hob, List.take_of_length_le (by rw [ids_len]; omega)]
        have hidl := ids_len cols.length
        have holn := ord_len X
        refine awp_exit ?_
        rw [show ordb = (idsOf cols.length) from hordb]
        refine awp_seq (awp_region ?_)
        refine aops_run 2 [1, 7, 8, 10, 11, 24, 25, 26, 40, 41] [107, 123, 5008, 5011] [] ⟨75, [(1, .one (.ro (.ints .i64 cols))), (7, .one (.ptr 107 0 0)), (8, .one (.rw 5008 0 acc.length)), (10, .one (.int .i64 (List.getD rows i 0))), (11, .one (.rw 5011 0 ((idsOf cols.length).length))), (24, .one (.ro (.ints .i64 rows))), (25, .one (.int .i64 ((rows.length : Nat) : Int))), (26, .one (.int .i64 ((i : Nat) : Int))), (40, .one (.rw 5011 0 ((idsOf cols.length).length))), (41, .one (.fn 117 [(.ptr 107 0 0)]))], [(107, .box 1 1 [(.rw 123 0 cols.length)]), (123, .flat (.ints .i64 X)), (5008, .flat (.ints .u16 acc)), (5011, .flat (.ints .i64 (idsOf cols.length)))]⟩ hT (by kernel_rfl) (by kernel_rfl) trivial ?_
        refine aops_call [(1, 107), (2, 5011), (3, 123)] [] false ⟨true, [], 116, [.one (.rw 2 0 ((idsOf cols.length).length)), .one (.fn 117 [(.ptr 1 0 0)])], [(1, .box 1 1 [(.rw 3 0 cols.length)]), (2, .flat (.ints .i64 (idsOf cols.length))), (3, .flat (.ints .i64 X))]⟩ [.one (.rw 2 0 ((idsOf cols.length).length)), .one (.fn 117 [(.ptr 1 0 0)])] (sm := ⟨75, [(1, .one (.ro (.ints .i64 cols))), (7, .one (.ptr 107 0 0)), (8, .one (.rw 5008 0 acc.length)), (10, .one (.int .i64 (List.getD rows i 0))), (11, .one (.rw 5011 0 ((idsOf cols.length).length))), (24, .one (.ro (.ints .i64 rows))), (25, .one (.int .i64 ((rows.length : Nat) : Int))), (26, .one (.int .i64 ((i : Nat) : Int))), (40, .one (.rw 5011 0 ((idsOf cols.length).length))), (41, .one (.fn 117 [(.ptr 107 0 0)])), (42, .whn false (.one .any))], [(107, .box 1 1 [(.rw 123 0 cols.length)]), (123, .flat (.ints .i64 X)), (5008, .flat (.ints .u16 acc)), (5011, .flat (.ints .i64 (idsOf cols.length)))]⟩) (by kernel_rfl) (by kernel_rfl) (by decide) (fun _ => trivial) rfl (fun _ => sort_cols cols.length X (by omega) (by omega)) (fun _ v Hr hv => ?_) (fun h => by cases h)
        obtain ⟨rfl, rfl⟩ := hv
        refine ⟨⟨75, [(1, .one (.ro (.ints .i64 cols))), (7, .one (.ptr 107 0 0)), (8, .one (.rw 5008 0 acc.length)), (10, .one (.int .i64 (List.getD rows i 0))), (11, .one (.rw 5011 0 ((idsOf cols.length).length))), (24, .one (.ro (.ints .i64 rows))), (25, .one (.int .i64 ((rows.length : Nat) : Int))), (26, .one (.int .i64 ((i : Nat) : Int))), (40, .one (.rw 5011 0 ((idsOf cols.length).length))), (41, .one (.fn 117 [(.ptr 107 0 0)])), (42, .tup [])], [(107, .box 1 1 [(.rw 123 0 cols.length)]), (123, .flat (.ints .i64 X)), (5008, .flat (.ints .u16 acc)), (5011, .flat (.ints .i64 (ordOf X)))]⟩, by kernel_rfl, ?_⟩
        refine aops_cut [1, 7, 8, 10, 11, 24, 25, 26] [107, 123, 5008, 5011] ⟨75, [(1, .one (.ro (.ints .i64 cols))), (7, .one (.ptr 107 0 0)), (8, .one (.rw 5008 0 acc.length)), (10, .one (.int .i64 (List.getD rows i 0))), (11, .one (.rw 5011 0 ((idsOf cols.length).length))), (24, .one (.ro (.ints .i64 rows))), (25, .one (.int .i64 ((rows.length : Nat) : Int))), (26, .one (.int .i64 ((i : Nat) : Int)))], [(107, .box 1 1 [(.rw 123 0 cols.length)]), (123, .flat (.ints .i64 X)), (5008, .flat (.ints .u16 acc)), (5011, .flat (.ints .i64 (ordOf X)))]⟩ (by kernel_rfl) ?_
        refine aops_end_seq (by kernel_rfl) ?_
        refine awp_run_seq [1, 7, 8, 10, 11, 13, 24, 25, 26] [107, 123, 5008, 5011] [] ⟨75, [(1, .one (.ro (.ints .i64 cols))), (7, .one (.ptr 107 0 0)), (8, .one (.rw 5008 0 acc.length)), (10, .one (.int .i64 (List.getD rows i 0))), (11, .one (.rw 5011 0 ((idsOf cols.length).length))), (13, .one (.int .u16 0)), (24, .one (.ro (.ints .i64 rows))), (25, .one (.int .i64 ((rows.length : Nat) : Int))), (26, .one (.int .i64 ((i : Nat) : Int)))], [(107, .box 1 1 [(.rw 123 0 cols.length)]), (123, .flat (.ints .i64 X)), (5008, .flat (.ints .u16 acc)), (5011, .flat (.ints .i64 (ordOf X)))]⟩ hT (by kernel_rfl) trivial ?_
        refine awp_seq ?_
        refine awp_run_seq [1, 7, 8, 13, 24, 25, 26, 45, 46, 47] [107, 123, 5008, 5011] [((0 : Int) ≤ 0), ((0 : Int) ≤ (List.getD rows i 0)), ((List.getD rows i 0) ≤ (((idsOf cols.length).length : Nat) : Int))] ⟨75, [(1, .one (.ro (.ints .i64 cols))), (7, .one (.ptr 107 0 0)), (8, .one (.rw 5008 0 acc.length)), (13, .one (.int .u16 0)), (24, .one (.ro (.ints .i64 rows))), (25, .one (.int .i64 ((rows.length : Nat) : Int))), (26, .one (.int .i64 ((i : Nat) : Int))), (45, .one (.rw 5011 0 (Int.toNat (List.getD rows i 0)))), (46, .one (.int .i64 (((Int.toNat (List.getD rows i 0)) : Nat) : Int))), (47, .one (.int .i64 0))], [(107, .box 1 1 [(.rw 123 0 cols.length)]), (123, .flat (.ints .i64 X)), (5008, .flat (.ints .u16 acc)), (5011, .flat (.ints .i64 (ordOf X)))]⟩ hT (by kernel_rfl) ⟨(by first | omega | (simp only [lens]; omega) | (simp only [lens]; done) | (simp; done)), (by first | omega | (simp only [lens]; omega) | (simp only [lens]; done) | (simp; done)), (by first | omega | (simp only [lens]; omega) | (simp only [lens]; done) | (simp; done)), trivial⟩ ?_
        refine awp_block ?_
        refine awp_loop (I := fun κ σ => ∃ (j : Nat) (Y : List Int) (z : Int), ((j ≤ Int.toNat (List.getD rows i 0)) ∧ (Taken X Y z j) ∧ (∀ p : Nat, p < j → X.getD ((ordOf X).getD p 0).toNat 0 ≠ 0) ∧ Int.toNat (List.getD rows i 0) - j = κ) ∧ σ = ⟨75, [(1, .one (.ro (.ints .i64 cols))), (7, .one (.ptr 107 0 0)), (8, .one (.rw 5008 0 acc.length)), (13, .one (.int .u16 z)), (24, .one (.ro (.ints .i64 rows))), (25, .one (.int .i64 ((rows.length : Nat) : Int))), (26, .one (.int .i64 ((i : Nat) : Int))), (45, .one (.rw 5011 0 (Int.toNat (List.getD rows i 0)))), (46, .one (.int .i64 (((Int.toNat (List.getD rows i 0)) : Nat) : Int))), (47, .one (.int .i64 ((j : Nat) : Int)))], [(107, .box 1 1 [(.rw 123 0 cols.length)]), (123, .flat (.ints .i64 Y)), (5008, .flat (.ints .u16 acc)), (5011, .flat (.ints .i64 (ordOf X)))]⟩) _ ⟨0, X, 0, ⟨(by omega), (by exact Taken.start X), (by intro p hp; omega), rfl⟩, (by kernel_rfl)⟩ ?_
        rintro κ _ ⟨j, Y, z, ⟨hj, hTk, hnb, rfl⟩, rfl⟩
        have hYl := hTk.len
        have hzi := hTk.z_in (by omega)
        refine awp_run_seq [1, 7, 8, 13, 24, 25, 26, 45, 46, 47, 48] [107, 123, 5008, 5011] [] ⟨75, [(1, .one (.ro (.ints .i64 cols))), (7, .one (.ptr 107 0 0)), (8, .one (.rw 5008 0 acc.length)), (13, .one (.int .u16 z)), (24, .one (.ro (.ints .i64 rows))), (25, .one (.int .i64 ((rows.length : Nat) : Int))), (26, .one (.int .i64 ((i : Nat) : Int))), (45, .one (.rw 5011 0 (Int.toNat (List.getD rows i 0)))), (46, .one (.int .i64 (((Int.toNat (List.getD rows i 0)) : Nat) : Int))), (47, .one (.int .i64 ((j : Nat) : Int))), (48, .one (.bool (decide (((j : Nat) : Int) < (((Int.toNat (List.getD rows i 0)) : Nat) : Int)))))], [(107, .box 1 1 [(.rw 123 0 cols.length)]), (123, .flat (.ints .i64 Y)), (5008, .flat (.ints .u16 acc)), (5011, .flat (.ints .i64 (ordOf X)))]⟩ hT (by kernel_rfl) trivial ?_
        refine awp_seq ?_
        refine awp_cond (b := (decide (((j : Nat) : Int) < (((Int.toNat (List.getD rows i 0)) : Nat) : Int)))) (by kernel_rfl) (fun c18 => ?_) (fun c18 => ?_)
        · -- yes 18
          try simp only [bs] at c18
          have hjl : j < X.length := by omega
          have hoj := ord_at hjl
          have htn := hTk.now hjl
          have htp := pow12 hoj.1 (by omega)
          have hor := ior_in (x := z) (y := 1 * 2 ^ (Int.toNat (List.getD (ordOf X) j 0))) hzi.1 (by omega) (by omega) (by omega)
          have hxk := hX.2 (Int.toNat (List.getD (ordOf X) j 0)) (by omega)
          refine awp_skip ?_
          refine awp_seq ?_
          refine awp_block ?_
          refine awp_run_seq [1, 7, 8, 13, 15, 24, 25, 26, 45, 46, 47] [107, 123, 5008, 5011] [((0 : Int) ≤ ((j : Nat) : Int)), (((j : Nat) : Int) < (((Int.toNat (List.getD rows i 0)) : Nat) : Int)), (j < (List.length (ordOf X)))] ⟨75, [(1, .one (.ro (.ints .i64 cols))), (7, .one (.ptr 107 0 0)), (8, .one (.rw 5008 0 acc.length)), (13, .one (.int .u16 z)), (15, .one (.int .i64 (List.getD (ordOf X) j 0))), (24, .one (.ro (.ints .i64 rows))), (25, .one (.int .i64 ((rows.length : Nat) : Int))), (26, .one (.int .i64 ((i : Nat) : Int))), (45, .one (.rw 5011 0 (Int.toNat (List.getD rows i 0)))), (46, .one (.int .i64 (((Int.toNat (List.getD rows i 0)) : Nat) : Int))), (47, .one (.int .i64 ((j : Nat) : Int)))], [(107, .box 1 1 [(.rw 123 0 cols.length)]), (123, .flat (.ints .i64 Y)), (5008, .flat (.ints .u16 acc)), (5011, .flat (.ints .i64 (ordOf X)))]⟩ hT (by kernel_rfl) ⟨(by first | omega | (simp only [lens]; omega) | (simp only [lens]; done) | (simp; done)), (by first | omega | (simp only [lens]; omega) | (simp only [lens]; done) | (simp; done)), (by first | omega | (simp only [lens]; omega) | (simp only [lens]; done) | (simp; done)), trivial⟩ ?_
          refine awp_seq ?_
          refine awp_run_seq [1, 7, 8, 13, 15, 24, 25, 26, 45, 46, 47, 55] [107, 123, 5008, 5011] [(0 < 1), ((0 : Int) ≤ (List.getD (ordOf X) j 0)), ((List.getD (ordOf X) j 0) < ((cols.length : Nat) : Int)), ((Int.toNat (List.getD (ordOf X) j 0)) < Y.length)] ⟨75, [(1, .one (.ro (.ints .i64 cols))), (7, .one (.ptr 107 0 0)), (8, .one (.rw 5008 0 acc.length)), (13, .one (.int .u16 z)), (15, .one (.int .i64 (List.getD (ordOf X) j 0))), (24, .one (.ro (.ints .i64 rows))), (25, .one (.int .i64 ((rows.length : Nat) : Int))), (26, .one (.int .i64 ((i : Nat) : Int))), (45, .one (.rw 5011 0 (Int.toNat (List.getD rows i 0)))), (46, .one (.int .i64 (((Int.toNat (List.getD rows i 0)) : Nat) : Int))), (47, .one (.int .i64 ((j : Nat) : Int))), (55, .one (.bool (decide ((List.getD Y (Int.toNat (List.getD (ordOf X) j 0)) 0) = 0))))], [(107, .box 1 1 [(.rw 123 0 cols.length)]), (123, .flat (.ints .i64 Y)), (5008, .flat (.ints .u16 acc)), (5011, .flat (.ints .i64 (ordOf X)))]⟩ hT (by kernel_rfl) ⟨(by decide), (by first | omega | (simp only [lens]; omega) | (simp only [lens]; done) | (simp; done)), (by first | omega | (simp only [lens]; omega) | (simp only [lens]; done) | (simp; done)), (by first | omega | (simp only [lens]; omega) | (simp only [lens]; done) | (simp; done)), trivial⟩ ?_
          refine awp_cond (b := (decide ((List.getD Y (Int.toNat (List.getD (ordOf X) j 0)) 0) = 0))) (by kernel_rfl) (fun c20 => ?_) (fun c20 => ?_)
          · -- yes 20
            try simp only [bs] at c20
            have hbad := bad_yes (L := X) (r := List.getD rows i 0) (j := j) (by omega) hjl (by omega)
            have hgn : galeGo rows cols [] = none := by rw [hgd, if_pos hbad]
            have hE : (makeErr rows cols) = 5 := by rw [makeErr, if_neg (by omega), if_neg (by rw [hgn]; decide)]
            have hE0 : (makeErr rows cols) ≠ 0 := by omega
            refine awp_run_seq [4, 5] [] [] ⟨75, [(4, .one .nils), (5, .one (.int .i64 5))], []⟩ hT (by kernel_rfl) trivial ?_
            refine awp_weak (awk_slot 4 (.one .nils) (.one (.ro (.ints .u16 []))) _ (by kernel_rfl) (.one (wkv_nil0 rfl))) ?_
            refine awp_ret ?_
            refine kRet.ret _ [] [] (.tup [(false, [(.ro (.ints .u16 []))]), (false, [(.int .i64 5)])]) [] (by kernel_rfl) trivial ?_
            exact ⟨by first | rw [show (okL (makeErr rows cols) (galeRes rows cols)) = [] from Eq.symm (by first | exact hE.symm | exact (okL_no _ hE0).symm), show (makeErr rows cols) = 5 from Eq.symm (by first | exact hE.symm | exact (okL_no _ hE0).symm)] | rw [show (okL (makeErr rows cols) (galeRes rows cols)) = [] from Eq.symm (by first | exact hE.symm | exact (okL_no _ hE0).symm)] | rw [show (makeErr rows cols) = 5 from Eq.symm (by first | exact hE.symm | exact (okL_no _ hE0).symm)], rfl⟩
          · -- no 20
            try simp only [bs] at c20
            have hTs := hTk.step hjl
            have hnb2 : ∀ p : Nat, p < j + 1 → X.getD ((ordOf X).getD p 0).toNat 0 ≠ 0 := fun p hp => by rcases Nat.lt_succ_iff_lt_or_eq.1 hp with h | h; exact hnb p h; subst h; omega
            refine awp_skip ?_
            refine awp_run_seq [1, 7, 8, 13, 15, 24, 25, 26, 45, 46, 47] [107, 123, 5008, 5011] [(0 < 1), ((0 : Int) ≤ (List.getD (ordOf X) j 0)), ((List.getD (ordOf X) j 0) < ((cols.length : Nat) : Int)), ((Int.toNat (List.getD (ordOf X) j 0)) < Y.length), (-9223372036854775808 ≤ ((List.getD Y (Int.toNat (List.getD (ordOf X) j 0)) 0) - 1) ∧ ((List.getD Y (Int.toNat (List.getD (ordOf X) j 0)) 0) - 1) ≤ 9223372036854775807), ((0 : Int) ≤ (List.getD (ordOf X) j 0)), ((List.getD (ordOf X) j 0) < ((cols.length : Nat) : Int)), ((Int.toNat (List.getD (ordOf X) j 0)) < Y.length)] ⟨75, [(1, .one (.ro (.ints .i64 cols))), (7, .one (.ptr 107 0 0)), (8, .one (.rw 5008 0 acc.length)), (13, .one (.int .u16 z)), (15, .one (.int .i64 (List.getD (ordOf X) j 0))), (24, .one (.ro (.ints .i64 rows))), (25, .one (.int .i64 ((rows.length : Nat) : Int))), (26, .one (.int .i64 ((i : Nat) : Int))), (45, .one (.rw 5011 0 (Int.toNat (List.getD rows i 0)))), (46, .one (.int .i64 (((Int.toNat (List.getD rows i 0)) : Nat) : Int))), (47, .one (.int .i64 ((j : Nat) : Int)))], [(107, .box 1 1 [(.rw 123 0 cols.length)]), (123, .flat (.ints .i64 (List.set Y (Int.toNat (List.getD (ordOf X) j 0)) ((List.getD Y (Int.toNat (List.getD (ordOf X) j 0)) 0) - 1)))), (5008, .flat (.ints .u16 acc)), (5011, .flat (.ints .i64 (ordOf X)))]⟩ hT (by kernel_rfl) ⟨(by decide), (by first | omega | (simp only [lens]; omega) | (simp only [lens]; done) | (simp; done)), (by first | omega | (simp only [lens]; omega) | (simp only [lens]; done) | (simp; done)), (by first | omega | (simp only [lens]; omega) | (simp only [lens]; done) | (simp; done)), (by first | omega | (simp only [lens]; omega) | (simp only [lens]; done) | (simp; done)), (by first | omega | (simp only [lens]; omega) | (simp only [lens]; done) | (simp; done)), (by first | omega | (simp only [lens]; omega) | (simp only [lens]; done) | (simp; done)), (by first | omega | (simp only [lens]; omega) | (simp only [lens]; done) | (simp; done)), trivial⟩ ?_
            refine awp_run [1, 7, 8, 13, 24, 25, 26, 45, 46, 47] [107, 123, 5008, 5011] [((0 : Int) ≤ (List.getD (ordOf X) j 0)), ((List.getD (ordOf X) j 0) ≤ 16), (0 ≤ ((1 : Int) * 2 ^ (Int.toNat (List.getD (ordOf X) j 0))) ∧ ((1 : Int) * 2 ^ (Int.toNat (List.getD (ordOf X) j 0))) ≤ 65535), ((0 : Int) ≤ z ∧ (0 ≤ z ∧ z ≤ 65535)), ((0 : Int) ≤ ((1 : Int) * 2 ^ (Int.toNat (List.getD (ordOf X) j 0))) ∧ (0 ≤ ((1 : Int) * 2 ^ (Int.toNat (List.getD (ordOf X) j 0))) ∧ ((1 : Int) * 2 ^ (Int.toNat (List.getD (ordOf X) j 0))) ≤ 65535))] ⟨75, [(1, .one (.ro (.ints .i64 cols))), (7, .one (.ptr 107 0 0)), (8, .one (.rw 5008 0 acc.length)), (13, .one (.int .u16 (ior z ((1 : Int) * 2 ^ (Int.toNat (List.getD (ordOf X) j 0)))))), (24, .one (.ro (.ints .i64 rows))), (25, .one (.int .i64 ((rows.length : Nat) : Int))), (26, .one (.int .i64 ((i : Nat) : Int))), (45, .one (.rw 5011 0 (Int.toNat (List.getD rows i 0)))), (46, .one (.int .i64 (((Int.toNat (List.getD rows i 0)) : Nat) : Int))), (47, .one (.int .i64 ((j : Nat) : Int)))], [(107, .box 1 1 [(.rw 123 0 cols.length)]), (123, .flat (.ints .i64 (List.set Y (Int.toNat (List.getD (ordOf X) j 0)) ((List.getD Y (Int.toNat (List.getD (ordOf X) j 0)) 0) - 1)))), (5008, .flat (.ints .u16 acc)), (5011, .flat (.ints .i64 (ordOf X)))]⟩ hT (by kernel_rfl) ⟨(by first | omega | (simp only [lens]; omega) | (simp only [lens]; done) | (simp; done)), (by first | omega | (simp only [lens]; omega) | (simp only [lens]; done) | (simp; done)), (by first | omega | (simp only [lens]; omega) | (simp only [lens]; done) | (simp; done)), (by first | omega | (simp only [lens]; omega) | (simp only [lens]; done) | (simp; done)), (by first | omega | (simp only [lens]; omega) | (simp only [lens]; done) | (simp; done)), trivial⟩ ?_
            refine awp_run [1, 7, 8, 13, 24, 25, 26, 45, 46, 47] [107, 123, 5008, 5011] [(-9223372036854775808 ≤ (((j + 1) : Nat) : Int) ∧ (((j + 1) : Nat) : Int) ≤ 9223372036854775807)] ⟨75, [(1, .one (.ro (.ints .i64 cols))), (7, .one (.ptr 107 0 0)), (8, .one (.rw 5008 0 acc.length)), (13, .one (.int .u16 (ior z ((1 : Int) * 2 ^ (Int.toNat (List.getD (ordOf X) j 0)))))), (24, .one (.ro (.ints .i64 rows))), (25, .one (.int .i64 ((rows.length : Nat) : Int))), (26, .one (.int .i64 ((i : Nat) : Int))), (45, .one (.rw 5011 0 (Int.toNat (List.getD rows i 0)))), (46, .one (.int .i64 (((Int.toNat (List.getD rows i 0)) : Nat) : Int))), (47, .one (.int .i64 (((j + 1) : Nat) : Int)))], [(107, .box 1 1 [(.rw 123 0 cols.length)]), (123, .flat (.ints .i64 (List.set Y (Int.toNat (List.getD (ordOf X) j 0)) ((List.getD Y (Int.toNat (List.getD (ordOf X) j 0)) 0) - 1)))), (5008, .flat (.ints .u16 acc)), (5011, .flat (.ints .i64 (ordOf X)))]⟩ hT (by kernel_rfl) ⟨(by first | omega | (simp only [lens]; omega) | (simp only [lens]; done) | (simp; done)), trivial⟩ ?_
            refine loop_end _ ?_ ⟨(j + 1), (List.set Y (Int.toNat (List.getD (ordOf X) j 0)) ((List.getD Y (Int.toNat (List.getD (ordOf X) j 0)) 0) - 1)), (ior z ((1 : Int) * 2 ^ (Int.toNat (List.getD (ordOf X) j 0)))), ⟨(by omega), (by exact hTs), (by exact hnb2), rfl⟩, (by kernel_rfl)⟩
            omega
        · -- no 18
          try simp only [bs] at c18
          have hbn : badRow X (List.getD rows i 0) = false := bad_no (fun p hp => hnb p (by omega))
          rw [if_neg (by rw [hbn]; decide)] at hgd
          obtain ⟨hYe, hze⟩ := hTk.end_ (r := List.getD rows i 0) (by omega)
          have hli := less_in hX.2 hbn
          have hX2 : Y.length = cols.length ∧ ∀ k : Nat, k < Y.length → 0 ≤ Y.getD k 0 ∧ Y.getD k 0 ≤ 12 := by rw [hYe]; exact ⟨by rw [less_len]; exact hX.1, hli⟩
          refine awp_exit ?_
          refine awp_run [1, 7, 8, 24, 25, 26] [107, 123, 5008] [(acc.length = acc.length), ((acc.length + 1) * 2 ≤ 140737488355328), ((acc.length + 1) ≤ 9223372036854775807)] ⟨75, [(1, .one (.ro (.ints .i64 cols))), (7, .one (.ptr 107 0 0)), (8, .one (.rw 5008 0 (acc.length + 1))), (24, .one (.ro (.ints .i64 rows))), (25, .one (.int .i64 ((rows.length : Nat) : Int))), (26, .one (.int .i64 ((i : Nat) : Int)))], [(107, .box 1 1 [(.rw 123 0 cols.length)]), (123, .flat (.ints .i64 Y)), (5008, .flat (.ints .u16 (acc ++ [z])))]⟩ hT (by kernel_rfl) ⟨(by first | omega | (simp only [lens]; omega) | (simp only [lens]; done) | (simp; done)), (by first | omega | (simp only [lens]; omega) | (simp only [lens]; done) | (simp; done)), (by first | omega | (simp only [lens]; omega) | (simp only [lens]; done) | (simp; done)), trivial⟩ ?_
          refine awp_run [1, 7, 8, 24, 25, 26] [107, 123, 5008] [(-9223372036854775808 ≤ (((i + 1) : Nat) : Int) ∧ (((i + 1) : Nat) : Int) ≤ 9223372036854775807)] ⟨75, [(1, .one (.ro (.ints .i64 cols))), (7, .one (.ptr 107 0 0)), (8, .one (.rw 5008 0 (acc.length + 1))), (24, .one (.ro (.ints .i64 rows))), (25, .one (.int .i64 ((rows.length : Nat) : Int))), (26, .one (.int .i64 (((i + 1) : Nat) : Int)))], [(107, .box 1 1 [(.rw 123 0 cols.length)]), (123, .flat (.ints .i64 Y)), (5008, .flat (.ints .u16 (acc ++ [z])))]⟩ hT (by kernel_rfl) ⟨(by first | omega | (simp only [lens]; omega) | (simp only [lens]; done) | (simp; done)), trivial⟩ ?_
          refine loop_end _ ?_ ⟨(i + 1), Y, (acc ++ [z]), ⟨(by omega), (by exact hX2), (by rw [hgd, hYe, hze]), (by simp [hac]), rfl⟩, (by first | (simp only [lens]; done) | (simp only [Nat.zero_add]; done) | simp only [lens, Nat.zero_add])⟩
          omega
    · -- no 7
      try simp only [bs] at c7
      have hge := gale_end (rows := rows) (L := X) (acc := acc) (i := i) (by omega)
      rw [hg] at hge
      have hap := any_pos (L := X) (fun k hk => (hX.2 k hk).1)
      refine awp_exit ?_
      refine awp_seq ?_
      refine awp_seq (awp_region ?_)
      refine aops_run 1 [8, 72] [123, 5008] [(0 < 1)] ⟨75, [(8, .one (.rw 5008 0 acc.length)), (72, .one (.rw 123 0 cols.length))], [(123, .flat (.ints .i64 X)), (5008, .flat (.ints .u16 acc))]⟩ hT (by kernel_rfl) (by kernel_rfl) ⟨(by decide), trivial⟩ ?_
      refine aops_pure true ⟨true, [], 23, [.one (.ro (.ints .i64 (List.take cols.length X))), .one (.fn 120 [])], []⟩ [.one (.ro (.ints .i64 (List.take cols.length X))), .one (.fn 120 [])] (.one (.bool (List.any (List.take cols.length X) (fun x => decide (0 < x))))) ⟨75, [(8, .one (.rw 5008 0 acc.length)), (72, .one (.rw 123 0 cols.length)), (73, .one (.bool (List.any (List.take cols.length X) (fun x => decide (0 < x)))))], [(123, .flat (.ints .i64 X)), (5008, .flat (.ints .u16 acc))]⟩ (by kernel_rfl) (by kernel_rfl) (fun _ => trivial) rfl (fun _ => hasf_ints_ 120 (fun x => decide (0 < x)) (List.take cols.length X)  (fun x hx => gale_make2 x)) ?_
      refine aops_cut [8, 73] [5008] ⟨75, [(8, .one (.rw 5008 0 acc.length)), (73, .one (.bool (List.any (List.take cols.length X) (fun x => decide (0 < x)))))], [(5008, .flat (.ints .u16 acc))]⟩ (by kernel_rfl) ?_
      refine aops_end_seq (by kernel_rfl) ?_
      refine awp_cond (b := (List.any (List.take cols.length X) (fun x => decide (0 < x)))) (by kernel_rfl) (fun c27 => ?_) (fun c27 => ?_)
      · -- yes 27
        try simp only [bs] at c27
        rw [List.take_of_length_le (by omega), hap] at c27
        have hgn : galeGo rows cols [] = none := by rw [hge, if_pos c27]
        have hE : (makeErr rows cols) = 5 := by rw [makeErr, if_neg (by omega), if_neg (by rw [hgn]; decide)]
        have hE0 : (makeErr rows cols) ≠ 0 := by omega
        refine awp_run_seq [4, 5] [] [] ⟨75, [(4, .one .nils), (5, .one (.int .i64 5))], []⟩ hT (by kernel_rfl) trivial ?_
        refine awp_weak (awk_slot 4 (.one .nils) (.one (.ro (.ints .u16 []))) _ (by kernel_rfl) (.one (wkv_nil0 rfl))) ?_
        refine awp_ret ?_
        refine kRet.ret _ [] [] (.tup [(false, [(.ro (.ints .u16 []))]), (false, [(.int .i64 5)])]) [] (by kernel_rfl) trivial ?_
        exact ⟨by first | rw [show (okL (makeErr rows cols) (galeRes rows cols)) = [] from Eq.symm (by first | exact hE.symm | exact (okL_no _ hE0).symm), show (makeErr rows cols) = 5 from Eq.symm (by first | exact hE.symm | exact (okL_no _ hE0).symm)] | rw [show (okL (makeErr rows cols) (galeRes rows cols)) = [] from Eq.symm (by first | exact hE.symm | exact (okL_no _ hE0).symm)] | rw [show (makeErr rows cols) = 5 from Eq.symm (by first | exact hE.symm | exact (okL_no _ hE0).symm)], rfl⟩
      · -- no 27
        try simp only [bs] at c27
        rw [List.take_of_length_le (by omega), hap] at c27
        have hgs : galeGo rows cols [] = some acc := by rw [hge, if_neg (by rw [c27]; decide)]
        have hE : (makeErr rows cols) = 0 := by rw [makeErr, if_neg (by omega), if_pos (by rw [hgs]; rfl)]
        have hGR : (galeRes rows cols) = acc := by rw [galeRes, hgs]; rfl
        refine awp_skip ?_
        refine awp_weak (awk_seal 5008 (s' := ⟨75, [(8, .one (.ro (.ints .u16 (List.take acc.length acc)))), (73, .one (.bool (List.any (List.take cols.length X) (fun x => decide (0 < x)))))], []⟩) (by kernel_rfl)) ?_
        rw [show (List.take acc.length acc) = acc from List.take_of_length_le (by first | omega | simp)]
        refine awp_run_seq [4, 5] [] [] ⟨75, [(4, .one (.ro (.ints .u16 acc))), (5, .one (.int .i64 0))], []⟩ hT (by kernel_rfl) trivial ?_
        refine awp_ret ?_
        refine kRet.ret _ [] [] (.tup [(false, [(.ro (.ints .u16 acc))]), (false, [(.int .i64 0)])]) [] (by kernel_rfl) trivial ?_
        exact ⟨by first | rw [show (okL (makeErr rows cols) (galeRes rows cols)) = acc from Eq.symm (by first | exact hE.symm | (rw [okL_ok _ hE]; exact hGR.symm)), show (makeErr rows cols) = 0 from Eq.symm (by first | exact hE.symm | (rw [okL_ok _ hE]; exact hGR.symm))] | rw [show (okL (makeErr rows cols) (galeRes rows cols)) = acc from Eq.symm (by first | exact hE.symm | (rw [okL_ok _ hE]; exact hGR.symm))] | rw [show (makeErr rows cols) = 0 from Eq.symm (by first | exact hE.symm | (rw [okL_ok _ hE]; exact hGR.symm))], rfl⟩

end Go.Ab
