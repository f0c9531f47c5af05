/- Of shortest ways: what is joined, in the reference. -/
import Derived.Test.YtcmaffldmodacaaTab
import Derived.Test.YtcmaffldmodacaaWays1
import Derived.Test.YtcmaffldmodacaaBoth1
import Derived.Test.YtcmaffldmodacaaFun1
import Derived.Test.YtcmaffldmodacaaPlB
set_option maxRecDepth 100000
namespace Go.Ab
open Go Go.Proofs
theorem joined1 (x : Int) : ACall Try.prog 63 [.one (.int .i64 x)] [] (fun ov oh => ov = .one (.bool (finB x)) ∧ oh = []) := by
  refine acall_intro hT Try.func63 rfl (by kernel_rfl) rfl (by kernel_rfl) ?_
  refine awp_run_seq [0] [] [] ⟨5, [(0, .one (.int .i64 x))], []⟩ hT (by kernel_rfl) trivial ?_
  refine awp_run_seq [2] [] [] ⟨5, [(2, .one (.bool (decide (x < 1099511627776))))], []⟩ hT (by kernel_rfl) trivial ?_
  refine awp_ret ?_
  refine kRet.ret _ [] [] (.one (.bool (decide (x < 1099511627776)))) [] (by kernel_rfl) trivial ?_
  exact ⟨congrArg (fun x1 => (.one (.bool x1) : AV)) (show (decide (x < 1099511627776)) = (finB x) from by rfl), rfl⟩
theorem ref_joined (n : Int) (es : List Arc) (h1 : 1 ≤ n) (h2 : n ≤ 12) (hl : es.length ≤ 60) (hA : InR n es) : ACall Try.prog 38 [.agg [(.int .i64 n), (.ro (.arcs es))]] [] (fun ov oh => ov = .one (.ro (.ints .i64 (joinedOf n es))) ∧ oh = []) := by
  refine acall_intro hT Try.func38 rfl (by kernel_rfl) rfl (by kernel_rfl) ?_
  have hA2 : InR n (bothA es) := hA.both
  have hWl := waysOf_len n (bothA es)
  refine awp_run_seq [1] [101] [] ⟨24, [(1, .one (.ptr 101 0 0))], [(101, .box 1 2 [(.int .i64 n), (.ro (.arcs es))])]⟩ hT (by kernel_rfl) trivial ?_
  refine awp_seq (awp_region ?_)
  refine aops_run 1 [6] [] [(0 < 1)] ⟨24, [(6, .agg [(.int .i64 n), (.ro (.arcs es))])], []⟩ hT (by kernel_rfl) (by kernel_rfl) ⟨(by decide), trivial⟩ ?_
  refine aops_pure false ⟨true, [], 37, [.agg [(.int .i64 n), (.ro (.arcs es))]], []⟩ [.agg [(.int .i64 n), (.ro (.arcs es))]] (.agg [(.int .i64 n), (.ro (.arcs (bothA es)))]) ⟨24, [(6, .agg [(.int .i64 n), (.ro (.arcs es))]), (7, .agg [(.int .i64 n), (.ro (.arcs (bothA es)))])], []⟩ (by kernel_rfl) (by kernel_rfl) (fun _ => trivial) rfl (fun _ => ref_both n es (by first | assumption | omega)) ?_
  refine aops_pure false ⟨true, [], 36, [.agg [(.int .i64 n), (.ro (.arcs (bothA es)))]], []⟩ [.agg [(.int .i64 n), (.ro (.arcs (bothA es)))]] (.one (.rs (.rows (waysOf n (bothA es))))) ⟨24, [(6, .agg [(.int .i64 n), (.ro (.arcs es))]), (7, .agg [(.int .i64 n), (.ro (.arcs (bothA es)))]), (8, .one (.rs (.rows (waysOf n (bothA es)))))], []⟩ (by kernel_rfl) (by kernel_rfl) (fun _ => trivial) rfl (fun _ => ref_ways n (bothA es) (by omega) (by omega) (by assumption)) ?_
  refine aops_run 1 [3] [] [] ⟨24, [(3, .one (.rs (.rows (waysOf n (bothA es)))))], []⟩ hT (by kernel_rfl) (by kernel_rfl) trivial ?_
  refine aops_end_seq (by kernel_rfl) ?_
  refine awp_run_seq [3, 4] [] [] ⟨24, [(3, .one (.rs (.rows (waysOf n (bothA es))))), (4, .one .nils)], []⟩ hT (by kernel_rfl) trivial ?_
  refine awp_seq ?_
  refine awp_run_seq [3, 4, 10, 11] [] [] ⟨24, [(3, .one (.rs (.rows (waysOf n (bothA es))))), (4, .one .nils), (10, .one (.int .i64 (((List.length (waysOf n (bothA es))) : Nat) : Int))), (11, .one (.int .i64 0))], []⟩ hT (by kernel_rfl) trivial ?_
  refine awp_block ?_
  refine awp_weak (awk_empty 5004 (.flat (.ints .i64 [])) rfl (by decide) _) ?_
  refine awp_weak (awk_slot 4 (.one .nils) (.one (.rw 5004 0 0)) _ (by kernel_rfl) (.one (wkv_nils (o := .flat (.ints .i64 [])) (by kernel_rfl)))) ?_
  refine awp_loop (I := fun κ σ => ∃ (i : Nat) (b : List Int), ((i ≤ n.toNat) ∧ (b = (List.range i).map fun u => idxOf finB ((waysOf n (bothA es)).getD u [])) ∧ n.toNat - i = κ) ∧ σ = ⟨24, [(3, .one (.rs (.rows (waysOf n (bothA es))))), (4, .one (.rw 5004 0 b.length)), (10, .one (.int .i64 (((List.length (waysOf n (bothA es))) : Nat) : Int))), (11, .one (.int .i64 (i : Int)))], [(5004, .flat (.ints .i64 b))]⟩) _ ⟨0, [], ⟨(by omega), (by rfl), rfl⟩, (by kernel_rfl)⟩ ?_
  rintro κ _ ⟨i, b, ⟨hi, hb, rfl⟩, rfl⟩
  have hbl : b.length = i := by rw [hb]; simp
  refine awp_run_seq [3, 4, 10, 11, 12] [5004] [] ⟨24, [(3, .one (.rs (.rows (waysOf n (bothA es))))), (4, .one (.rw 5004 0 b.length)), (10, .one (.int .i64 (((List.length (waysOf n (bothA es))) : Nat) : Int))), (11, .one (.int .i64 (i : Int))), (12, .one (.bool (decide ((i : Int) < (((List.length (waysOf n (bothA es))) : Nat) : Int)))))], [(5004, .flat (.ints .i64 b))]⟩ hT (by kernel_rfl) trivial ?_
  refine awp_seq ?_
  refine awp_cond (b := (decide ((i : Int) < (((List.length (waysOf n (bothA es))) : Nat) : Int)))) (by kernel_rfl) (fun c4 => ?_) (fun c4 => ?_)
  ·
    try simp only [bs] at c4
    refine awp_skip ?_
    refine awp_seq ?_
    refine awp_block ?_
    refine awp_run_seq [3, 4, 5, 10, 11] [5004] [] ⟨24, [(3, .one (.rs (.rows (waysOf n (bothA es))))), (4, .one (.rw 5004 0 b.length)), (5, .one (.int .i64 (i : Int))), (10, .one (.int .i64 (((List.length (waysOf n (bothA es))) : Nat) : Int))), (11, .one (.int .i64 (i : Int)))], [(5004, .flat (.ints .i64 b))]⟩ hT (by kernel_rfl) trivial ?_
    refine awp_region ?_
    refine aops_run 5 [3, 10, 11, 14, 18] [5004] [((0 : Int) ≤ (i : Int)), ((i : Int) < (((List.length (waysOf n (bothA es))) : Nat) : Int))] ⟨24, [(3, .one (.rs (.rows (waysOf n (bothA es))))), (10, .one (.int .i64 (((List.length (waysOf n (bothA es))) : Nat) : Int))), (11, .one (.int .i64 (i : Int))), (14, .one (.rw 5004 0 b.length)), (18, .one (.ro (.ints .i64 (List.getD (waysOf n (bothA es)) i []))))], [(5004, .flat (.ints .i64 b))]⟩ hT (by kernel_rfl) (by kernel_rfl) ⟨(by omega), (by omega), trivial⟩ ?_
    refine aops_pure false ⟨true, [], 62, [.one (.ro (.ints .i64 (List.getD (waysOf n (bothA es)) i []))), .one (.fn 63 [])], []⟩ [.one (.ro (.ints .i64 (List.getD (waysOf n (bothA es)) i []))), .one (.fn 63 [])] (.one (.int .i64 (idxOf finB (List.getD (waysOf n (bothA es)) i [])))) ⟨24, [(3, .one (.rs (.rows (waysOf n (bothA es))))), (10, .one (.int .i64 (((List.length (waysOf n (bothA es))) : Nat) : Int))), (11, .one (.int .i64 (i : Int))), (14, .one (.rw 5004 0 b.length)), (18, .one (.ro (.ints .i64 (List.getD (waysOf n (bothA es)) i [])))), (19, .one (.int .i64 (idxOf finB (List.getD (waysOf n (bothA es)) i []))))], [(5004, .flat (.ints .i64 b))]⟩ (by kernel_rfl) (by kernel_rfl) (fun _ => trivial) rfl (fun _ => idxf_ints_ 63 finB (List.getD (waysOf n (bothA es)) i [])  (fun x hx => joined1 x)) ?_
    refine aops_run 3 [3, 4, 10, 11] [5004] [(b.length = b.length), ((b.length + 1) * 8 ≤ 140737488355328), ((b.length + 1) ≤ 9223372036854775807)] ⟨24, [(3, .one (.rs (.rows (waysOf n (bothA es))))), (4, .one (.rw 5004 0 (b.length + 1))), (10, .one (.int .i64 (((List.length (waysOf n (bothA es))) : Nat) : Int))), (11, .one (.int .i64 (i : Int)))], [(5004, .flat (.ints .i64 (b ++ [(idxOf finB (List.getD (waysOf n (bothA es)) i []))])))]⟩ hT (by kernel_rfl) (by kernel_rfl) ⟨(by omega), (by omega), (by omega), trivial⟩ ?_
    refine aops_end (by kernel_rfl) ?_
    refine awp_run [3, 4, 10, 11] [5004] [(-9223372036854775808 ≤ (((i + 1) : Nat) : Int) ∧ (((i + 1) : Nat) : Int) ≤ 9223372036854775807)] ⟨24, [(3, .one (.rs (.rows (waysOf n (bothA es))))), (4, .one (.rw 5004 0 (b.length + 1))), (10, .one (.int .i64 (((List.length (waysOf n (bothA es))) : Nat) : Int))), (11, .one (.int .i64 (((i + 1) : Nat) : Int)))], [(5004, .flat (.ints .i64 (b ++ [(idxOf finB (List.getD (waysOf n (bothA es)) i []))])))]⟩ hT (by kernel_rfl) ⟨(by omega), trivial⟩ ?_
    refine loop_end _ ?_ ⟨(i + 1), (b ++ [(idxOf finB (List.getD (waysOf n (bothA es)) i []))]), ⟨(by omega), (by rw [hb, List.range_succ, List.map_append]; rfl), rfl⟩, (by first | (simp only [lens]; done) | (simp only [Nat.zero_add]; done) | simp only [lens, Nat.zero_add])⟩
    omega
  ·
    try simp only [bs] at c4
    refine awp_exit ?_
    refine awp_weak (awk_seal 5004 (s' := ⟨24, [(3, .one (.rs (.rows (waysOf n (bothA es))))), (4, .one (.ro (.ints .i64 (List.take b.length b)))), (10, .one (.int .i64 (((List.length (waysOf n (bothA es))) : Nat) : Int))), (11, .one (.int .i64 (i : Int))), (12, .one (.bool (decide ((i : Int) < (((List.length (waysOf n (bothA es))) : Nat) : Int)))))], []⟩) (by kernel_rfl)) ?_
    rw [show (List.take b.length b) = b from List.take_of_length_le (by first | omega | simp)]
    refine awp_run_seq [2] [] [] ⟨24, [(2, .one (.ro (.ints .i64 b)))], []⟩ hT (by kernel_rfl) trivial ?_
    refine awp_ret ?_
    refine kRet.ret _ [] [] (.one (.ro (.ints .i64 b))) [] (by kernel_rfl) trivial ?_
    exact ⟨congrArg (fun x1 => (.one (.ro (.ints .i64 x1)) : AV)) (show b = (joinedOf n es) from by rw [hb, show i = n.toNat by omega]; rfl), rfl⟩
end Go.Ab
