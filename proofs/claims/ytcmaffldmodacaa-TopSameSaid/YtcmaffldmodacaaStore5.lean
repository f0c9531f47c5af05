/- Of a store: a new one. -/
import Derived.Test.YtcmaffldmodacaaTab
set_option maxRecDepth 100000
namespace Go.Ab
open Go Go.Proofs
theorem store_new  : ACall Try.prog 21 [] [] (fun ov oh => ov = .one (.ptr 9001 0 0) ∧ oh = [(9001, .box 1 8 [(.int .i64 2), (.int .i64 0), (.int .i64 1), (.ro (.arcs [])), (.ro (.ints .i64 [])), (.rw 9002 0 0), .nils, .nils]), (9002, .recs (.stas []))]) := by
  refine acall_intro hT Try.func21 rfl (by kernel_rfl) rfl (by kernel_rfl) ?_
  refine awp_run_seq [] [] [] ⟨5, [], []⟩ hT (by kernel_rfl) trivial ?_
  refine awp_run_seq [0] [104] [] ⟨5, [(0, .one (.ptr 104 0 0))], [(104, .box 1 8 [(.int .i64 2), (.int .i64 0), (.int .i64 1), .nils, .nils, .nils, .nils, .nils])]⟩ hT (by kernel_rfl) trivial ?_
  refine awp_weak (awk_boxcell 104 3 1 8 [(.int .i64 2), (.int .i64 0), (.int .i64 1), .nils, .nils, .nils, .nils, .nils] (.nils) ((.ro (.arcs []))) _ (by kernel_rfl) rfl (wkv_nil0 rfl)) ?_
  refine awp_weak (awk_boxcell 104 4 1 8 [(.int .i64 2), (.int .i64 0), (.int .i64 1), (.ro (.arcs [])), .nils, .nils, .nils, .nils] (.nils) ((.ro (.ints .i64 []))) _ (by kernel_rfl) rfl (wkv_nil0 rfl)) ?_
  refine awp_weak (awk_empty 5902 (.recs (.stas [])) rfl (by decide) _) ?_
  refine awp_weak (awk_boxcell 104 5 1 8 [(.int .i64 2), (.int .i64 0), (.int .i64 1), (.ro (.arcs [])), (.ro (.ints .i64 [])), .nils, .nils, .nils] .nils (.rw 5902 0 0) _ (by kernel_rfl) rfl (wkv_nils (o := .recs (.stas [])) (by kernel_rfl))) ?_
  refine awp_weak (awk_ren 104 9001 (s' := ⟨5, [(0, .one (.ptr 9001 0 0))], [(5902, .recs (.stas [])), (9001, .box 1 8 [(.int .i64 2), (.int .i64 0), (.int .i64 1), (.ro (.arcs [])), (.ro (.ints .i64 [])), (.rw 5902 0 0), .nils, .nils])]⟩) (by kernel_rfl)) ?_
  refine awp_weak (awk_ren 5902 9002 (s' := ⟨5, [(0, .one (.ptr 9001 0 0))], [(9001, .box 1 8 [(.int .i64 2), (.int .i64 0), (.int .i64 1), (.ro (.arcs [])), (.ro (.ints .i64 [])), (.rw 9002 0 0), .nils, .nils]), (9002, .recs (.stas []))]⟩) (by kernel_rfl)) ?_
  refine awp_ret ?_
  refine kRet.ret _ [9001, 9002] [] (.one (.ptr 9001 0 0)) [(9001, .box 1 8 [(.int .i64 2), (.int .i64 0), (.int .i64 1), (.ro (.arcs [])), (.ro (.ints .i64 [])), (.rw 9002 0 0), .nils, .nils]), (9002, .recs (.stas []))] (by kernel_rfl) trivial ?_
  exact ⟨(by kernel_rfl), (by kernel_rfl)⟩

end Go.Ab
