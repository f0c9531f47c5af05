/- Of slices: Clone. -/
import Derived.Test.YtcmaffldmodacaaTab
set_option maxRecDepth 100000
namespace Go.Ab
open Go Go.Proofs
theorem clone_arcs (l : List Arc) (hl : l.length * 24 ≤ 140737488355328) : ACall Try.prog 61 [.one (.ro (.arcs l))] [] (fun ov oh => ov = .one (.rw 9001 0 l.length) ∧ oh = [(9001, .flat (.arcs l))]) := by
  refine acall_intro hT Try.func61 rfl (by kernel_rfl) rfl (by kernel_rfl) ?_
  refine awp_len 0 0 (.arcs l) (by kernel_rfl) (fun hlen => ?_)
  simp only [C0.len, maxLen] at hlen
  refine awp_run_seq [0] [] [] ⟨8, [(0, .one (.ro (.arcs l)))], []⟩ hT (by kernel_rfl) trivial ?_
  refine awp_seq ?_
  refine awp_seq (awp_region ?_)
  refine aops_run 1 [0, 3] [] [] ⟨8, [(0, .one (.ro (.arcs l))), (3, .one (.ro (.arcs l)))], []⟩ hT (by kernel_rfl) (by kernel_rfl) trivial ?_
  refine aops_isnil (v := (.ro (.arcs l))) false hT rfl rfl rfl rfl (by kernel_rfl) (show T 22 = some _ from rfl) rfl (by kernel_rfl) rfl ?_
  intro nb1 hnb1
  replace hnb1 : nb1 = true → l.length = 0 := hnb1
  refine aops_cut [0, 3, 4] [] ⟨8, [(0, .one (.ro (.arcs l))), (3, .one (.ro (.arcs l))), (4, .one (.bool nb1))], []⟩ (by kernel_rfl) ?_
  refine aops_cut [0, 4] [] ⟨8, [(0, .one (.ro (.arcs l))), (4, .one (.bool nb1))], []⟩ (by kernel_rfl) ?_
  refine aops_end_seq (by kernel_rfl) ?_
  refine awp_cond (b := nb1) (by kernel_rfl) (fun c1 => ?_) (fun c1 => ?_)
  ·
    refine awp_run_seq [2] [] [] ⟨8, [(2, .one .nils)], []⟩ hT (by kernel_rfl) trivial ?_
    refine awp_weak (awk_empty 5002 (.flat (.arcs [])) rfl (by decide) _) ?_
    refine awp_weak (awk_slot 2 (.one .nils) (.one (.rw 5002 0 0)) _ (by kernel_rfl) (.one (wkv_nils (o := .flat (.arcs [])) (by kernel_rfl)))) ?_
    refine awp_weak (awk_ren 5002 9001 (s' := ⟨8, [(2, .one (.rw 9001 0 0))], [(9001, .flat (.arcs []))]⟩) (by kernel_rfl)) ?_
    refine awp_ret ?_
    refine kRet.ret _ [9001] [] (.one (.rw 9001 0 0)) [(9001, .flat (.arcs []))] (by kernel_rfl) trivial ?_
    exact ⟨(by rw [List.eq_nil_of_length_eq_zero (hnb1 c1)]; rfl), (by rw [List.eq_nil_of_length_eq_zero (hnb1 c1)])⟩
  ·
    refine awp_skip ?_
    refine awp_run_seq [2] [105] [(0 = 0), ((0 + l.length) * 24 ≤ 140737488355328), ((0 + l.length) ≤ 9223372036854775807)] ⟨8, [(2, .one (.rw 105 0 (0 + l.length)))], [(105, .flat (.arcs l))]⟩ hT (by kernel_rfl) ⟨(by decide), (by omega), (by omega), trivial⟩ ?_
    refine awp_weak (awk_ren 105 9001 (s' := ⟨8, [(2, .one (.rw 9001 0 (0 + l.length)))], [(9001, .flat (.arcs l))]⟩) (by kernel_rfl)) ?_
    refine awp_ret ?_
    refine kRet.ret _ [9001] [] (.one (.rw 9001 0 (0 + l.length))) [(9001, .flat (.arcs l))] (by kernel_rfl) trivial ?_
    exact ⟨(by rw [Nat.zero_add]), (by kernel_rfl)⟩
end Go.Ab
