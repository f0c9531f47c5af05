/- Parts of the proof, without conditions. -/
import Derived.Test.YtlmbjjbcdgckfaaDoorKk
import Derived.Test.YtlmbjjbcdgckfaaDoorTab
import Derived.Test.YtlmbjjbcdgckfaaDoorQ4
import Derived.Test.YtlmbjjbcdgckfaaDoorQ5
import Derived.Test.YtlmbjjbcdgckfaaDoorQ0
import Derived.Test.YtlmbjjbcdgckfaaDoorQ3
import Derived.Test.YtlmbjjbcdgckfaaDoorQ2
set_option maxRecDepth 100000
namespace Go.Ab
open Go Go.Proofs
abbrev ZbfG (g : Bool) : Prop := g = true → g = true
abbrev ZbfL (g : Bool) : Prop := g = true → (0 < 1)
abbrev ZbfT (g : Bool) : Prop := g = true → (g = true → g = true)
abbrev Zbf22 := ([(.i 0), (.i 0), (.i 0), .nils] : List V1)
abbrev Zbf0 := ((108, .box 1 4 Zbf22) : Nat × Obj)
abbrev Zbf9 (a0 : Int) (a1 : Int) (a2 : Int) (a3 : List Arc) := ([(.i a0), (.i a1), (.i a2), (.ro (.arcs a3))] : List V1)
abbrev Zbf1 (a0 : Int) (a1 : Int) (a2 : Int) (a3 : List Arc) := ((104, .box 1 4 (Zbf9 a0 a1 a2 a3)) : Nat × Obj)
abbrev Zbf2 (a0 : List (Int × List Int)) (a1 : List (Int × List Int)) := ((58, .i (((List.length (a0 ++ a1)) : Nat) : Int)) : Nat × AV)
abbrev Zbf3 (a0 : List (Int × List Int)) (a1 : List (Int × List Int)) (a2) := ((.ro (.ints .i64 ((List.getD (a0 ++ a1) a2 (0, [])).2))) : V1)
abbrev Zbf4 (a0 : List (Int × List Int)) (a1 : List (Int × List Int)) := ((57, .w 157 (List.length (a0 ++ a1))) : Nat × AV)
abbrev Zbf5 (a0 : List Int) := ((1, .w 153 a0.length) : Nat × AV)
abbrev Zbf6 (a0 : List (Int × List Int)) (a1 : List (Int × List Int)) (a2) (a3 : List Int) (a4 : Int) (a5 : Int) := ((18, .i (max (0 : Int) (min ((List.getD (a0 ++ a1) a2 (0, [])).1) ((List.getD a3 (Int.toNat a4) 0) - a5)))) : Nat × AV)
abbrev Zbf7 := ([(.i 0), (.i 0), (.i 0), (.w 9001 0)] : List V1)
abbrev Zbf8 (a0 : Int) (a1 : Int) (a2 : Int) (a3 : List Arc) (a4 : Int) (a5 : Int) (a6 : List Int) := ((.i (flowErr a0 a1 a2 (List.set a3 (Int.toNat a4) (⟨((List.getD a3 (Int.toNat a4) default).src), ((List.getD a3 (Int.toNat a4) default).dst), a5⟩)) a6)) : V1)
abbrev Zbf10 (a0 : List Arc) (a1 : Int) (a2 : Int) := ((196, .fa (List.set a0 (Int.toNat a1) (⟨((List.getD a0 (Int.toNat a1) default).src), ((List.getD a0 (Int.toNat a1) default).dst), a2⟩))) : Nat × Obj)
abbrev Zbf11 (a0 : List (Int × List Int)) (a1 : List (Int × List Int)) (a2) := ((80, .i (((List.length ((List.getD (a0 ++ a1) a2 (0, [])).2)) : Nat) : Int)) : Nat × AV)
abbrev Zbf12 (a0 : List (Int × List Int)) (a1 : List (Int × List Int)) := ((157, .recs (.pieces (a0 ++ a1))) : Nat × Obj)
abbrev Zbf13 (a0 : Int) (a1 : Int) (a2 : Int) (a3 : List Arc) (a4 : Int) (a5 : Int) := ([(.i a0), (.i a1), (.i a2), (.w 9001 ((List.set a3 (Int.toNat a4) (⟨((List.getD a3 (Int.toNat a4) default).src), ((List.getD a3 (Int.toNat a4) default).dst), a5⟩)).length))] : List V1)
abbrev Zbf14 (a0) := ((59, .i (a0 : Int)) : Nat × AV)
abbrev Zbf15 (a0 : List (Int × List Int)) (a1 : List (Int × List Int)) (a2) := ((117, .box 1 2 [(.i ((List.getD (a0 ++ a1) a2 (0, [])).1)), (Zbf3 a0 a1 a2)]) : Nat × Obj)
abbrev Zbf16 (a0 : List Arc) (a1 : Int) (a2 : Int) := ((9001, .fa (List.set a0 (Int.toNat a1) (⟨((List.getD a0 (Int.toNat a1) default).src), ((List.getD a0 (Int.toNat a1) default).dst), a2⟩))) : Nat × Obj)
abbrev Zbf17 (a0 : List Int) := ((1, .one (.ro (.ints .i64 a0))) : Nat × AV)
abbrev Zbf18 (a0 : List Int) (a1 : List (Int × List Int)) (a2 : List (Int × List Int)) (a3) (a4) (a5 : List Int) (a6 : Int) (a7 : Int) := ((153, .fi (List.set a0 (Int.toNat (List.getD ((List.getD (a1 ++ a2) a3 (0, [])).2) a4 0)) ((List.getD a0 (Int.toNat (List.getD ((List.getD (a1 ++ a2) a3 (0, [])).2) a4 0)) 0) - (max (0 : Int) (min ((List.getD (a1 ++ a2) a3 (0, [])).1) ((List.getD a5 (Int.toNat a6) 0) - a7)))))) : Nat × Obj)
abbrev Zbf19 (a0 : Int) (a1 : Int) (a2 : Int) (a3 : List Arc) := ([(.i a0), (.i a1), (.i a2), (.w 196 a3.length)] : List V1)
abbrev Zbf20 := ([(108, .box 1 4 Zbf7), (5009, .fi []), (9001, .fa [])] : List (Nat × Obj))
abbrev Zbf21 := ([(108, .box 1 4 Zbf7), (9001, .fa []), (9002, .fi [])] : List (Nat × Obj))
abbrev Zbf23 := ([(9001, .fa []), (9002, .fi [])] : List (Nat × Obj))
abbrev Zbf24 (a0 : Int) (a1 : Int) (a2 : Int) (a3 : List Arc) (a4 : Int) (a5 : Int) := ([(.i a0), (.i a1), (.i a2), (.w 206 ((List.set a3 (Int.toNat a4) (⟨((List.getD a3 (Int.toNat a4) default).src), ((List.getD a3 (Int.toNat a4) default).dst), a5⟩)).length))] : List V1)
abbrev Zbf25 (a0 : List Arc) (a1 : Int) (a2 : Int) := ((206, .fa (List.set a0 (Int.toNat a1) (⟨((List.getD a0 (Int.toNat a1) default).src), ((List.getD a0 (Int.toNat a1) default).dst), a2⟩))) : Nat × Obj)
theorem rep_cap (n s t : Int) (es : List Arc) (f : List Int) (k takes : Int) : ACall Tryd.prog 15 [.agg (Zbf9 n s t es), .one (.ro (.ints .i64 f)), .i k, .i takes] [] (fun ov oh => ∃ (N S T : Int) (A : List Arc) (g : List Int) (v e : Int), (RepRes n s t (setCap es k.toNat takes) (capErr2 n s t es f k takes) N S T A g v e) ∧ ov = .tup [(true, [(.i N), (.i S), (.i T), (.w 9001 A.length)]), (false, [(.w 9002 g.length)]), (false, [(.i v)]), (false, [(.i e)])] ∧ oh = [(9001, .fa A), (9002, .fi g)]) := by
 refine acall_intro hT Tryd.func15 rfl (by kernel_rfl) rfl (by kernel_rfl) ?_
 refine kq [] ⟨111, [(Zbf17 f), (2, .i k), (3, .i takes), (4, .p 104), (8, .p 108)], [(Zbf1 n s t es), Zbf0]⟩ hT (by kernel_rfl) trivial ?_
 refine awp_seq ?_
 refine awp_seq (awp_region ?_)
 refine ko 2 [(0 < 1)] ⟨111, [(Zbf17 f), (2, .i k), (3, .i takes), (4, .p 104), (8, .p 108), (21, .agg (Zbf9 n s t es)), (22, .one (.ro (.ints .i64 f)))], [(Zbf1 n s t es), Zbf0]⟩ hT (by kernel_rfl) (by kernel_rfl) ⟨(by decide), trivial⟩ ?_
 refine aops_pure false ⟨true, [], 28, [.agg (Zbf9 n s t es), .one (.ro (.ints .i64 f))], []⟩ [.agg (Zbf9 n s t es), .one (.ro (.ints .i64 f))] (.i (repErr n s t es f)) ⟨111, [(Zbf17 f), (2, .i k), (3, .i takes), (4, .p 104), (8, .p 108), (21, .agg (Zbf9 n s t es)), (22, .one (.ro (.ints .i64 f))), (23, .i (repErr n s t es f))], [(Zbf1 n s t es), Zbf0]⟩ (by kernel_rfl) (by kernel_rfl) (fun _ => trivial) rfl (fun _ => rep_check n s t es f) ?_
 refine ko 1 [] ⟨111, [(Zbf17 f), (2, .i k), (3, .i takes), (4, .p 104), (8, .p 108), (12, .i (repErr n s t es f))], [(Zbf1 n s t es), Zbf0]⟩ hT (by kernel_rfl) (by kernel_rfl) trivial ?_
 refine aops_end_seq (by kernel_rfl) ?_
 refine kq [] ⟨111, [(Zbf17 f), (2, .i k), (3, .i takes), (4, .p 104), (8, .p 108), (12, .i (repErr n s t es f)), (25, .one (.bool (decide ((repErr n s t es f) ≠ 0))))], [(Zbf1 n s t es), Zbf0]⟩ hT (by kernel_rfl) trivial ?_
 refine awp_cond (b := (decide ((repErr n s t es f) ≠ 0))) (by kernel_rfl) (fun c2 => ?_) (fun c2 => ?_)
 ·
  try simp only [bs] at c2
  refine kq [(0 < 1)] ⟨111, [(8, .p 108), (9, .one .nils), (10, .i 0), (11, .i (repErr n s t es f))], [Zbf0]⟩ hT (by kernel_rfl) ⟨(by decide), trivial⟩ ?_
  refine awp_weak (awk_empty 6803 (.fa []) rfl (by decide) _) ?_
  refine awp_weak (awk_boxcell 108 3 1 4 Zbf22 .nils (.w 6803 0) _ (by kernel_rfl) rfl (wkv_nils (o := .fa []) (by kernel_rfl))) ?_
  refine awp_weak (awk_empty 5009 (.fi []) rfl (by decide) _) ?_
  refine awp_weak (awk_slot 9 (.one .nils) (.w 5009 0) _ (by kernel_rfl) (.one (wkv_nils (o := .fi []) (by kernel_rfl)))) ?_
  refine awp_weak (awk_ren 6803 9001 (s' := ⟨111, [(8, .p 108), (9, .w 5009 0), (10, .i 0), (11, .i (repErr n s t es f))], Zbf20⟩) (by kernel_rfl)) ?_
  refine awp_weak (awk_ren 5009 9002 (s' := ⟨111, [(8, .p 108), (9, .w 9002 0), (10, .i 0), (11, .i (repErr n s t es f))], Zbf21⟩) (by kernel_rfl)) ?_
  refine awp_ret ?_
  refine kRet.ret _ [9001, 9002] [(0 < 1)] (.tup [(true, Zbf7), (false, [(.w 9002 0)]), (false, [(.i 0)]), (false, [(.i (repErr n s t es f))])]) Zbf23 (by kernel_rfl) ⟨(by decide), trivial⟩ ?_
  exact ⟨0, 0, 0, [], [], 0, (repErr n s t es f), (by rw [capErr2_rep c2]; exact RepRes.bad c2), (by kernel_rfl), (by kernel_rfl)⟩
 ·
  try simp only [bs] at c2
  have hX : (repErr n s t es f) = 0 := by omega
  obtain ⟨hfo, hF, hgv⟩ := repErr_ok hX
  have hok := hfo.net
  have hE := hok.err
  have h1 := hok.n1
  have h2 := hok.n2
  have h3 := hok.len
  have hgn := gone_nn hfo hgv
  have hfl := hfo.fin.len
  refine awp_skip ?_
  refine awp_seq ?_
  refine kq [(ZbfT (!(decide (k < 0)))), (ZbfL (!(decide (k < 0)))), (ZbfT (!(decide (k < 0)))), (ZbfT (!(decide (k < 0)))), (ZbfT (!(decide (k < 0)))), (ZbfG (!(decide (k < 0))))] ⟨111, [(Zbf17 f), (2, .i k), (3, .i takes), (4, .p 104), (8, .p 108), (36, .one (.bool ((decide (k < 0)) || (decide (((es.length : Nat) : Int) ≤ k)))))], [(Zbf1 n s t es), Zbf0]⟩ hT (by kernel_rfl) ⟨(fun _ h => h), (fun _ => by decide), (fun _ h => h), (fun _ h => h), (fun _ h => h), id, trivial⟩ ?_
  refine awp_cond (b := ((decide (k < 0)) || (decide (((es.length : Nat) : Int) ≤ k)))) (by kernel_rfl) (fun c4 => ?_) (fun c4 => ?_)
  ·
   try simp only [bs] at c4
   refine kq [(0 < 1)] ⟨111, [(8, .p 108), (9, .one .nils), (10, .i 0), (11, .i 5)], [Zbf0]⟩ hT (by kernel_rfl) ⟨(by decide), trivial⟩ ?_
   refine awp_weak (awk_empty 6803 (.fa []) rfl (by decide) _) ?_
   refine awp_weak (awk_boxcell 108 3 1 4 Zbf22 .nils (.w 6803 0) _ (by kernel_rfl) rfl (wkv_nils (o := .fa []) (by kernel_rfl))) ?_
   refine awp_weak (awk_empty 5009 (.fi []) rfl (by decide) _) ?_
   refine awp_weak (awk_slot 9 (.one .nils) (.w 5009 0) _ (by kernel_rfl) (.one (wkv_nils (o := .fi []) (by kernel_rfl)))) ?_
   refine awp_weak (awk_ren 6803 9001 (s' := ⟨111, [(8, .p 108), (9, .w 5009 0), (10, .i 0), (11, .i 5)], Zbf20⟩) (by kernel_rfl)) ?_
   refine awp_weak (awk_ren 5009 9002 (s' := ⟨111, [(8, .p 108), (9, .w 9002 0), (10, .i 0), (11, .i 5)], Zbf21⟩) (by kernel_rfl)) ?_
   refine awp_ret ?_
   refine kRet.ret _ [9001, 9002] [(0 < 1)] (.tup [(true, Zbf7), (false, [(.w 9002 0)]), (false, [(.i 0)]), (false, [(.i 5)])]) Zbf23 (by kernel_rfl) ⟨(by decide), trivial⟩ ?_
   exact ⟨0, 0, 0, [], [], 0, 5, (by rw [capErr2_k hX c4]; exact RepRes.bad (by decide)), (by kernel_rfl), (by kernel_rfl)⟩
  ·
   try simp only [bs] at c4
   refine awp_skip ?_
   refine awp_seq ?_
   refine kq [(ZbfT (!(decide (takes < 0)))), (ZbfG (!(decide (takes < 0))))] ⟨111, [(Zbf17 f), (2, .i k), (3, .i takes), (4, .p 104), (8, .p 108), (43, .one (.bool ((decide (takes < 0)) || (decide ((10000 : Int) < takes)))))], [(Zbf1 n s t es), Zbf0]⟩ hT (by kernel_rfl) ⟨(fun _ h => h), id, trivial⟩ ?_
   refine awp_cond (b := ((decide (takes < 0)) || (decide ((10000 : Int) < takes)))) (by kernel_rfl) (fun c6 => ?_) (fun c6 => ?_)
   ·
    try simp only [bs] at c6
    refine kq [(0 < 1)] ⟨111, [(8, .p 108), (9, .one .nils), (10, .i 0), (11, .i 1)], [Zbf0]⟩ hT (by kernel_rfl) ⟨(by decide), trivial⟩ ?_
    refine awp_weak (awk_empty 6803 (.fa []) rfl (by decide) _) ?_
    refine awp_weak (awk_boxcell 108 3 1 4 Zbf22 .nils (.w 6803 0) _ (by kernel_rfl) rfl (wkv_nils (o := .fa []) (by kernel_rfl))) ?_
    refine awp_weak (awk_empty 5009 (.fi []) rfl (by decide) _) ?_
    refine awp_weak (awk_slot 9 (.one .nils) (.w 5009 0) _ (by kernel_rfl) (.one (wkv_nils (o := .fi []) (by kernel_rfl)))) ?_
    refine awp_weak (awk_ren 6803 9001 (s' := ⟨111, [(8, .p 108), (9, .w 5009 0), (10, .i 0), (11, .i 1)], Zbf20⟩) (by kernel_rfl)) ?_
    refine awp_weak (awk_ren 5009 9002 (s' := ⟨111, [(8, .p 108), (9, .w 9002 0), (10, .i 0), (11, .i 1)], Zbf21⟩) (by kernel_rfl)) ?_
    refine awp_ret ?_
    refine kRet.ret _ [9001, 9002] [(0 < 1)] (.tup [(true, Zbf7), (false, [(.w 9002 0)]), (false, [(.i 0)]), (false, [(.i 1)])]) Zbf23 (by kernel_rfl) ⟨(by decide), trivial⟩ ?_
    exact ⟨0, 0, 0, [], [], 0, 1, (by rw [capErr2_takes hX (by omega) c6]; exact RepRes.bad (by decide)), (by kernel_rfl), (by kernel_rfl)⟩
   ·
    try simp only [bs] at c6
    have hY : (capErr2 n s t es f k takes) = 0 := capErr2_ok hX (by omega) (by omega)
    have hk0 : 0 ≤ k := by omega
    have hk1 : k < es.length := by omega
    refine awp_skip ?_
    refine awp_seq (awp_region ?_)
    refine ko 2 [(0 < 1)] ⟨111, [(Zbf17 f), (2, .i k), (3, .i takes), (4, .p 104), (8, .p 108), (46, .agg (Zbf9 n s t es)), (47, .one (.ro (.ints .i64 f)))], [(Zbf1 n s t es), Zbf0]⟩ hT (by kernel_rfl) (by kernel_rfl) ⟨(by decide), trivial⟩ ?_
    refine aops_call [] [] false ⟨true, [], 31, [.agg (Zbf9 n s t es), .one (.ro (.ints .i64 f))], []⟩ [.agg (Zbf9 n s t es), .one (.ro (.ints .i64 f))] (sm := ⟨111, [(Zbf17 f), (2, .i k), (3, .i takes), (4, .p 104), (8, .p 108), (46, .agg (Zbf9 n s t es)), (47, .one (.ro (.ints .i64 f))), (48, .whn false (.one .any))], [(Zbf1 n s t es), Zbf0]⟩) (by kernel_rfl) (by kernel_rfl) (by decide) (fun _ => trivial) rfl (fun _ => flow_split n s t es f) (fun _ v Hr hv => ?_) (fun h => by cases h)
    obtain ⟨ways, rounds, e1, hso, rfl, rfl⟩ := hv
    refine ⟨⟨111, [(Zbf17 f), (2, .i k), (3, .i takes), (4, .p 104), (8, .p 108), (46, .agg (Zbf9 n s t es)), (47, .one (.ro (.ints .i64 f))), (48, .tup [(false, [(.rs (.pieces ways))]), (false, [(.rs (.pieces rounds))]), (false, [(.i e1)])])], [(Zbf1 n s t es), Zbf0]⟩, by kernel_rfl, ?_⟩
    refine ko 7 [] ⟨111, [(Zbf17 f), (2, .i k), (3, .i takes), (4, .p 104), (8, .p 108), (13, .one (.rs (.pieces ways))), (14, .one (.rs (.pieces rounds)))], [(Zbf1 n s t es), Zbf0]⟩ hT (by kernel_rfl) (by kernel_rfl) trivial ?_
    refine aops_end_seq (by kernel_rfl) ?_
    have hpc := split_pcs hso
    have hst := CapInv.start (k := k) (takes := takes) hfo hgn hso (by omega)
    have hpok : ∀ p ∈ (rounds ++ ways), PcOk es p := fun p hp => by rcases hpc p hp with q | ⟨x, q⟩; exact ⟨_, _, q⟩; exact ⟨_, _, q⟩
    have hwl := split_len hso
    have hrl := split_rounds hso
    have hLl : (rounds ++ ways).length = rounds.length + ways.length := List.length_append
    refine awp_seq (awp_region ?_)
    refine ko 1 [] ⟨111, [(2, .i k), (3, .i takes), (4, .p 104), (8, .p 108), (13, .one (.rs (.pieces ways))), (14, .one (.rs (.pieces rounds))), (52, .one (.ro (.ints .i64 f)))], [(Zbf1 n s t es), Zbf0]⟩ hT (by kernel_rfl) (by kernel_rfl) trivial ?_
    refine aops_call [] [(9001, 153)] false ⟨true, [], 30, [.one (.ro (.ints .i64 f))], []⟩ [.one (.ro (.ints .i64 f))] (sm := ⟨111, [(2, .i k), (3, .i takes), (4, .p 104), (8, .p 108), (13, .one (.rs (.pieces ways))), (14, .one (.rs (.pieces rounds))), (52, .one (.ro (.ints .i64 f))), (53, .whn false (.one .any))], [(Zbf1 n s t es), Zbf0]⟩) (by kernel_rfl) (by kernel_rfl) (by decide) (fun _ => trivial) rfl (fun _ => clone_ints f (by first | omega | (simp; omega))) (fun _ v Hr hv => ?_) (fun h => by cases h)
    obtain ⟨rfl, rfl⟩ := hv
    refine ⟨⟨111, [(2, .i k), (3, .i takes), (4, .p 104), (8, .p 108), (13, .one (.rs (.pieces ways))), (14, .one (.rs (.pieces rounds))), (52, .one (.ro (.ints .i64 f))), (53, .w 153 f.length)], [(Zbf1 n s t es), Zbf0, (153, .fi f)]⟩, by kernel_rfl, ?_⟩
    refine ko 1 [] ⟨111, [(Zbf5 f), (2, .i k), (3, .i takes), (4, .p 104), (8, .p 108), (13, .one (.rs (.pieces ways))), (14, .one (.rs (.pieces rounds)))], [(Zbf1 n s t es), Zbf0, (153, .fi f)]⟩ hT (by kernel_rfl) (by kernel_rfl) trivial ?_
    refine aops_end_seq (by kernel_rfl) ?_
    refine awp_seq ?_
    refine awp_seq (awp_region ?_)
    refine ko 3 [] ⟨111, [(Zbf5 f), (2, .i k), (3, .i takes), (4, .p 104), (8, .p 108), (56, .w 156 2)], [(Zbf1 n s t es), Zbf0, (153, .fi f), (156, .box 2 1 [(.rs (.pieces rounds)), (.rs (.pieces ways))])]⟩ hT (by kernel_rfl) (by kernel_rfl) trivial ?_
    refine aops_call [(1, 156)] [(9001, 157)] false ⟨true, [], 32, [.w 1 2], [(1, .box 2 1 [(.rs (.pieces rounds)), (.rs (.pieces ways))])]⟩ [.w 1 2] (sm := ⟨111, [(Zbf5 f), (2, .i k), (3, .i takes), (4, .p 104), (8, .p 108), (56, .w 156 2), (57, .whn false (.one .any))], [(Zbf1 n s t es), Zbf0, (153, .fi f), (156, .box 2 1 [(.rs (.pieces rounds)), (.rs (.pieces ways))])]⟩) (by kernel_rfl) (by kernel_rfl) (by decide) (fun _ => trivial) rfl (fun _ => concat_pieces rounds ways (by first | omega | (simp; omega))) (fun _ v Hr hv => ?_) (fun h => by cases h)
    obtain ⟨rfl, rfl⟩ := hv
    refine ⟨⟨111, [(Zbf5 f), (2, .i k), (3, .i takes), (4, .p 104), (8, .p 108), (56, .w 156 2), (Zbf4 rounds ways)], [(Zbf1 n s t es), Zbf0, (153, .fi f), (156, .box 2 1 [(.rs (.pieces rounds)), (.rs (.pieces ways))]), (Zbf12 rounds ways)]⟩, by kernel_rfl, ?_⟩
    refine ko 2 [] ⟨111, [(Zbf5 f), (2, .i k), (3, .i takes), (4, .p 104), (8, .p 108), (Zbf4 rounds ways), (Zbf2 rounds ways), (59, .i 0)], [(Zbf1 n s t es), Zbf0, (153, .fi f), (Zbf12 rounds ways)]⟩ hT (by kernel_rfl) (by kernel_rfl) trivial ?_
    refine aops_end_seq (by kernel_rfl) ?_
    refine awp_block ?_
    refine awp_loop (I := fun κ σ => ∃ (i : Nat) (g : List Int), ((i ≤ (rounds ++ ways).length) ∧ (CapInv s t es f k takes g ((rounds ++ ways).drop i)) ∧ (rounds ++ ways).length - i = κ) ∧ σ = ⟨111, [(Zbf5 g), (2, .i k), (3, .i takes), (4, .p 104), (8, .p 108), (Zbf4 rounds ways), (Zbf2 rounds ways), (Zbf14 i)], [(Zbf1 n s t es), Zbf0, (153, .fi g), (Zbf12 rounds ways)]⟩) _ ⟨0, f, ⟨(by omega), (by exact hst), rfl⟩, (by kernel_rfl)⟩ ?_
    rintro κ _ ⟨i, g, ⟨hi, hC, rfl⟩, rfl⟩
    have hgl := hC.len
    have h10 := hC.in10 (fun p hp => hpok p (List.mem_of_mem_drop hp)) hfo
    refine kq [] ⟨111, [(Zbf5 g), (2, .i k), (3, .i takes), (4, .p 104), (8, .p 108), (Zbf4 rounds ways), (Zbf2 rounds ways), (Zbf14 i), (60, .one (.bool (decide ((i : Int) < (((List.length (rounds ++ ways)) : Nat) : Int)))))], [(Zbf1 n s t es), Zbf0, (153, .fi g), (Zbf12 rounds ways)]⟩ hT (by kernel_rfl) trivial ?_
    refine awp_seq ?_
    refine awp_cond (b := (decide ((i : Int) < (((List.length (rounds ++ ways)) : Nat) : Int)))) (by kernel_rfl) (fun c11 => ?_) (fun c11 => ?_)
    ·
     try simp only [bs] at c11
     have hil : i < (rounds ++ ways).length := by omega
     have hpm := getD_mem (d := ((0, []) : Int × List Int)) hil
     obtain ⟨px, py, hP⟩ := hpok _ hpm
     have hC2 := hC
     rw [drop_cons ((0, []) : Int × List Int) hil] at hC2
     have hCs := hC2.step hk0 (hpc _ hpm)
     have hPl : (List.getD (rounds ++ ways) i (0, [])).2.length ≤ es.length := by have := nodup_int (n := (es.length : Int)) hP.nd (fun v hv => hP.kr v hv); omega
     have hgk := h10 k.toNat (by omega)
     refine awp_skip ?_
     refine awp_seq ?_
     refine awp_block ?_
     refine kq [((0 : Int) ≤ (i : Int)), ((i : Int) < (((List.length (rounds ++ ways)) : Nat) : Int)), (i < (List.length (rounds ++ ways))), (0 < 1)] ⟨111, [(Zbf5 g), (2, .i k), (3, .i takes), (4, .p 104), (8, .p 108), (17, .p 117), (Zbf4 rounds ways), (Zbf2 rounds ways), (Zbf14 i)], [(Zbf1 n s t es), Zbf0, (Zbf15 rounds ways i), (153, .fi g), (Zbf12 rounds ways)]⟩ hT (by kernel_rfl) ⟨(by omega), (by omega), (by omega), (by decide), trivial⟩ ?_
     refine awp_seq ?_
     refine awp_seq (awp_region ?_)
     refine ko 3 [(0 < 1)] ⟨111, [(Zbf5 g), (2, .i k), (3, .i takes), (4, .p 104), (8, .p 108), (17, .p 117), (Zbf4 rounds ways), (Zbf2 rounds ways), (Zbf14 i), (64, .one (Zbf3 rounds ways i)), (65, .i k)], [(Zbf1 n s t es), Zbf0, (Zbf15 rounds ways i), (153, .fi g), (Zbf12 rounds ways)]⟩ hT (by kernel_rfl) (by kernel_rfl) ⟨(by decide), trivial⟩ ?_
     refine aops_pure false ⟨true, [], 33, [.one (Zbf3 rounds ways i), .i k], []⟩ [.one (Zbf3 rounds ways i), .i k] (.one (.bool (decide ((0 : Int) ≤ rk ((List.getD (rounds ++ ways) i (0, [])).2) k)))) ⟨111, [(Zbf5 g), (2, .i k), (3, .i takes), (4, .p 104), (8, .p 108), (17, .p 117), (Zbf4 rounds ways), (Zbf2 rounds ways), (Zbf14 i), (64, .one (Zbf3 rounds ways i)), (65, .i k), (66, .one (.bool (decide ((0 : Int) ≤ rk ((List.getD (rounds ++ ways) i (0, [])).2) k))))], [(Zbf1 n s t es), Zbf0, (Zbf15 rounds ways i), (153, .fi g), (Zbf12 rounds ways)]⟩ (by kernel_rfl) (by kernel_rfl) (fun _ => trivial) rfl (fun _ => contains_ints ((List.getD (rounds ++ ways) i (0, [])).2) k) ?_
     refine ko 1 [] ⟨111, [(Zbf5 g), (2, .i k), (3, .i takes), (4, .p 104), (8, .p 108), (17, .p 117), (Zbf4 rounds ways), (Zbf2 rounds ways), (Zbf14 i), (67, .one (.bool (!(decide ((0 : Int) ≤ rk ((List.getD (rounds ++ ways) i (0, [])).2) k)))))], [(Zbf1 n s t es), Zbf0, (Zbf15 rounds ways i), (153, .fi g), (Zbf12 rounds ways)]⟩ hT (by kernel_rfl) (by kernel_rfl) trivial ?_
     refine aops_end_seq (by kernel_rfl) ?_
     refine awp_cond (b := (!(decide ((0 : Int) ≤ rk ((List.getD (rounds ++ ways) i (0, [])).2) k)))) (by kernel_rfl) (fun c13 => ?_) (fun c13 => ?_)
     ·
      try simp only [bs] at c13
      have hnm : k ∉ (List.getD (rounds ++ ways) i (0, [])).2 := fun q => by have := mem_rk.1 q; omega
      rw [capStep_no hnm] at hCs
      refine awp_exit ?_
      refine kr [(-9223372036854775808 ≤ (((i + 1) : Nat) : Int) ∧ (((i + 1) : Nat) : Int) ≤ 9223372036854775807)] ⟨111, [(Zbf5 g), (2, .i k), (3, .i takes), (4, .p 104), (8, .p 108), (Zbf4 rounds ways), (Zbf2 rounds ways), (59, .i (((i + 1) : Nat) : Int))], [(Zbf1 n s t es), Zbf0, (153, .fi g), (Zbf12 rounds ways)]⟩ hT (by kernel_rfl) ⟨(by omega), trivial⟩ ?_
      refine loop_end _ ?_ ⟨(i + 1), g, ⟨(by omega), (by first | exact hCs | (rw [hg2f]; exact hCs)), rfl⟩, (by kernel_rfl)⟩
      omega
     ·
      try simp only [bs] at c13
      have hmem : k ∈ (List.getD (rounds ++ ways) i (0, [])).2 := mem_rk.2 (by omega)
      rw [capStep_yes hmem] at hCs
      have hls := capLess_in (k := k) (takes := takes) (g := g) hP.a1
      refine awp_skip ?_
      refine awp_seq (awp_still [1, 2, 3, 4, 8, 17, 18, 57, 58, 59] [104, 108, 117, 153, 157] [(0 < 1), ((0 : Int) ≤ k), (k < ((g.length : Nat) : Int)), ((Int.toNat k) < g.length), (-9223372036854775808 ≤ ((List.getD g (Int.toNat k) 0) - takes) ∧ ((List.getD g (Int.toNat k) 0) - takes) ≤ 9223372036854775807)] ⟨111, [(Zbf5 g), (2, .i k), (3, .i takes), (4, .p 104), (8, .p 108), (17, .p 117), (Zbf6 rounds ways i g k takes), (Zbf4 rounds ways), (Zbf2 rounds ways), (Zbf14 i)], [(Zbf1 n s t es), Zbf0, (Zbf15 rounds ways i), (153, .fi g), (Zbf12 rounds ways)]⟩ (by kernel_rfl) (by kernel_rfl) hT (by kernel_rfl) ⟨(by decide), (by omega), (by omega), (by omega), (by omega), trivial⟩ ?_)
      refine kq [(0 < 1)] ⟨111, [(Zbf5 g), (2, .i k), (3, .i takes), (4, .p 104), (8, .p 108), (Zbf6 rounds ways i g k takes), (Zbf4 rounds ways), (Zbf2 rounds ways), (Zbf14 i), (79, .one (Zbf3 rounds ways i)), (Zbf11 rounds ways i), (81, .i 0)], [(Zbf1 n s t es), Zbf0, (153, .fi g), (Zbf12 rounds ways)]⟩ hT (by kernel_rfl) ⟨(by decide), trivial⟩ ?_
      refine awp_block ?_
      refine awp_loop (I := fun κ σ => ∃ (j : Nat) (g2 : List Int), ((j ≤ (List.getD (rounds ++ ways) i (0, [])).2.length) ∧ (g2 = takeOff (capLess k takes g (List.getD (rounds ++ ways) i (0, []))) g ((List.getD (rounds ++ ways) i (0, [])).2.take j)) ∧ (List.getD (rounds ++ ways) i (0, [])).2.length - j = κ) ∧ σ = ⟨111, [(Zbf5 g2), (2, .i k), (3, .i takes), (4, .p 104), (8, .p 108), (Zbf6 rounds ways i g k takes), (Zbf4 rounds ways), (Zbf2 rounds ways), (Zbf14 i), (79, .one (Zbf3 rounds ways i)), (Zbf11 rounds ways i), (81, .i (j : Int))], [(Zbf1 n s t es), Zbf0, (153, .fi g2), (Zbf12 rounds ways)]⟩) _ ⟨0, g, ⟨(by omega), (by rfl), rfl⟩, (by kernel_rfl)⟩ ?_
      rintro κ _ ⟨j, g2, ⟨hj, hg2, rfl⟩, rfl⟩
      have hg2l : g2.length = g.length := by rw [hg2, takeOff_len]
      refine kq [] ⟨111, [(Zbf5 g2), (2, .i k), (3, .i takes), (4, .p 104), (8, .p 108), (Zbf6 rounds ways i g k takes), (Zbf4 rounds ways), (Zbf2 rounds ways), (Zbf14 i), (79, .one (Zbf3 rounds ways i)), (Zbf11 rounds ways i), (81, .i (j : Int)), (82, .one (.bool (decide ((j : Int) < (((List.length ((List.getD (rounds ++ ways) i (0, [])).2)) : Nat) : Int)))))], [(Zbf1 n s t es), Zbf0, (153, .fi g2), (Zbf12 rounds ways)]⟩ hT (by kernel_rfl) trivial ?_
      refine awp_seq ?_
      refine awp_cond (b := (decide ((j : Int) < (((List.length ((List.getD (rounds ++ ways) i (0, [])).2)) : Nat) : Int)))) (by kernel_rfl) (fun c16 => ?_) (fun c16 => ?_)
      ·
       try simp only [bs] at c16
       have hjl : j < (List.getD (rounds ++ ways) i (0, [])).2.length := by omega
       have hkr := hP.kr _ (getD_mem (d := 0) hjl)
       have hnow := takeOff_now (a := (capLess k takes g (List.getD (rounds ++ ways) i (0, [])))) (left := g) hjl hP.nd (fun q hq => (hP.kr q hq).1)
       rw [← hg2] at hnow
       have hga := h10 (List.getD (List.getD (rounds ++ ways) i (0, [])).2 j 0).toNat (by omega)
       have hstp := takeOff_step (a := (capLess k takes g (List.getD (rounds ++ ways) i (0, [])))) (left := g) hjl
       refine awp_skip ?_
       refine awp_seq ?_
       refine awp_block ?_
       refine kq [((0 : Int) ≤ (j : Int)), ((j : Int) < (((List.length ((List.getD (rounds ++ ways) i (0, [])).2)) : Nat) : Int))] ⟨111, [(Zbf5 g2), (2, .i k), (3, .i takes), (4, .p 104), (8, .p 108), (Zbf6 rounds ways i g k takes), (20, .i (List.getD ((List.getD (rounds ++ ways) i (0, [])).2) j 0)), (Zbf4 rounds ways), (Zbf2 rounds ways), (Zbf14 i), (79, .one (Zbf3 rounds ways i)), (Zbf11 rounds ways i), (81, .i (j : Int))], [(Zbf1 n s t es), Zbf0, (153, .fi g2), (Zbf12 rounds ways)]⟩ hT (by kernel_rfl) ⟨(by omega), (by omega), trivial⟩ ?_
       refine kr [((0 : Int) ≤ (List.getD ((List.getD (rounds ++ ways) i (0, [])).2) j 0)), ((List.getD ((List.getD (rounds ++ ways) i (0, [])).2) j 0) < ((g2.length : Nat) : Int)), ((Int.toNat (List.getD ((List.getD (rounds ++ ways) i (0, [])).2) j 0)) < g2.length), (-9223372036854775808 ≤ ((List.getD g2 (Int.toNat (List.getD ((List.getD (rounds ++ ways) i (0, [])).2) j 0)) 0) - (max (0 : Int) (min ((List.getD (rounds ++ ways) i (0, [])).1) ((List.getD g (Int.toNat k) 0) - takes)))) ∧ ((List.getD g2 (Int.toNat (List.getD ((List.getD (rounds ++ ways) i (0, [])).2) j 0)) 0) - (max (0 : Int) (min ((List.getD (rounds ++ ways) i (0, [])).1) ((List.getD g (Int.toNat k) 0) - takes)))) ≤ 9223372036854775807), ((0 : Int) ≤ (List.getD ((List.getD (rounds ++ ways) i (0, [])).2) j 0)), ((List.getD ((List.getD (rounds ++ ways) i (0, [])).2) j 0) < ((g2.length : Nat) : Int)), ((Int.toNat (List.getD ((List.getD (rounds ++ ways) i (0, [])).2) j 0)) < g2.length)] ⟨111, [(Zbf5 g2), (2, .i k), (3, .i takes), (4, .p 104), (8, .p 108), (Zbf6 rounds ways i g k takes), (Zbf4 rounds ways), (Zbf2 rounds ways), (Zbf14 i), (79, .one (Zbf3 rounds ways i)), (Zbf11 rounds ways i), (81, .i (j : Int))], [(Zbf1 n s t es), Zbf0, (Zbf18 g2 rounds ways i j g k takes), (Zbf12 rounds ways)]⟩ hT (by kernel_rfl) ⟨(by omega), (by omega), (by omega), (by omega), (by omega), (by omega), (by omega), trivial⟩ ?_
       refine kr [(-9223372036854775808 ≤ (((j + 1) : Nat) : Int) ∧ (((j + 1) : Nat) : Int) ≤ 9223372036854775807)] ⟨111, [(Zbf5 g2), (2, .i k), (3, .i takes), (4, .p 104), (8, .p 108), (Zbf6 rounds ways i g k takes), (Zbf4 rounds ways), (Zbf2 rounds ways), (Zbf14 i), (79, .one (Zbf3 rounds ways i)), (Zbf11 rounds ways i), (81, .i (((j + 1) : Nat) : Int))], [(Zbf1 n s t es), Zbf0, (Zbf18 g2 rounds ways i j g k takes), (Zbf12 rounds ways)]⟩ hT (by kernel_rfl) ⟨(by omega), trivial⟩ ?_
       refine loop_end _ ?_ ⟨(j + 1), (List.set g2 (Int.toNat (List.getD ((List.getD (rounds ++ ways) i (0, [])).2) j 0)) ((List.getD g2 (Int.toNat (List.getD ((List.getD (rounds ++ ways) i (0, [])).2) j 0)) 0) - (max (0 : Int) (min ((List.getD (rounds ++ ways) i (0, [])).1) ((List.getD g (Int.toNat k) 0) - takes))))), ⟨(by omega), (by rw [hstp, ← hg2]; rfl), rfl⟩, (by first | (simp only [Zbf0, Zbf1, Zbf2, Zbf3, Zbf4, Zbf5, Zbf6, Zbf7, Zbf8, Zbf9, Zbf10, Zbf11, Zbf12, Zbf13, Zbf14, Zbf15, Zbf16, Zbf17, Zbf18, Zbf19, Zbf20, Zbf21, Zbf22, Zbf23, Zbf24, Zbf25, lens]; done) | (simp only [Nat.zero_add]; done) | simp only [Zbf0, Zbf1, Zbf2, Zbf3, Zbf4, Zbf5, Zbf6, Zbf7, Zbf8, Zbf9, Zbf10, Zbf11, Zbf12, Zbf13, Zbf14, Zbf15, Zbf16, Zbf17, Zbf18, Zbf19, Zbf20, Zbf21, Zbf22, Zbf23, Zbf24, Zbf25, lens, Nat.zero_add])⟩
       omega
      ·
       try simp only [bs] at c16
       have hg2f : g2 = takeOff (capLess k takes g (List.getD (rounds ++ ways) i (0, []))) g (List.getD (rounds ++ ways) i (0, [])).2 := by rw [hg2, List.take_of_length_le (by omega)]
       refine awp_exit ?_
       refine kr [(-9223372036854775808 ≤ (((i + 1) : Nat) : Int) ∧ (((i + 1) : Nat) : Int) ≤ 9223372036854775807)] ⟨111, [(Zbf5 g2), (2, .i k), (3, .i takes), (4, .p 104), (8, .p 108), (Zbf4 rounds ways), (Zbf2 rounds ways), (59, .i (((i + 1) : Nat) : Int))], [(Zbf1 n s t es), Zbf0, (153, .fi g2), (Zbf12 rounds ways)]⟩ hT (by kernel_rfl) ⟨(by omega), trivial⟩ ?_
       refine loop_end _ ?_ ⟨(i + 1), g2, ⟨(by omega), (by first | exact hCs | (rw [hg2f]; exact hCs)), rfl⟩, (by kernel_rfl)⟩
       omega
    ·
     try simp only [bs] at c11
     have hend := (show CapInv s t es f k takes g [] from by have h9 := hC; rw [List.drop_of_length_le (by omega)] at h9; exact h9)
     have hfin := hend.end_ hfo hk0 hk1 (by omega) (by omega)
     have hsl : (List.set es (Int.toNat k) (⟨((List.getD es (Int.toNat k) default).src), ((List.getD es (Int.toNat k) default).dst), takes⟩)).length = es.length := List.length_set
     refine awp_exit ?_
     refine awp_seq (awp_region ?_)
     refine ko 2 [(0 < 1)] ⟨111, [(Zbf5 g), (2, .i k), (3, .i takes), (4, .p 104), (8, .p 108), (95, .one (.ro (.arcs es)))], [(Zbf1 n s t es), Zbf0, (153, .fi g)]⟩ hT (by kernel_rfl) (by kernel_rfl) ⟨(by decide), trivial⟩ ?_
     refine aops_call [] [(9001, 196)] false ⟨true, [], 11, [.one (.ro (.arcs es))], []⟩ [.one (.ro (.arcs es))] (sm := ⟨111, [(Zbf5 g), (2, .i k), (3, .i takes), (4, .p 104), (8, .p 108), (95, .one (.ro (.arcs es))), (96, .whn false (.one .any))], [(Zbf1 n s t es), Zbf0, (153, .fi g)]⟩) (by kernel_rfl) (by kernel_rfl) (by decide) (fun _ => trivial) rfl (fun _ => clone_arcs es (by first | omega | (simp; omega))) (fun _ v Hr hv => ?_) (fun h => by cases h)
     obtain ⟨rfl, rfl⟩ := hv
     refine ⟨⟨111, [(Zbf5 g), (2, .i k), (3, .i takes), (4, .p 104), (8, .p 108), (95, .one (.ro (.arcs es))), (96, .w 196 es.length)], [(Zbf1 n s t es), Zbf0, (153, .fi g), (196, .fa es)]⟩, by kernel_rfl, ?_⟩
     refine ko 2 [(0 < 1)] ⟨111, [(Zbf5 g), (2, .i k), (3, .i takes), (4, .p 104), (8, .p 108)], [(104, .box 1 4 (Zbf19 n s t es)), Zbf0, (153, .fi g), (196, .fa es)]⟩ hT (by kernel_rfl) (by kernel_rfl) ⟨(by decide), trivial⟩ ?_
     refine aops_end_seq (by kernel_rfl) ?_
     refine kq [(0 < 1), ((0 : Int) ≤ k), (k < ((es.length : Nat) : Int)), ((Int.toNat k) < es.length)] ⟨111, [(Zbf5 g), (4, .p 104), (8, .p 108)], [(104, .box 1 4 (Zbf19 n s t es)), Zbf0, (153, .fi g), (Zbf10 es k takes)]⟩ hT (by kernel_rfl) ⟨(by decide), (by omega), (by omega), (by omega), trivial⟩ ?_
     refine awp_seq (awp_region ?_)
     refine ko 2 [(0 < 1)] ⟨111, [(8, .p 108), (104, .agg (Zbf19 n s t es)), (105, .w 153 g.length)], [Zbf0, (153, .fi g), (Zbf10 es k takes)]⟩ hT (by kernel_rfl) (by kernel_rfl) ⟨(by decide), trivial⟩ ?_
     refine aops_call [] [(9001, 206), (9002, 10206)] true ⟨true, [], 29, [.agg [(.i n), (.i s), (.i t), (.ro (.arcs (List.take es.length (List.set es (Int.toNat k) (⟨((List.getD es (Int.toNat k) default).src), ((List.getD es (Int.toNat k) default).dst), takes⟩)))))], .one (.ro (.ints .i64 (List.take g.length g)))], []⟩ [.agg [(.i n), (.i s), (.i t), (.ro (.arcs (List.set es (Int.toNat k) (⟨((List.getD es (Int.toNat k) default).src), ((List.getD es (Int.toNat k) default).dst), takes⟩))))], .one (.ro (.ints .i64 g))] (sm := ⟨111, [(8, .p 108), (104, .agg (Zbf19 n s t es)), (105, .w 153 g.length), (106, .whn false (.one .any))], [Zbf0, (153, .fi g), (Zbf10 es k takes)]⟩) (by kernel_rfl) (by kernel_rfl) (by decide) (fun _ => trivial) (by rw [show (List.take es.length (List.set es (Int.toNat k) (⟨((List.getD es (Int.toNat k) default).src), ((List.getD es (Int.toNat k) default).dst), takes⟩))) = (List.set es (Int.toNat k) (⟨((List.getD es (Int.toNat k) default).src), ((List.getD es (Int.toNat k) default).dst), takes⟩)) from List.take_of_length_le (by first | omega | simp)]; rw [show (List.take g.length g) = g from List.take_of_length_le (by first | omega | simp)]) (fun _ => rep_on n s t (List.set es (Int.toNat k) (⟨((List.getD es (Int.toNat k) default).src), ((List.getD es (Int.toNat k) default).dst), takes⟩)) g (by omega)) (fun _ v Hr hv => ?_) (fun h => by cases h)
     obtain ⟨g23, v23, hm23, rfl, rfl⟩ := hv
     refine ⟨⟨111, [(8, .p 108), (104, .agg (Zbf19 n s t es)), (105, .w 153 g.length), (106, .tup [(true, (Zbf24 n s t es k takes)), (false, [(.w 10206 g23.length)]), (false, [(.i v23)]), (false, [(Zbf8 n s t es k takes g)])])], [Zbf0, (153, .fi g), (Zbf10 es k takes), (Zbf25 es k takes), (10206, .fi g23)]⟩, by kernel_rfl, ?_⟩
     refine ko 8 [(0 < 1)] ⟨111, [(8, .p 108), (9, .w 10206 g23.length), (10, .i v23), (11, .one (Zbf8 n s t es k takes g))], [(108, .box 1 4 (Zbf24 n s t es k takes)), (Zbf25 es k takes), (10206, .fi g23)]⟩ hT (by kernel_rfl) (by kernel_rfl) ⟨(by decide), trivial⟩ ?_
     refine aops_end_seq (by kernel_rfl) ?_
     refine awp_weak (awk_ren 206 9001 (s' := ⟨111, [(8, .p 108), (9, .w 10206 g23.length), (10, .i v23), (11, .one (Zbf8 n s t es k takes g))], [(108, .box 1 4 (Zbf13 n s t es k takes)), (Zbf16 es k takes), (10206, .fi g23)]⟩) (by kernel_rfl)) ?_
     refine awp_weak (awk_ren 10206 9002 (s' := ⟨111, [(8, .p 108), (9, .w 9002 g23.length), (10, .i v23), (11, .one (Zbf8 n s t es k takes g))], [(108, .box 1 4 (Zbf13 n s t es k takes)), (Zbf16 es k takes), (9002, .fi g23)]⟩) (by kernel_rfl)) ?_
     refine awp_ret ?_
     refine kRet.ret _ [9001, 9002] [(0 < 1)] (.tup [(true, (Zbf13 n s t es k takes)), (false, [(.w 9002 g23.length)]), (false, [(.i v23)]), (false, [(Zbf8 n s t es k takes g)])]) [(Zbf16 es k takes), (9002, .fi g23)] (by kernel_rfl) ⟨(by decide), trivial⟩ ?_
     exact ⟨n, s, t, (setCap es k.toNat takes), g23, v23, (flowErr n s t (setCap es k.toNat takes) g), (by obtain ⟨q1, q2⟩ := RepRes.good hfin hm23; exact ⟨q1.trans hY.symm, .inr ⟨hY, rfl, rfl, rfl, rfl, (q2.resolve_left (fun q => q.1 rfl)).2.2.2.2.2⟩⟩), (by kernel_rfl), (by kernel_rfl)⟩
end Go.Ab
set_option maxRecDepth 100000
namespace Go.Ab
open Go Go.Proofs
abbrev Zbg7 := ([(.i 0), (.i 0), (.i 0), .nils] : List V1)
abbrev Zbg0 := ((106, .box 1 4 Zbg7) : Nat × Obj)
abbrev Zbg3 (a0 : Int) (a1 : Int) (a2 : Int) (a3 : List Arc) := ([(.i a0), (.i a1), (.i a2), (.ro (.arcs a3))] : List V1)
abbrev Zbg1 (a0 : Int) (a1 : Int) (a2 : Int) (a3 : List Arc) (a4 : Arc) := ([(103, .box 1 4 (Zbg3 a0 a1 a2 a3)), (105, .box 1 3 [(.i a4.src), (.i a4.dst), (.i a4.cap)]), Zbg0] : List (Nat × Obj))
abbrev Zbg2 (a0 : Int) (a1 : Int) (a2 : Int) (a3) := ([(103, .box 1 4 [(.i a0), (.i a1), (.i a2), (.w 121 a3.length)]), Zbg0, (121, .fa a3)] : List (Nat × Obj))
abbrev Zbg4 := ([(.i 0), (.i 0), (.i 0), (.w 9001 0)] : List V1)
abbrev Zbg5 (a0 : List Int) := ((1, .one (.ro (.ints .i64 a0))) : Nat × AV)
abbrev Zbg6 (a0 : Int) (a1 : Int) (a2 : Int) (a3 : List Arc) := ([(.i a0), (.i a1), (.i a2), (.w 9001 a3.length)] : List V1)
theorem rep_add (n s t : Int) (es : List Arc) (f : List Int) (a : Arc) : ACall Tryd.prog 14 [.agg (Zbg3 n s t es), .one (.ro (.ints .i64 f)), .agg [(.i a.src), (.i a.dst), (.i a.cap)]] [] (fun ov oh => ∃ (N S T : Int) (A : List Arc) (g : List Int) (v e : Int), (RepRes n s t (es ++ [⟨a.src, a.dst, a.cap⟩]) (addErr n s t es f n s t (es ++ [⟨a.src, a.dst, a.cap⟩])) N S T A g v e) ∧ ov = .tup [(true, (Zbg6 N S T A)), (false, [(.w 9002 g.length)]), (false, [(.i v)]), (false, [(.i e)])] ∧ oh = [(9001, .fa A), (9002, .fi g)]) := by
 refine acall_intro hT Tryd.func14 rfl (by kernel_rfl) rfl (by kernel_rfl) ?_
 refine kq [] ⟨42, [(Zbg5 f), (3, .p 103), (5, .p 105), (6, .p 106)], (Zbg1 n s t es a)⟩ hT (by kernel_rfl) trivial ?_
 refine awp_seq ?_
 refine awp_seq (awp_region ?_)
 refine ko 2 [(0 < 1)] ⟨42, [(Zbg5 f), (3, .p 103), (5, .p 105), (6, .p 106), (12, .agg (Zbg3 n s t es)), (13, .one (.ro (.ints .i64 f)))], (Zbg1 n s t es a)⟩ hT (by kernel_rfl) (by kernel_rfl) ⟨(by decide), trivial⟩ ?_
 refine aops_pure false ⟨true, [], 28, [.agg (Zbg3 n s t es), .one (.ro (.ints .i64 f))], []⟩ [.agg (Zbg3 n s t es), .one (.ro (.ints .i64 f))] (.i (repErr n s t es f)) ⟨42, [(Zbg5 f), (3, .p 103), (5, .p 105), (6, .p 106), (12, .agg (Zbg3 n s t es)), (13, .one (.ro (.ints .i64 f))), (14, .i (repErr n s t es f))], (Zbg1 n s t es a)⟩ (by kernel_rfl) (by kernel_rfl) (fun _ => trivial) rfl (fun _ => rep_check n s t es f) ?_
 refine ko 1 [] ⟨42, [(Zbg5 f), (3, .p 103), (5, .p 105), (6, .p 106), (10, .i (repErr n s t es f))], (Zbg1 n s t es a)⟩ hT (by kernel_rfl) (by kernel_rfl) trivial ?_
 refine aops_end_seq (by kernel_rfl) ?_
 refine kq [] ⟨42, [(Zbg5 f), (3, .p 103), (5, .p 105), (6, .p 106), (10, .i (repErr n s t es f)), (16, .one (.bool (decide ((repErr n s t es f) ≠ 0))))], (Zbg1 n s t es a)⟩ hT (by kernel_rfl) trivial ?_
 refine awp_cond (b := (decide ((repErr n s t es f) ≠ 0))) (by kernel_rfl) (fun c2 => ?_) (fun c2 => ?_)
 ·
  try simp only [bs] at c2
  refine kq [(0 < 1)] ⟨42, [(6, .p 106), (7, .one .nils), (8, .i 0), (9, .i (repErr n s t es f))], [Zbg0]⟩ hT (by kernel_rfl) ⟨(by decide), trivial⟩ ?_
  refine awp_weak (awk_empty 6603 (.fa []) rfl (by decide) _) ?_
  refine awp_weak (awk_boxcell 106 3 1 4 Zbg7 .nils (.w 6603 0) _ (by kernel_rfl) rfl (wkv_nils (o := .fa []) (by kernel_rfl))) ?_
  refine awp_weak (awk_empty 5007 (.fi []) rfl (by decide) _) ?_
  refine awp_weak (awk_slot 7 (.one .nils) (.w 5007 0) _ (by kernel_rfl) (.one (wkv_nils (o := .fi []) (by kernel_rfl)))) ?_
  refine awp_weak (awk_ren 6603 9001 (s' := ⟨42, [(6, .p 106), (7, .w 5007 0), (8, .i 0), (9, .i (repErr n s t es f))], [(106, .box 1 4 Zbg4), (5007, .fi []), (9001, .fa [])]⟩) (by kernel_rfl)) ?_
  refine awp_weak (awk_ren 5007 9002 (s' := ⟨42, [(6, .p 106), (7, .w 9002 0), (8, .i 0), (9, .i (repErr n s t es f))], [(106, .box 1 4 Zbg4), (9001, .fa []), (9002, .fi [])]⟩) (by kernel_rfl)) ?_
  refine awp_ret ?_
  refine kRet.ret _ [9001, 9002] [(0 < 1)] (.tup [(true, Zbg4), (false, [(.w 9002 0)]), (false, [(.i 0)]), (false, [(.i (repErr n s t es f))])]) [(9001, .fa []), (9002, .fi [])] (by kernel_rfl) ⟨(by decide), trivial⟩ ?_
  exact ⟨0, 0, 0, [], [], 0, (repErr n s t es f), (by rw [addErr_rep c2]; exact RepRes.bad c2), (by kernel_rfl), (by kernel_rfl)⟩
 ·
  try simp only [bs] at c2
  have hX : (repErr n s t es f) = 0 := by omega
  obtain ⟨hfo, hF, hgv⟩ := repErr_ok hX
  have hok := hfo.net
  have hE := hok.err
  have h1 := hok.n1
  have h2 := hok.n2
  have h3 := hok.len
  have hgn := gone_nn hfo hgv
  have hfl := hfo.fin.len
  obtain ⟨E2, hE2⟩ : ∃ x, es ++ [(⟨a.src, a.dst, a.cap⟩ : Arc)] = x := ⟨_, rfl⟩
  have hE2l : es.length + 1 = E2.length := by rw [← hE2]; simp
  refine awp_skip ?_
  refine awp_seq (awp_calm2 [(2, ⟨[.one (.ro (.arcs es))], .w 9001 es.length, [(9001, .fa es)], [(9001, 121)]⟩)] false [[], [0], [0, 1], [], [3], [0, 1, 2, 3, 4], [0, 1, 2, 3, 4, 5], [0, 1, 2, 3, 4, 5, 6]] 5 [1, 3, 6] [103, 106, 121] [(0, []), (1, [(0 < 1)]), (2, [(AllP [] ∧ [.one (.ro (.arcs es))] = ([.one (.ro (.arcs es))] : List AV) ∧ ACall Tryd.prog 11 [.one (.ro (.arcs es))] [] (fun ov oh => ov = .w 9001 es.length ∧ oh = [(9001, .fa es)]))]), (3, [(0 < 1)]), (4, [])] [(5, [(es.length = es.length), ((es.length + 1) * 24 ≤ 140737488355328), ((es.length + 1) ≤ 9223372036854775807)]), (6, []), (7, [(0 < 1)])] 1 ⟨42, [(Zbg5 f), (3, .p 103), (6, .p 106)], [(103, .box 1 4 [(.i n), (.i s), (.i t), (.w 121 (es.length + 1))]), Zbg0, (121, .fa (es ++ [⟨a.src, a.dst, a.cap⟩]))]⟩ (by kernel_rfl) (by kernel_rfl) hT (by kernel_rfl) (by kernel_rfl) ⟨trivial, ⟨(by decide), trivial⟩, ⟨⟨trivial, rfl, clone_arcs es (by first | omega | (simp; omega))⟩, trivial⟩, ⟨(by decide), trivial⟩, trivial, trivial⟩ ⟨⟨(by omega), (by omega), (by omega), trivial⟩, trivial, ⟨(by decide), trivial⟩, trivial⟩ ?_)
  refine awp_seq ?_
  rw [show (es ++ [⟨a.src, a.dst, a.cap⟩]) = E2 from hE2]
  rw [show (es.length + 1) = E2.length from hE2l]
  refine awp_seq (awp_region ?_)
  refine ko 1 [(0 < 1)] ⟨42, [(Zbg5 f), (3, .p 103), (6, .p 106), (26, .agg [(.i n), (.i s), (.i t), (.w 121 E2.length)])], (Zbg2 n s t E2)⟩ hT (by kernel_rfl) (by kernel_rfl) ⟨(by decide), trivial⟩ ?_
  refine aops_pure true ⟨true, [], 13, [.agg [(.i n), (.i s), (.i t), (.ro (.arcs (List.take E2.length E2)))]], []⟩ [.agg (Zbg3 n s t E2)] (.i (netErr n s t E2)) ⟨42, [(Zbg5 f), (3, .p 103), (6, .p 106), (26, .agg [(.i n), (.i s), (.i t), (.w 121 E2.length)]), (27, .i (netErr n s t E2))], (Zbg2 n s t E2)⟩ (by kernel_rfl) (by kernel_rfl) (fun _ => trivial) (by rw [show (List.take E2.length E2) = E2 from List.take_of_length_le (by first | omega | simp)]) (fun _ => graph_CheckNet n s t E2) ?_
  refine ko 1 [] ⟨42, [(Zbg5 f), (3, .p 103), (6, .p 106), (11, .i (netErr n s t E2))], (Zbg2 n s t E2)⟩ hT (by kernel_rfl) (by kernel_rfl) trivial ?_
  refine aops_end_seq (by kernel_rfl) ?_
  refine kq [] ⟨42, [(Zbg5 f), (3, .p 103), (6, .p 106), (11, .i (netErr n s t E2)), (29, .one (.bool (decide ((netErr n s t E2) ≠ 0))))], (Zbg2 n s t E2)⟩ hT (by kernel_rfl) trivial ?_
  refine awp_cond (b := (decide ((netErr n s t E2) ≠ 0))) (by kernel_rfl) (fun c6 => ?_) (fun c6 => ?_)
  ·
   try simp only [bs] at c6
   refine kq [(0 < 1)] ⟨42, [(6, .p 106), (7, .one .nils), (8, .i 0), (9, .i (netErr n s t E2))], [Zbg0]⟩ hT (by kernel_rfl) ⟨(by decide), trivial⟩ ?_
   refine awp_weak (awk_empty 6603 (.fa []) rfl (by decide) _) ?_
   refine awp_weak (awk_boxcell 106 3 1 4 Zbg7 .nils (.w 6603 0) _ (by kernel_rfl) rfl (wkv_nils (o := .fa []) (by kernel_rfl))) ?_
   refine awp_weak (awk_empty 5007 (.fi []) rfl (by decide) _) ?_
   refine awp_weak (awk_slot 7 (.one .nils) (.w 5007 0) _ (by kernel_rfl) (.one (wkv_nils (o := .fi []) (by kernel_rfl)))) ?_
   refine awp_weak (awk_ren 6603 9001 (s' := ⟨42, [(6, .p 106), (7, .w 5007 0), (8, .i 0), (9, .i (netErr n s t E2))], [(106, .box 1 4 Zbg4), (5007, .fi []), (9001, .fa [])]⟩) (by kernel_rfl)) ?_
   refine awp_weak (awk_ren 5007 9002 (s' := ⟨42, [(6, .p 106), (7, .w 9002 0), (8, .i 0), (9, .i (netErr n s t E2))], [(106, .box 1 4 Zbg4), (9001, .fa []), (9002, .fi [])]⟩) (by kernel_rfl)) ?_
   refine awp_ret ?_
   refine kRet.ret _ [9001, 9002] [(0 < 1)] (.tup [(true, Zbg4), (false, [(.w 9002 0)]), (false, [(.i 0)]), (false, [(.i (netErr n s t E2))])]) [(9001, .fa []), (9002, .fi [])] (by kernel_rfl) ⟨(by decide), trivial⟩ ?_
   exact ⟨0, 0, 0, [], [], 0, (netErr n s t E2), (by rw [addErr_net hX]; exact RepRes.bad c6), (by kernel_rfl), (by kernel_rfl)⟩
  ·
   try simp only [bs] at c6
   have hN : netErr n s t E2 = 0 := by omega
   have hY : addErr n s t es f n s t E2 = 0 := (addErr_net hX).trans hN
   have hfin : FlOk n s t E2 (f ++ [0]) := by have h9 := netErr_ok hN; rw [← hE2] at h9 ⊢; exact add_flow hfo h9
   refine awp_skip ?_
   refine awp_seq (awp_calm3 [] false [[], [], [1], [], [1, 2, 3], [0, 1, 2, 3, 4], [0, 1, 2, 3, 4, 5], [0, 1, 2, 3, 4, 5], [0, 1, 2, 3, 4, 5], [0, 1, 2, 3, 4, 5], [0, 1, 2, 3, 4, 5, 6, 7, 8, 9], [0, 1, 2, 3, 4, 5, 6, 7, 8, 9, 10], [0, 1, 2, 3, 4, 5, 6, 7, 8, 9, 10, 11], [0, 1, 2, 3, 4, 5, 6, 7, 8, 9, 10, 11, 12]] 0 14 #[false, false, false, false, false, false, false, false, false, false, false, false, false, false] [1, 3, 6] [103, 106, 121] [] ⟨42, [(Zbg5 f), (3, .p 103), (6, .p 106)], (Zbg2 n s t E2)⟩ (by kernel_rfl) hT (by kernel_rfl) (by kernel_rfl) (by kernel_rfl) (by kernel_rfl) trivial ?_)
   refine aany_part (n := 9) (L := #[true, true, true, true, true, false, false, false, false, false, false, false, false, false]) [(2, ⟨[.one (.ro (.ints .i64 f))], .w 9001 f.length, [(9001, .fi f)], [(9001, 134)]⟩)] false 5 [6, 32, 36] [106, 121, 134] 8 [(0, [(0 < 1)]), (1, []), (2, [(AllP [] ∧ [.one (.ro (.ints .i64 f))] = ([.one (.ro (.ints .i64 f))] : List AV) ∧ ACall Tryd.prog 30 [.one (.ro (.ints .i64 f))] [] (fun ov oh => ov = .w 9001 f.length ∧ oh = [(9001, .fi f)]))]), (3, []), (4, [(f.length = f.length), ((f.length + 1) * 8 ≤ 140737488355328), ((f.length + 1) ≤ 9223372036854775807)])] ⟨42, [(6, .p 106), (32, .agg [(.i n), (.i s), (.i t), (.w 121 E2.length)]), (36, .w 134 (f.length + 1))], [Zbg0, (121, .fa E2), (134, .fi (f ++ [0]))]⟩ (by kernel_rfl) hT (by kernel_rfl) ⟨⟨(by decide), trivial⟩, trivial, ⟨⟨trivial, rfl, clone_ints f (by first | omega | (simp; omega))⟩, trivial⟩, trivial, ⟨(by omega), (by omega), (by omega), trivial⟩, trivial⟩ ?_
   refine aany_call (n := 8) (k := 5) (L := #[true, true, true, true, true, true, false, false, false, false, false, false, false, false]) [] [(9001, 137), (9002, 10137)] true ⟨true, [], 29, [.agg [(.i n), (.i s), (.i t), (.ro (.arcs (List.take E2.length E2)))], .one (.ro (.ints .i64 (List.take (f.length + 1) (f ++ [0]))))], []⟩ [.agg (Zbg3 n s t E2), .one (.ro (.ints .i64 (f ++ [0])))] (sm := ⟨42, [(6, .p 106), (32, .agg [(.i n), (.i s), (.i t), (.w 121 E2.length)]), (36, .w 134 (f.length + 1)), (37, .whn false (.one .any))], [Zbg0, (121, .fa E2), (134, .fi (f ++ [0]))]⟩) (by kernel_rfl) (by kernel_rfl) (by kernel_rfl) (by kernel_rfl) (by decide) (fun _ => trivial) (by rw [show (List.take E2.length E2) = E2 from List.take_of_length_le (by first | omega | simp)]; rw [show (List.take (f.length + 1) (f ++ [0])) = (f ++ [0]) from List.take_of_length_le (by first | omega | simp)]) (fun _ => rep_on n s t E2 (f ++ [0]) (by omega)) (fun _ v Hr hv => ?_) (fun h => by cases h)
   obtain ⟨g8, v8, hm8, rfl, rfl⟩ := hv
   refine ⟨⟨42, [(6, .p 106), (32, .agg [(.i n), (.i s), (.i t), (.w 121 E2.length)]), (36, .w 134 (f.length + 1)), (37, .tup [(true, [(.i n), (.i s), (.i t), (.w 137 E2.length)]), (false, [(.w 10137 g8.length)]), (false, [(.i v8)]), (false, [(.i (flowErr n s t E2 (f ++ [0])))])])], [Zbg0, (121, .fa E2), (134, .fi (f ++ [0])), (137, .fa E2), (10137, .fi g8)]⟩, by kernel_rfl, ?_⟩
   refine aany_weak (awk_cut [6, 37] [106, 137, 10137] _) ?_
   refine aany_end [] false [6, 7, 8, 9] [106, 137, 10137] 1 [(6, []), (7, []), (8, []), (9, []), (10, [(0 < 1)]), (11, []), (12, []), (13, [])] ⟨42, [(6, .p 106), (7, .w 10137 g8.length), (8, .i v8), (9, .i (flowErr n s t E2 (f ++ [0])))], [(106, .box 1 4 [(.i n), (.i s), (.i t), (.w 137 E2.length)]), (137, .fa E2), (10137, .fi g8)]⟩ (by kernel_rfl) hT (by kernel_rfl) ⟨trivial, trivial, trivial, trivial, ⟨(by decide), trivial⟩, trivial, trivial, trivial, trivial⟩ ?_
   refine awp_weak (awk_ren 137 9001 (s' := ⟨42, [(6, .p 106), (7, .w 10137 g8.length), (8, .i v8), (9, .i (flowErr n s t E2 (f ++ [0])))], [(106, .box 1 4 (Zbg6 n s t E2)), (9001, .fa E2), (10137, .fi g8)]⟩) (by kernel_rfl)) ?_
   refine awp_weak (awk_ren 10137 9002 (s' := ⟨42, [(6, .p 106), (7, .w 9002 g8.length), (8, .i v8), (9, .i (flowErr n s t E2 (f ++ [0])))], [(106, .box 1 4 (Zbg6 n s t E2)), (9001, .fa E2), (9002, .fi g8)]⟩) (by kernel_rfl)) ?_
   refine awp_ret ?_
   refine kRet.ret _ [9001, 9002] [(0 < 1)] (.tup [(true, (Zbg6 n s t E2)), (false, [(.w 9002 g8.length)]), (false, [(.i v8)]), (false, [(.i (flowErr n s t E2 (f ++ [0])))])]) [(9001, .fa E2), (9002, .fi g8)] (by kernel_rfl) ⟨(by decide), trivial⟩ ?_
   exact ⟨n, s, t, E2, g8, v8, (flowErr n s t E2 (f ++ [0])), (by obtain ⟨q1, q2⟩ := RepRes.good hfin hm8; exact ⟨q1.trans hY.symm, .inr ⟨hY, rfl, rfl, rfl, rfl, (q2.resolve_left (fun q => q.1 rfl)).2.2.2.2.2⟩⟩), (by kernel_rfl), (by kernel_rfl)⟩
end Go.Ab
set_option maxRecDepth 100000
namespace Go.Ab
open Go Go.Proofs
abbrev Zbh0 (a0 : Int) (a1 : Int) (a2 : Int) (a3 : List Arc) := ([(.i a0), (.i a1), (.i a2), (.ro (.arcs a3))] : List V1)
abbrev Zbh15 := ([(.i 0), (.i 0), (.i 0), .nils] : List V1)
abbrev Zbh1 := ((108, .box 1 4 Zbh15) : Nat × Obj)
abbrev Zbh2 (a0 : List (Int × List Int)) (a1) := ((119, .box 1 2 [(.i ((List.getD a0 a1 (0, [])).1)), (.ro (.ints .i64 ((List.getD a0 a1 (0, [])).2)))]) : Nat × Obj)
abbrev Zbh3 (a0 : List (Int × List Int)) := ((53, .i ((a0.length : Nat) : Int)) : Nat × AV)
abbrev Zbh4 (a0 : List (Int × List Int)) (a1) := ((60, .i (((List.length ((List.getD a0 a1 (0, [])).2)) : Nat) : Int)) : Nat × AV)
abbrev Zbh5 (a0 : Int) (a1 : Int) (a2 : Int) (a3 : List Arc) := ((113, .box 1 4 (Zbh0 a0 a1 a2 a3)) : Nat × Obj)
abbrev Zbh6 (a0 : List Int) := ((1, .one (.ro (.ints .i64 a0))) : Nat × AV)
abbrev Zbh7 := ([(.i 0), (.i 0), (.i 0), (.w 9001 0)] : List V1)
abbrev Zbh8 (a0 : List (Int × List Int)) (a1) := ((59, .one (.ro (.ints .i64 ((List.getD a0 a1 (0, [])).2)))) : Nat × AV)
abbrev Zbh9 (a0 : List Int) := ((1, .w 151 a0.length) : Nat × AV)
abbrev Zbh10 (a0 : List (Int × List Int)) := ((52, .one (.rs (.pieces a0))) : Nat × AV)
abbrev Zbh11 (a0) := ((54, .i (a0 : Int)) : Nat × AV)
abbrev Zbh12 (a0 : List Int) (a1 : List (Int × List Int)) (a2) (a3) := ((151, .fi (List.set a0 (Int.toNat (List.getD ((List.getD a1 a2 (0, [])).2) a3 0)) ((List.getD a0 (Int.toNat (List.getD ((List.getD a1 a2 (0, [])).2) a3 0)) 0) + ((List.getD a1 a2 (0, [])).1)))) : Nat × Obj)
abbrev Zbh13 (a0 : Int) (a1 : Int) (a2 : Int) (a3 : List Arc) := ([(.i a0), (.i a1), (.i a2), (.w 9001 a3.length)] : List V1)
abbrev Zbh14 (a0 : Int) (a1 : Int) (a2 : Int) (a3 : List Arc) := ((104, .box 1 4 (Zbh0 a0 a1 a2 a3)) : Nat × Obj)
theorem rep_ends (n s t : Int) (es : List Arc) (f : List Int) (u w : Int) : ACall Tryd.prog 17 [.agg (Zbh0 n s t es), .one (.ro (.ints .i64 f)), .i u, .i w] [] (fun ov oh => ∃ (N S T : Int) (A : List Arc) (g : List Int) (v e : Int), (RepRes n u w es (addErr n s t es f n u w es) N S T A g v e) ∧ ov = .tup [(true, (Zbh13 N S T A)), (false, [(.w 9002 g.length)]), (false, [(.i v)]), (false, [(.i e)])] ∧ oh = [(9001, .fa A), (9002, .fi g)]) := by
 refine acall_intro hT Tryd.func17 rfl (by kernel_rfl) rfl (by kernel_rfl) ?_
 refine kq [] ⟨82, [(Zbh6 f), (2, .i u), (3, .i w), (4, .p 104), (8, .p 108)], [(Zbh14 n s t es), Zbh1]⟩ hT (by kernel_rfl) trivial ?_
 refine awp_seq ?_
 refine awp_seq (awp_region ?_)
 refine ko 2 [(0 < 1)] ⟨82, [(Zbh6 f), (2, .i u), (3, .i w), (4, .p 104), (8, .p 108), (22, .agg (Zbh0 n s t es)), (23, .one (.ro (.ints .i64 f)))], [(Zbh14 n s t es), Zbh1]⟩ hT (by kernel_rfl) (by kernel_rfl) ⟨(by decide), trivial⟩ ?_
 refine aops_pure false ⟨true, [], 28, [.agg (Zbh0 n s t es), .one (.ro (.ints .i64 f))], []⟩ [.agg (Zbh0 n s t es), .one (.ro (.ints .i64 f))] (.i (repErr n s t es f)) ⟨82, [(Zbh6 f), (2, .i u), (3, .i w), (4, .p 104), (8, .p 108), (22, .agg (Zbh0 n s t es)), (23, .one (.ro (.ints .i64 f))), (24, .i (repErr n s t es f))], [(Zbh14 n s t es), Zbh1]⟩ (by kernel_rfl) (by kernel_rfl) (fun _ => trivial) rfl (fun _ => rep_check n s t es f) ?_
 refine ko 1 [] ⟨82, [(Zbh6 f), (2, .i u), (3, .i w), (4, .p 104), (8, .p 108), (12, .i (repErr n s t es f))], [(Zbh14 n s t es), Zbh1]⟩ hT (by kernel_rfl) (by kernel_rfl) trivial ?_
 refine aops_end_seq (by kernel_rfl) ?_
 refine kq [] ⟨82, [(Zbh6 f), (2, .i u), (3, .i w), (4, .p 104), (8, .p 108), (12, .i (repErr n s t es f)), (26, .one (.bool (decide ((repErr n s t es f) ≠ 0))))], [(Zbh14 n s t es), Zbh1]⟩ hT (by kernel_rfl) trivial ?_
 refine awp_cond (b := (decide ((repErr n s t es f) ≠ 0))) (by kernel_rfl) (fun c2 => ?_) (fun c2 => ?_)
 ·
  try simp only [bs] at c2
  refine kq [(0 < 1)] ⟨82, [(8, .p 108), (9, .one .nils), (10, .i 0), (11, .i (repErr n s t es f))], [Zbh1]⟩ hT (by kernel_rfl) ⟨(by decide), trivial⟩ ?_
  refine awp_weak (awk_empty 6803 (.fa []) rfl (by decide) _) ?_
  refine awp_weak (awk_boxcell 108 3 1 4 Zbh15 .nils (.w 6803 0) _ (by kernel_rfl) rfl (wkv_nils (o := .fa []) (by kernel_rfl))) ?_
  refine awp_weak (awk_empty 5009 (.fi []) rfl (by decide) _) ?_
  refine awp_weak (awk_slot 9 (.one .nils) (.w 5009 0) _ (by kernel_rfl) (.one (wkv_nils (o := .fi []) (by kernel_rfl)))) ?_
  refine awp_weak (awk_ren 6803 9001 (s' := ⟨82, [(8, .p 108), (9, .w 5009 0), (10, .i 0), (11, .i (repErr n s t es f))], [(108, .box 1 4 Zbh7), (5009, .fi []), (9001, .fa [])]⟩) (by kernel_rfl)) ?_
  refine awp_weak (awk_ren 5009 9002 (s' := ⟨82, [(8, .p 108), (9, .w 9002 0), (10, .i 0), (11, .i (repErr n s t es f))], [(108, .box 1 4 Zbh7), (9001, .fa []), (9002, .fi [])]⟩) (by kernel_rfl)) ?_
  refine awp_ret ?_
  refine kRet.ret _ [9001, 9002] [(0 < 1)] (.tup [(true, Zbh7), (false, [(.w 9002 0)]), (false, [(.i 0)]), (false, [(.i (repErr n s t es f))])]) [(9001, .fa []), (9002, .fi [])] (by kernel_rfl) ⟨(by decide), trivial⟩ ?_
  exact ⟨0, 0, 0, [], [], 0, (repErr n s t es f), (by rw [addErr_rep c2]; exact RepRes.bad c2), (by kernel_rfl), (by kernel_rfl)⟩
 ·
  try simp only [bs] at c2
  have hX : (repErr n s t es f) = 0 := by omega
  obtain ⟨hfo, hF, hgv⟩ := repErr_ok hX
  have hok := hfo.net
  have hE := hok.err
  have h1 := hok.n1
  have h2 := hok.n2
  have h3 := hok.len
  have hgn := gone_nn hfo hgv
  have hfl := hfo.fin.len
  refine awp_skip ?_
  refine kq [(0 < 1), (0 < 1), (0 < 1)] ⟨82, [(Zbh6 f), (4, .p 104), (8, .p 108), (13, .p 113)], [(Zbh14 n s t es), Zbh1, (Zbh5 n u w es)]⟩ hT (by kernel_rfl) ⟨(by decide), (by decide), (by decide), trivial⟩ ?_
  refine awp_seq ?_
  refine awp_seq (awp_region ?_)
  refine ko 1 [(0 < 1)] ⟨82, [(Zbh6 f), (4, .p 104), (8, .p 108), (13, .p 113), (36, .agg (Zbh0 n u w es))], [(Zbh14 n s t es), Zbh1, (Zbh5 n u w es)]⟩ hT (by kernel_rfl) (by kernel_rfl) ⟨(by decide), trivial⟩ ?_
  refine aops_pure false ⟨true, [], 13, [.agg (Zbh0 n u w es)], []⟩ [.agg (Zbh0 n u w es)] (.i (netErr n u w es)) ⟨82, [(Zbh6 f), (4, .p 104), (8, .p 108), (13, .p 113), (36, .agg (Zbh0 n u w es)), (37, .i (netErr n u w es))], [(Zbh14 n s t es), Zbh1, (Zbh5 n u w es)]⟩ (by kernel_rfl) (by kernel_rfl) (fun _ => trivial) rfl (fun _ => graph_CheckNet n u w es) ?_
  refine ko 1 [] ⟨82, [(Zbh6 f), (4, .p 104), (8, .p 108), (13, .p 113), (14, .i (netErr n u w es))], [(Zbh14 n s t es), Zbh1, (Zbh5 n u w es)]⟩ hT (by kernel_rfl) (by kernel_rfl) trivial ?_
  refine aops_end_seq (by kernel_rfl) ?_
  refine kq [] ⟨82, [(Zbh6 f), (4, .p 104), (8, .p 108), (13, .p 113), (14, .i (netErr n u w es)), (39, .one (.bool (decide ((netErr n u w es) ≠ 0))))], [(Zbh14 n s t es), Zbh1, (Zbh5 n u w es)]⟩ hT (by kernel_rfl) trivial ?_
  refine awp_cond (b := (decide ((netErr n u w es) ≠ 0))) (by kernel_rfl) (fun c6 => ?_) (fun c6 => ?_)
  ·
   try simp only [bs] at c6
   refine kq [(0 < 1)] ⟨82, [(8, .p 108), (9, .one .nils), (10, .i 0), (11, .i (netErr n u w es))], [Zbh1]⟩ hT (by kernel_rfl) ⟨(by decide), trivial⟩ ?_
   refine awp_weak (awk_empty 6803 (.fa []) rfl (by decide) _) ?_
   refine awp_weak (awk_boxcell 108 3 1 4 Zbh15 .nils (.w 6803 0) _ (by kernel_rfl) rfl (wkv_nils (o := .fa []) (by kernel_rfl))) ?_
   refine awp_weak (awk_empty 5009 (.fi []) rfl (by decide) _) ?_
   refine awp_weak (awk_slot 9 (.one .nils) (.w 5009 0) _ (by kernel_rfl) (.one (wkv_nils (o := .fi []) (by kernel_rfl)))) ?_
   refine awp_weak (awk_ren 6803 9001 (s' := ⟨82, [(8, .p 108), (9, .w 5009 0), (10, .i 0), (11, .i (netErr n u w es))], [(108, .box 1 4 Zbh7), (5009, .fi []), (9001, .fa [])]⟩) (by kernel_rfl)) ?_
   refine awp_weak (awk_ren 5009 9002 (s' := ⟨82, [(8, .p 108), (9, .w 9002 0), (10, .i 0), (11, .i (netErr n u w es))], [(108, .box 1 4 Zbh7), (9001, .fa []), (9002, .fi [])]⟩) (by kernel_rfl)) ?_
   refine awp_ret ?_
   refine kRet.ret _ [9001, 9002] [(0 < 1)] (.tup [(true, Zbh7), (false, [(.w 9002 0)]), (false, [(.i 0)]), (false, [(.i (netErr n u w es))])]) [(9001, .fa []), (9002, .fi [])] (by kernel_rfl) ⟨(by decide), trivial⟩ ?_
   exact ⟨0, 0, 0, [], [], 0, (netErr n u w es), (by rw [addErr_net hX]; exact RepRes.bad c6), (by kernel_rfl), (by kernel_rfl)⟩
  ·
   try simp only [bs] at c6
   have hN : netErr n u w es = 0 := by omega
   have hY : (addErr n s t es f n u w es) = 0 := (addErr_net hX).trans hN
   have hnn := netErr_ok hN
   refine awp_skip ?_
   refine awp_seq (awp_region ?_)
   refine ko 2 [(0 < 1)] ⟨82, [(Zbh6 f), (8, .p 108), (13, .p 113), (43, .agg (Zbh0 n s t es)), (44, .one (.ro (.ints .i64 f)))], [Zbh1, (Zbh5 n u w es)]⟩ hT (by kernel_rfl) (by kernel_rfl) ⟨(by decide), trivial⟩ ?_
   refine aops_call [] [] false ⟨true, [], 31, [.agg (Zbh0 n s t es), .one (.ro (.ints .i64 f))], []⟩ [.agg (Zbh0 n s t es), .one (.ro (.ints .i64 f))] (sm := ⟨82, [(Zbh6 f), (8, .p 108), (13, .p 113), (43, .agg (Zbh0 n s t es)), (44, .one (.ro (.ints .i64 f))), (45, .whn false (.one .any))], [Zbh1, (Zbh5 n u w es)]⟩) (by kernel_rfl) (by kernel_rfl) (by decide) (fun _ => trivial) rfl (fun _ => flow_split n s t es f) (fun _ v Hr hv => ?_) (fun h => by cases h)
   obtain ⟨ways, rounds, e1, hso, rfl, rfl⟩ := hv
   refine ⟨⟨82, [(Zbh6 f), (8, .p 108), (13, .p 113), (43, .agg (Zbh0 n s t es)), (44, .one (.ro (.ints .i64 f))), (45, .tup [(false, [(.rs (.pieces ways))]), (false, [(.rs (.pieces rounds))]), (false, [(.i e1)])])], [Zbh1, (Zbh5 n u w es)]⟩, by kernel_rfl, ?_⟩
   refine ko 7 [] ⟨82, [(Zbh6 f), (8, .p 108), (13, .p 113), (16, .one (.rs (.pieces rounds)))], [Zbh1, (Zbh5 n u w es)]⟩ hT (by kernel_rfl) (by kernel_rfl) trivial ?_
   refine aops_end_seq (by kernel_rfl) ?_
   have hrl := split_rounds hso
   have hrr := split_rr hso
   refine kq [((0 : Int) ≤ ((f.length : Nat) : Int)), (((f.length : Nat) : Int) ≤ ((f.length : Nat) : Int)), ((8 : Int) * ((f.length : Nat) : Int) ≤ 281474976710656), (((f.length : Nat) : Int) ≤ 9223372036854775807)] ⟨82, [(Zbh9 f), (8, .p 108), (13, .p 113), (16, .one (.rs (.pieces rounds)))], [Zbh1, (Zbh5 n u w es), (151, .fi (List.replicate f.length (0 : Int)))]⟩ hT (by kernel_rfl) ⟨(by omega), (by omega), (by omega), (by omega), trivial⟩ ?_
   refine awp_seq ?_
   refine kq [] ⟨82, [(Zbh9 f), (8, .p 108), (13, .p 113), (Zbh10 rounds), (Zbh3 rounds), (54, .i 0)], [Zbh1, (Zbh5 n u w es), (151, .fi (List.replicate f.length (0 : Int)))]⟩ hT (by kernel_rfl) trivial ?_
   refine awp_block ?_
   refine awp_loop (I := fun κ σ => ∃ (i : Nat) (g : List Int), ((i ≤ rounds.length) ∧ (EndInv es g (rounds.take i)) ∧ rounds.length - i = κ) ∧ σ = ⟨82, [(Zbh9 g), (8, .p 108), (13, .p 113), (Zbh10 rounds), (Zbh3 rounds), (Zbh11 i)], [Zbh1, (Zbh5 n u w es), (151, .fi g)]⟩) _ ⟨0, (List.replicate f.length 0), ⟨(by omega), (by rw [hfl]; exact EndInv.start es), rfl⟩, (by simp only [Zbh0, Zbh1, Zbh2, Zbh3, Zbh4, Zbh5, Zbh6, Zbh7, Zbh8, Zbh9, Zbh10, Zbh11, Zbh12, Zbh13, Zbh14, Zbh15, lens]; rfl)⟩ ?_
   rintro κ _ ⟨i, g, ⟨hi, hQ, rfl⟩, rfl⟩
   have hgl := hQ.len
   refine kq [] ⟨82, [(Zbh9 g), (8, .p 108), (13, .p 113), (Zbh10 rounds), (Zbh3 rounds), (Zbh11 i), (55, .one (.bool (decide ((i : Int) < ((rounds.length : Nat) : Int)))))], [Zbh1, (Zbh5 n u w es), (151, .fi g)]⟩ hT (by kernel_rfl) trivial ?_
   refine awp_seq ?_
   refine awp_cond (b := (decide ((i : Int) < ((rounds.length : Nat) : Int)))) (by kernel_rfl) (fun c11 => ?_) (fun c11 => ?_)
   ·
    try simp only [bs] at c11
    have hil : i < rounds.length := by omega
    have hpm := getD_mem (d := ((0, []) : Int × List Int)) hil
    obtain ⟨px, hP⟩ := hrr _ hpm
    have hQs := hQ.step ⟨px, hP⟩
    rw [← take_getD rounds ((0, []) : Int × List Int) i hil] at hQs
    have hPl : (List.getD rounds i (0, [])).2.length ≤ es.length := by have := nodup_int (n := (es.length : Int)) hP.nd (fun v hv => hP.kr v hv); omega
    have hub := fun j hj => ends_in hso hfo hgn (i := i) (by omega) j hj
    have hub2 := fun j hj => ends_in hso hfo hgn (i := i + 1) (by omega) j hj
    refine awp_skip ?_
    refine awp_seq ?_
    refine awp_block ?_
    refine kq [((0 : Int) ≤ (i : Int)), ((i : Int) < ((rounds.length : Nat) : Int)), (0 < 1)] ⟨82, [(Zbh9 g), (8, .p 108), (13, .p 113), (19, .p 119), (Zbh10 rounds), (Zbh3 rounds), (Zbh11 i)], [Zbh1, (Zbh5 n u w es), (Zbh2 rounds i), (151, .fi g)]⟩ hT (by kernel_rfl) ⟨(by omega), (by omega), (by decide), trivial⟩ ?_
    refine kq [(0 < 1)] ⟨82, [(Zbh9 g), (8, .p 108), (13, .p 113), (19, .p 119), (Zbh10 rounds), (Zbh3 rounds), (Zbh11 i), (Zbh8 rounds i), (Zbh4 rounds i), (61, .i 0)], [Zbh1, (Zbh5 n u w es), (Zbh2 rounds i), (151, .fi g)]⟩ hT (by kernel_rfl) ⟨(by decide), trivial⟩ ?_
    refine awp_block ?_
    refine awp_loop (I := fun κ σ => ∃ (j : Nat) (g2 : List Int), ((j ≤ (List.getD rounds i (0, [])).2.length) ∧ (g2 = takeOff (-(List.getD rounds i (0, [])).1) g ((List.getD rounds i (0, [])).2.take j)) ∧ (List.getD rounds i (0, [])).2.length - j = κ) ∧ σ = ⟨82, [(Zbh9 g2), (8, .p 108), (13, .p 113), (19, .p 119), (Zbh10 rounds), (Zbh3 rounds), (Zbh11 i), (Zbh8 rounds i), (Zbh4 rounds i), (61, .i (j : Int))], [Zbh1, (Zbh5 n u w es), (Zbh2 rounds i), (151, .fi g2)]⟩) _ ⟨0, g, ⟨(by omega), (by rfl), rfl⟩, (by kernel_rfl)⟩ ?_
    rintro κ _ ⟨j, g2, ⟨hj, hg2, rfl⟩, rfl⟩
    have hg2l : g2.length = g.length := by rw [hg2, takeOff_len]
    refine kq [] ⟨82, [(Zbh9 g2), (8, .p 108), (13, .p 113), (19, .p 119), (Zbh10 rounds), (Zbh3 rounds), (Zbh11 i), (Zbh8 rounds i), (Zbh4 rounds i), (61, .i (j : Int)), (62, .one (.bool (decide ((j : Int) < (((List.length ((List.getD rounds i (0, [])).2)) : Nat) : Int)))))], [Zbh1, (Zbh5 n u w es), (Zbh2 rounds i), (151, .fi g2)]⟩ hT (by kernel_rfl) trivial ?_
    refine awp_seq ?_
    refine awp_cond (b := (decide ((j : Int) < (((List.length ((List.getD rounds i (0, [])).2)) : Nat) : Int)))) (by kernel_rfl) (fun c14 => ?_) (fun c14 => ?_)
    ·
     try simp only [bs] at c14
     have hjl : j < (List.getD rounds i (0, [])).2.length := by omega
     have hkr := hP.kr _ (getD_mem (d := 0) hjl)
     have hnow := takeOff_now (a := -(List.getD rounds i (0, [])).1) (left := g) hjl hP.nd (fun q hq => (hP.kr q hq).1)
     rw [← hg2] at hnow
     have hga := hQ.at_ (List.getD (List.getD rounds i (0, [])).2 j 0).toNat (by omega)
     have hg1 := hub (List.getD (List.getD rounds i (0, [])).2 j 0).toNat (by omega)
     have hstp := takeOff_step (a := -(List.getD rounds i (0, [])).1) (left := g) hjl
     have ha1 := hP.a1
     have hat := top_piece hso hfo hgn hil
     refine awp_skip ?_
     refine awp_seq ?_
     refine awp_block ?_
     refine kq [((0 : Int) ≤ (j : Int)), ((j : Int) < (((List.length ((List.getD rounds i (0, [])).2)) : Nat) : Int))] ⟨82, [(Zbh9 g2), (8, .p 108), (13, .p 113), (19, .p 119), (21, .i (List.getD ((List.getD rounds i (0, [])).2) j 0)), (Zbh10 rounds), (Zbh3 rounds), (Zbh11 i), (Zbh8 rounds i), (Zbh4 rounds i), (61, .i (j : Int))], [Zbh1, (Zbh5 n u w es), (Zbh2 rounds i), (151, .fi g2)]⟩ hT (by kernel_rfl) ⟨(by omega), (by omega), trivial⟩ ?_
     refine awp_tail 8 [1, 8, 13, 19, 52, 53, 54, 59, 60, 61, 71, 72] [108, 113, 119, 151] [((0 : Int) ≤ (List.getD ((List.getD rounds i (0, [])).2) j 0)), ((List.getD ((List.getD rounds i (0, [])).2) j 0) < ((g2.length : Nat) : Int)), ((Int.toNat (List.getD ((List.getD rounds i (0, [])).2) j 0)) < g2.length), (0 < 1), (-9223372036854775808 ≤ ((List.getD g2 (Int.toNat (List.getD ((List.getD rounds i (0, [])).2) j 0)) 0) + ((List.getD rounds i (0, [])).1)) ∧ ((List.getD g2 (Int.toNat (List.getD ((List.getD rounds i (0, [])).2) j 0)) 0) + ((List.getD rounds i (0, [])).1)) ≤ 9223372036854775807), ((0 : Int) ≤ (List.getD ((List.getD rounds i (0, [])).2) j 0)), ((List.getD ((List.getD rounds i (0, [])).2) j 0) < ((g2.length : Nat) : Int))] ⟨82, [(Zbh9 g2), (8, .p 108), (13, .p 113), (19, .p 119), (Zbh10 rounds), (Zbh3 rounds), (Zbh11 i), (Zbh8 rounds i), (Zbh4 rounds i), (61, .i (j : Int)), (71, .i ((List.getD g2 (Int.toNat (List.getD ((List.getD rounds i (0, [])).2) j 0)) 0) + ((List.getD rounds i (0, [])).1))), (72, .one (.ptr 151 (Int.toNat (List.getD ((List.getD rounds i (0, [])).2) j 0)) 0))], [Zbh1, (Zbh5 n u w es), (Zbh2 rounds i), (151, .fi g2)]⟩ (by kernel_rfl) (by kernel_rfl) hT (by kernel_rfl) ⟨(by omega), (by omega), (by omega), (by decide), (by omega), (by omega), (by omega), trivial⟩ ?_
     refine ko 1 [((Int.toNat (List.getD ((List.getD rounds i (0, [])).2) j 0)) < g2.length)] ⟨82, [(Zbh9 g2), (8, .p 108), (13, .p 113), (19, .p 119), (Zbh10 rounds), (Zbh3 rounds), (Zbh11 i), (Zbh8 rounds i), (Zbh4 rounds i), (61, .i (j : Int))], [Zbh1, (Zbh5 n u w es), (Zbh2 rounds i), (Zbh12 g2 rounds i j)]⟩ hT (by kernel_rfl) (by kernel_rfl) ⟨(by omega), trivial⟩ ?_
     refine aops_end (by kernel_rfl) ?_
     refine kr [(-9223372036854775808 ≤ (((j + 1) : Nat) : Int) ∧ (((j + 1) : Nat) : Int) ≤ 9223372036854775807)] ⟨82, [(Zbh9 g2), (8, .p 108), (13, .p 113), (19, .p 119), (Zbh10 rounds), (Zbh3 rounds), (Zbh11 i), (Zbh8 rounds i), (Zbh4 rounds i), (61, .i (((j + 1) : Nat) : Int))], [Zbh1, (Zbh5 n u w es), (Zbh2 rounds i), (Zbh12 g2 rounds i j)]⟩ hT (by kernel_rfl) ⟨(by omega), trivial⟩ ?_
     refine loop_end _ ?_ ⟨(j + 1), (List.set g2 (Int.toNat (List.getD ((List.getD rounds i (0, [])).2) j 0)) ((List.getD g2 (Int.toNat (List.getD ((List.getD rounds i (0, [])).2) j 0)) 0) + ((List.getD rounds i (0, [])).1))), ⟨(by omega), (by rw [hstp, ← hg2, Int.sub_neg]), rfl⟩, (by first | (simp only [Zbh0, Zbh1, Zbh2, Zbh3, Zbh4, Zbh5, Zbh6, Zbh7, Zbh8, Zbh9, Zbh10, Zbh11, Zbh12, Zbh13, Zbh14, Zbh15, lens]; done) | (simp only [Nat.zero_add]; done) | simp only [Zbh0, Zbh1, Zbh2, Zbh3, Zbh4, Zbh5, Zbh6, Zbh7, Zbh8, Zbh9, Zbh10, Zbh11, Zbh12, Zbh13, Zbh14, Zbh15, lens, Nat.zero_add])⟩
     omega
    ·
     try simp only [bs] at c14
     have hg2f : g2 = takeOff (-(List.getD rounds i (0, [])).1) g (List.getD rounds i (0, [])).2 := by rw [hg2, List.take_of_length_le (by omega)]
     refine awp_exit ?_
     refine kr [(-9223372036854775808 ≤ (((i + 1) : Nat) : Int) ∧ (((i + 1) : Nat) : Int) ≤ 9223372036854775807)] ⟨82, [(Zbh9 g2), (8, .p 108), (13, .p 113), (Zbh10 rounds), (Zbh3 rounds), (54, .i (((i + 1) : Nat) : Int))], [Zbh1, (Zbh5 n u w es), (151, .fi g2)]⟩ hT (by kernel_rfl) ⟨(by omega), trivial⟩ ?_
     refine loop_end _ ?_ ⟨(i + 1), g2, ⟨(by omega), (by rw [hg2f]; exact hQs), rfl⟩, (by kernel_rfl)⟩
     omega
   ·
    try simp only [bs] at c11
    have hfin := (show EndInv es g rounds from by have h9 := hQ; rw [List.take_of_length_le (by omega)] at h9; exact h9).end_ hfo hgn hso hnn
    refine awp_exit ?_
    refine awp_seq (awp_region ?_)
    refine ko 2 [(0 < 1)] ⟨82, [(8, .p 108), (75, .agg (Zbh0 n u w es)), (76, .w 151 g.length)], [Zbh1, (151, .fi g)]⟩ hT (by kernel_rfl) (by kernel_rfl) ⟨(by decide), trivial⟩ ?_
    refine aops_call [] [(9001, 177), (9002, 10177)] true ⟨true, [], 29, [.agg (Zbh0 n u w es), .one (.ro (.ints .i64 (List.take g.length g)))], []⟩ [.agg (Zbh0 n u w es), .one (.ro (.ints .i64 g))] (sm := ⟨82, [(8, .p 108), (75, .agg (Zbh0 n u w es)), (76, .w 151 g.length), (77, .whn false (.one .any))], [Zbh1, (151, .fi g)]⟩) (by kernel_rfl) (by kernel_rfl) (by decide) (fun _ => trivial) (by rw [show (List.take g.length g) = g from List.take_of_length_le (by first | omega | simp)]) (fun _ => rep_on n u w es g (by omega)) (fun _ v Hr hv => ?_) (fun h => by cases h)
    obtain ⟨g19, v19, hm19, rfl, rfl⟩ := hv
    refine ⟨⟨82, [(8, .p 108), (75, .agg (Zbh0 n u w es)), (76, .w 151 g.length), (77, .tup [(true, [(.i n), (.i u), (.i w), (.w 177 es.length)]), (false, [(.w 10177 g19.length)]), (false, [(.i v19)]), (false, [(.i (flowErr n u w es g))])])], [Zbh1, (151, .fi g), (177, .fa es), (10177, .fi g19)]⟩, by kernel_rfl, ?_⟩
    refine ko 8 [(0 < 1)] ⟨82, [(8, .p 108), (9, .w 10177 g19.length), (10, .i v19), (11, .i (flowErr n u w es g))], [(108, .box 1 4 [(.i n), (.i u), (.i w), (.w 177 es.length)]), (177, .fa es), (10177, .fi g19)]⟩ hT (by kernel_rfl) (by kernel_rfl) ⟨(by decide), trivial⟩ ?_
    refine aops_end_seq (by kernel_rfl) ?_
    refine awp_weak (awk_ren 177 9001 (s' := ⟨82, [(8, .p 108), (9, .w 10177 g19.length), (10, .i v19), (11, .i (flowErr n u w es g))], [(108, .box 1 4 (Zbh13 n u w es)), (9001, .fa es), (10177, .fi g19)]⟩) (by kernel_rfl)) ?_
    refine awp_weak (awk_ren 10177 9002 (s' := ⟨82, [(8, .p 108), (9, .w 9002 g19.length), (10, .i v19), (11, .i (flowErr n u w es g))], [(108, .box 1 4 (Zbh13 n u w es)), (9001, .fa es), (9002, .fi g19)]⟩) (by kernel_rfl)) ?_
    refine awp_ret ?_
    refine kRet.ret _ [9001, 9002] [(0 < 1)] (.tup [(true, (Zbh13 n u w es)), (false, [(.w 9002 g19.length)]), (false, [(.i v19)]), (false, [(.i (flowErr n u w es g))])]) [(9001, .fa es), (9002, .fi g19)] (by kernel_rfl) ⟨(by decide), trivial⟩ ?_
    exact ⟨n, u, w, es, g19, v19, (flowErr n u w es g), (by obtain ⟨q1, q2⟩ := RepRes.good hfin hm19; exact ⟨q1.trans hY.symm, .inr ⟨hY, rfl, rfl, rfl, rfl, (q2.resolve_left (fun q => q.1 rfl)).2.2.2.2.2⟩⟩), (by kernel_rfl), (by kernel_rfl)⟩
end Go.Ab
set_option maxRecDepth 100000
namespace Go.Ab
open Go Go.Proofs
abbrev Zbi0 := ((106, .box 1 4 [(.i 0), (.i 0), (.i 0), .nils]) : Nat × Obj)
abbrev Zbi1 (a0 : List Int) := ((10118, .fi a0) : Nat × Obj)
abbrev Zbi2 (a0 : Int) (a1 : Int) (a2 : Int) (a3 : List Arc) := ([(.i a0), (.i a1), (.i a2), (.ro (.arcs a3))] : List V1)
abbrev Zbi3 (a0 : Int) (a1 : Int) (a2 : Int) (a3 : List Arc) := ([(.i a0), (.i a1), (.i a2), (.w 9001 a3.length)] : List V1)
abbrev Zbi4 (a0 : List Int) := ((11, .w 10118 a0.length) : Nat × AV)
abbrev Zbi5 (a0 : List Int) := ((35, .w 10118 a0.length) : Nat × AV)
abbrev Zbi6 (a0 : Int) := ((38, .i (a0 + 1)) : Nat × AV)
abbrev Zbi7 := ([(.i 0), (.i 0), (.i 0), (.w 9001 0)] : List V1)
abbrev Zbi8 (a0 : List Int) := ((10140, .fi a0) : Nat × Obj)
theorem rep_drop (n s t : Int) (es : List Arc) (f : List Int) (k : Int) : ACall Tryd.prog 16 [.agg (Zbi2 n s t es), .one (.ro (.ints .i64 f)), .i k] [] (fun ov oh => ∃ (N S T : Int) (A : List Arc) (g : List Int) (v e : Int), (RepRes n s t (dropAt es k.toNat) (capErr2 n s t es f k 0) N S T A g v e) ∧ ov = .tup [(true, (Zbi3 N S T A)), (false, [(.w 9002 g.length)]), (false, [(.i v)]), (false, [(.i e)])] ∧ oh = [(9001, .fa A), (9002, .fi g)]) := by
 refine acall_intro hT Tryd.func16 rfl (by kernel_rfl) rfl (by kernel_rfl) ?_
 refine kq [] ⟨45, [(1, .one (.ro (.ints .i64 f))), (2, .i k), (3, .p 103), (6, .p 106)], [(103, .box 1 4 (Zbi2 n s t es)), Zbi0]⟩ hT (by kernel_rfl) trivial ?_
 refine awp_seq (awp_region ?_)
 refine ko 3 [(0 < 1)] ⟨45, [(2, .i k), (6, .p 106), (15, .agg (Zbi2 n s t es)), (16, .one (.ro (.ints .i64 f))), (17, .i k)], [Zbi0]⟩ hT (by kernel_rfl) (by kernel_rfl) ⟨(by decide), trivial⟩ ?_
 refine aops_call [] [(9001, 118), (9002, 10118)] false ⟨true, [], 15, [.agg (Zbi2 n s t es), .one (.ro (.ints .i64 f)), .i k, .i 0], []⟩ [.agg (Zbi2 n s t es), .one (.ro (.ints .i64 f)), .i k, .i 0] (sm := ⟨45, [(2, .i k), (6, .p 106), (15, .agg (Zbi2 n s t es)), (16, .one (.ro (.ints .i64 f))), (17, .i k), (18, .whn false (.one .any))], [Zbi0]⟩) (by kernel_rfl) (by kernel_rfl) (by decide) (fun _ => trivial) rfl (fun _ => rep_cap n s t es f k (0)) (fun _ v Hr hv => ?_) (fun h => by cases h)
 obtain ⟨N1, S1, T1, A1, g1, v1, e1, hr1, rfl, rfl⟩ := hv
 refine ⟨⟨45, [(2, .i k), (6, .p 106), (15, .agg (Zbi2 n s t es)), (16, .one (.ro (.ints .i64 f))), (17, .i k), (18, .tup [(true, [(.i N1), (.i S1), (.i T1), (.w 118 A1.length)]), (false, [(.w 10118 g1.length)]), (false, [(.i v1)]), (false, [(.i e1)])])], [Zbi0, (118, .fa A1), (Zbi1 g1)]⟩, by kernel_rfl, ?_⟩
 refine ko 10 [(0 < 1)] ⟨45, [(2, .i k), (6, .p 106), (10, .p 110), (Zbi4 g1), (13, .i e1)], [Zbi0, (110, .box 1 4 [(.i N1), (.i S1), (.i T1), (.w 118 A1.length)]), (118, .fa A1), (Zbi1 g1)]⟩ hT (by kernel_rfl) (by kernel_rfl) ⟨(by decide), trivial⟩ ?_
 refine aops_end_seq (by kernel_rfl) ?_
 refine awp_seq ?_
 refine kq [] ⟨45, [(2, .i k), (6, .p 106), (10, .p 110), (Zbi4 g1), (13, .i e1), (24, .one (.bool (decide (e1 ≠ 0))))], [Zbi0, (110, .box 1 4 [(.i N1), (.i S1), (.i T1), (.w 118 A1.length)]), (118, .fa A1), (Zbi1 g1)]⟩ hT (by kernel_rfl) trivial ?_
 refine awp_cond (b := (decide (e1 ≠ 0))) (by kernel_rfl) (fun c2 => ?_) (fun c2 => ?_)
 ·
  try simp only [bs] at c2
  refine kq [(0 < 1)] ⟨45, [(6, .p 106), (7, .one .nils), (8, .i 0), (9, .i e1)], [Zbi0]⟩ hT (by kernel_rfl) ⟨(by decide), trivial⟩ ?_
  refine awp_weak (awk_empty 6603 (.fa []) rfl (by decide) _) ?_
  refine awp_weak (awk_boxcell 106 3 1 4 [(.i 0), (.i 0), (.i 0), .nils] .nils (.w 6603 0) _ (by kernel_rfl) rfl (wkv_nils (o := .fa []) (by kernel_rfl))) ?_
  refine awp_weak (awk_empty 5007 (.fi []) rfl (by decide) _) ?_
  refine awp_weak (awk_slot 7 (.one .nils) (.w 5007 0) _ (by kernel_rfl) (.one (wkv_nils (o := .fi []) (by kernel_rfl)))) ?_
  refine awp_weak (awk_ren 6603 9001 (s' := ⟨45, [(6, .p 106), (7, .w 5007 0), (8, .i 0), (9, .i e1)], [(106, .box 1 4 Zbi7), (5007, .fi []), (9001, .fa [])]⟩) (by kernel_rfl)) ?_
  refine awp_weak (awk_ren 5007 9002 (s' := ⟨45, [(6, .p 106), (7, .w 9002 0), (8, .i 0), (9, .i e1)], [(106, .box 1 4 Zbi7), (9001, .fa []), (9002, .fi [])]⟩) (by kernel_rfl)) ?_
  refine awp_ret ?_
  refine kRet.ret _ [9001, 9002] [(0 < 1)] (.tup [(true, Zbi7), (false, [(.w 9002 0)]), (false, [(.i 0)]), (false, [(.i e1)])]) [(9001, .fa []), (9002, .fi [])] (by kernel_rfl) ⟨(by decide), trivial⟩ ?_
  exact ⟨0, 0, 0, [], [], 0, e1, (by rw [hr1.1]; exact RepRes.bad (by rw [← hr1.1]; exact c2)), (by kernel_rfl), (by kernel_rfl)⟩
 ·
  try simp only [bs] at c2
  obtain ⟨z0, z⟩ := hr1
  obtain ⟨hY, zN, zS, zT, zA, zF, _, _⟩ := z.resolve_left (fun q => q.1 (by omega))
  obtain ⟨hk0, hk1⟩ := capErr2_in hY
  have hAl : A1.length = es.length := by rw [zA, setCap_len]
  have hgl := zF.fin.len
  rw [setCap_len] at hgl
  have hnl := zF.net.len
  rw [setCap_len] at hnl
  have hdl := delA_len (es := A1) (i := Int.toNat k) (by omega)
  have hdl2 := delI_len (zs := g1) (i := Int.toNat k) (by omega)
  obtain ⟨E3, hE3⟩ : ∃ x, (List.take (A1.length - 1) (delA A1 (Int.toNat k))) = x := ⟨_, rfl⟩
  obtain ⟨f3, hf3⟩ : ∃ x, (List.take (g1.length - 1) (delI g1 (Int.toNat k))) = x := ⟨_, rfl⟩
  have hE3l : A1.length - 1 = E3.length := by rw [← hE3, List.length_take]; omega
  have hf3l : g1.length - 1 = f3.length := by rw [← hf3, List.length_take]; omega
  have hE4 : E3 = dropAt es k.toNat := by rw [← hE3, delA_take (by omega), zA, setCap_drop]
  have hf4 : f3 = dropAt g1 k.toNat := by rw [← hf3, delI_take (by omega)]
  have hfin : FlOk n s t (dropAt es k.toNat) f3 := by have h9 := drop_flow (k := k.toNat) zF (by rw [setCap_len]; omega) (cap_zero zF (by omega)); rw [setCap_drop, ← hf4] at h9; exact h9
  refine awp_skip ?_
  refine awp_seq (awp_region ?_)
  refine ko 5 [(0 < 1), (-9223372036854775808 ≤ (k + 1) ∧ (k + 1) ≤ 9223372036854775807)] ⟨45, [(2, .i k), (6, .p 106), (10, .p 110), (Zbi4 g1), (28, .w 118 A1.length), (29, .i k), (31, .i (k + 1))], [Zbi0, (110, .box 1 4 [(.i N1), (.i S1), (.i T1), (.w 118 A1.length)]), (118, .fa A1), (Zbi1 g1)]⟩ hT (by kernel_rfl) (by kernel_rfl) ⟨(by decide), (by omega), trivial⟩ ?_
  refine aops_call [(1, 118)] [] false ⟨true, [], 23, [.w 1 A1.length, .i k, .i (k + 1)], [(1, .fa A1)]⟩ [.w 1 A1.length, .i k, .i (k + 1)] (sm := ⟨45, [(2, .i k), (6, .p 106), (10, .p 110), (Zbi4 g1), (28, .w 118 A1.length), (29, .i k), (31, .i (k + 1)), (32, .whn false (.one .any))], [Zbi0, (110, .box 1 4 [(.i N1), (.i S1), (.i T1), (.w 118 A1.length)]), (118, .fa A1), (Zbi1 g1)]⟩) (by kernel_rfl) (by kernel_rfl) (by decide) (fun _ => trivial) rfl (fun _ => del_arcs 1 A1 k (by omega) (by omega)) (fun _ v Hr hv => ?_) (fun h => by cases h)
  obtain ⟨rfl, rfl⟩ := hv
  refine ⟨⟨45, [(2, .i k), (6, .p 106), (10, .p 110), (Zbi4 g1), (28, .w 118 A1.length), (29, .i k), (31, .i (k + 1)), (32, .w 118 (A1.length - 1))], [Zbi0, (110, .box 1 4 [(.i N1), (.i S1), (.i T1), (.w 118 A1.length)]), (118, .fa (delA A1 (Int.toNat k))), (Zbi1 g1)]⟩, by kernel_rfl, ?_⟩
  refine ko 1 [] ⟨45, [(2, .i k), (6, .p 106), (10, .p 110), (Zbi4 g1), (32, .w 118 (A1.length - 1)), (33, .one (.ptr 110 0 3))], [Zbi0, (110, .box 1 4 [(.i N1), (.i S1), (.i T1), (.w 118 A1.length)]), (118, .fa (delA A1 (Int.toNat k))), (Zbi1 g1)]⟩ hT (by kernel_rfl) (by kernel_rfl) trivial ?_
  refine aops_weak (s' := ⟨45, [(2, .i k), (6, .p 106), (10, .p 110), (Zbi4 g1), (32, .w 118 (A1.length - 1)), (33, .one (.ptr 110 0 3))], [Zbi0, (110, .box 1 4 [(.i N1), (.i S1), (.i T1), .any]), (118, .fa (List.take (A1.length - 1) (delA A1 (Int.toNat k)))), (Zbi1 g1)]⟩) (awk_trunc 118 32 (A1.length - 1) (.arcs (delA A1 (Int.toNat k))) _ (by kernel_rfl) (by kernel_rfl) (by decide) (by show (A1.length - 1) ≤ List.length (delA A1 (Int.toNat k)); omega)) ?_
  rw [show (List.take (A1.length - 1) (delA A1 (Int.toNat k))) = E3 from hE3]
  rw [show (A1.length - 1) = E3.length from hE3l]
  refine ko 1 [(0 < 1)] ⟨45, [(2, .i k), (6, .p 106), (10, .p 110), (Zbi4 g1)], [Zbi0, (110, .box 1 4 [(.i N1), (.i S1), (.i T1), (.w 118 E3.length)]), (118, .fa E3), (Zbi1 g1)]⟩ hT (by kernel_rfl) (by kernel_rfl) ⟨(by decide), trivial⟩ ?_
  refine aops_end_seq (by kernel_rfl) ?_
  refine awp_seq (awp_calm3 [] false [[], [], [], [], [3], [1, 2, 3, 4], [0, 1, 2, 3, 4, 5], [0, 1, 2, 3, 4, 5, 6], [0, 1, 2, 3, 4, 5, 6], [0, 1, 2, 3, 4, 5, 6], [0, 1, 2, 3, 4, 5, 6], [0, 1, 2, 3, 4, 5, 6, 7, 8, 9, 10], [0, 1, 2, 3, 4, 5, 6, 7, 8, 9, 10, 11], [0, 1, 2, 3, 4, 5, 6, 7, 8, 9, 10, 11, 12], [0, 1, 2, 3, 4, 5, 6, 7, 8, 9, 10, 11, 12, 13]] 0 15 #[false, false, false, false, false, false, false, false, false, false, false, false, false, false, false] [2, 6, 10, 11] [106, 110, 118, 10118] [] ⟨45, [(2, .i k), (6, .p 106), (10, .p 110), (Zbi4 g1)], [Zbi0, (110, .box 1 4 [(.i N1), (.i S1), (.i T1), (.w 118 E3.length)]), (118, .fa E3), (Zbi1 g1)]⟩ (by kernel_rfl) hT (by kernel_rfl) (by kernel_rfl) (by kernel_rfl) (by kernel_rfl) trivial ?_)
  refine aany_walk (n := 11) (L := #[false, true, true, true, true, false, false, false, false, false, false, false, false, false, false]) (s' := ⟨45, [(6, .p 106), (10, .p 110), (Zbi5 g1), (36, .i k), (Zbi6 k)], [Zbi0, (110, .box 1 4 [(.i N1), (.i S1), (.i T1), (.w 118 E3.length)]), (118, .fa E3), (Zbi1 g1)]⟩) [] false 4 [6, 10, 35, 36, 38] [106, 110, 118, 10118] [(1, []), (2, []), (3, []), (4, [(-9223372036854775808 ≤ (k + 1) ∧ (k + 1) ≤ 9223372036854775807)])] (by kernel_rfl) hT (by kernel_rfl) ⟨trivial, trivial, trivial, ⟨(by omega), trivial⟩, trivial⟩ ?_
  refine aany_fork (n := 10) 0 5 (by kernel_rfl) ?_ ?_
  ·
   refine atake_step (n := 10) (L := #[true, true, true, true, true, false, false, false, false, false, false, false, false, false, false]) [] false [(0 < 1)] ⟨45, [(6, .p 106), (10, .p 110), (34, .agg [(.i N1), (.i S1), (.i T1), (.w 118 E3.length)]), (Zbi5 g1), (36, .i k), (Zbi6 k)], [Zbi0, (110, .box 1 4 [(.i N1), (.i S1), (.i T1), (.w 118 E3.length)]), (118, .fa E3), (Zbi1 g1)]⟩ (by kernel_rfl) hT (by kernel_rfl) ⟨(by decide), trivial⟩ ?_
   refine aany_weak (awk_cut [6, 34, 35, 36, 38] [106, 118, 10118] _) ?_
   show AAny Tryd.prog _ _ _ _ ⟨45, [(6, .p 106), (34, .agg [(.i N1), (.i S1), (.i T1), (.w 118 E3.length)]), (Zbi5 g1), (36, .i k), (Zbi6 k)], [Zbi0, (118, .fa E3), (Zbi1 g1)]⟩
   refine aany_call (n := 9) (k := 5) (L := #[true, true, true, true, true, true, false, false, false, false, false, false, false, false, false]) [(1, 10118)] [] false ⟨true, [], 34, [.w 1 g1.length, .i k, .i (k + 1)], [(1, .fi g1)]⟩ [.w 1 g1.length, .i k, .i (k + 1)] (sm := ⟨45, [(6, .p 106), (34, .agg [(.i N1), (.i S1), (.i T1), (.w 118 E3.length)]), (Zbi5 g1), (36, .i k), (Zbi6 k), (39, .whn false (.one .any))], [Zbi0, (118, .fa E3), (Zbi1 g1)]⟩) (by kernel_rfl) (by kernel_rfl) (by kernel_rfl) (by kernel_rfl) (by decide) (fun _ => trivial) rfl (fun _ => del_ints 1 g1 k (by omega) (by omega)) (fun _ v Hr hv => ?_) (fun h => by cases h)
   obtain ⟨rfl, rfl⟩ := hv
   refine ⟨⟨45, [(6, .p 106), (34, .agg [(.i N1), (.i S1), (.i T1), (.w 118 E3.length)]), (Zbi5 g1), (36, .i k), (Zbi6 k), (39, .w 10118 (g1.length - 1))], [Zbi0, (118, .fa E3), (10118, .fi (delI g1 (Int.toNat k)))]⟩, by kernel_rfl, ?_⟩
   refine aany_weak (awk_cut [6, 34, 39] [106, 118, 10118] _) ?_
   refine aany_weak (s' := ⟨45, [(6, .p 106), (34, .agg [(.i N1), (.i S1), (.i T1), (.w 118 E3.length)]), (39, .w 10118 (g1.length - 1))], [Zbi0, (118, .fa E3), (10118, .fi (List.take (g1.length - 1) (delI g1 (Int.toNat k))))]⟩) (awk_trunc 10118 39 (g1.length - 1) (.ints .i64 (delI g1 (Int.toNat k))) _ (by kernel_rfl) (by kernel_rfl) (by decide) (by show (g1.length - 1) ≤ List.length (delI g1 (Int.toNat k)); omega)) ?_
   rw [show (List.take (g1.length - 1) (delI g1 (Int.toNat k))) = f3 from hf3]
   rw [show (g1.length - 1) = f3.length from hf3l]
   refine aany_call (n := 8) (k := 6) (L := #[true, true, true, true, true, true, true, false, false, false, false, false, false, false, false]) [] [(9001, 140), (9002, 10140)] true ⟨true, [], 29, [.agg [(.i N1), (.i S1), (.i T1), (.ro (.arcs (List.take E3.length E3)))], .one (.ro (.ints .i64 (List.take f3.length f3)))], []⟩ [.agg (Zbi2 N1 S1 T1 E3), .one (.ro (.ints .i64 f3))] (sm := ⟨45, [(6, .p 106), (34, .agg [(.i N1), (.i S1), (.i T1), (.w 118 E3.length)]), (39, .w 10118 f3.length), (40, .whn false (.one .any))], [Zbi0, (118, .fa E3), (Zbi1 f3)]⟩) (by kernel_rfl) (by kernel_rfl) (by kernel_rfl) (by kernel_rfl) (by decide) (fun _ => trivial) (by rw [show (List.take E3.length E3) = E3 from List.take_of_length_le (by first | omega | simp)]; rw [show (List.take f3.length f3) = f3 from List.take_of_length_le (by first | omega | simp)]) (fun _ => rep_on N1 S1 T1 E3 f3 (by omega)) (fun _ v Hr hv => ?_) (fun h => by cases h)
   obtain ⟨g5, v5, hm5, rfl, rfl⟩ := hv
   refine ⟨⟨45, [(6, .p 106), (34, .agg [(.i N1), (.i S1), (.i T1), (.w 118 E3.length)]), (39, .w 10118 f3.length), (40, .tup [(true, [(.i N1), (.i S1), (.i T1), (.w 140 E3.length)]), (false, [(.w 10140 g5.length)]), (false, [(.i v5)]), (false, [(.i (flowErr N1 S1 T1 E3 f3))])])], [Zbi0, (118, .fa E3), (140, .fa E3), (Zbi1 f3), (Zbi8 g5)]⟩, by kernel_rfl, ?_⟩
   refine aany_weak (awk_cut [6, 40] [106, 140, 10140] _) ?_
   refine aany_end [] false [6, 7, 8, 9] [106, 140, 10140] 1 [(7, []), (8, []), (9, []), (10, []), (11, [(0 < 1)]), (12, []), (13, []), (14, [])] ⟨45, [(6, .p 106), (7, .w 10140 g5.length), (8, .i v5), (9, .i (flowErr N1 S1 T1 E3 f3))], [(106, .box 1 4 [(.i N1), (.i S1), (.i T1), (.w 140 E3.length)]), (140, .fa E3), (Zbi8 g5)]⟩ (by kernel_rfl) hT (by kernel_rfl) ⟨trivial, trivial, trivial, trivial, ⟨(by decide), trivial⟩, trivial, trivial, trivial, trivial⟩ ?_
   refine awp_weak (awk_ren 140 9001 (s' := ⟨45, [(6, .p 106), (7, .w 10140 g5.length), (8, .i v5), (9, .i (flowErr N1 S1 T1 E3 f3))], [(106, .box 1 4 (Zbi3 N1 S1 T1 E3)), (9001, .fa E3), (Zbi8 g5)]⟩) (by kernel_rfl)) ?_
   refine awp_weak (awk_ren 10140 9002 (s' := ⟨45, [(6, .p 106), (7, .w 9002 g5.length), (8, .i v5), (9, .i (flowErr N1 S1 T1 E3 f3))], [(106, .box 1 4 (Zbi3 N1 S1 T1 E3)), (9001, .fa E3), (9002, .fi g5)]⟩) (by kernel_rfl)) ?_
   refine awp_ret ?_
   refine kRet.ret _ [9001, 9002] [(0 < 1)] (.tup [(true, (Zbi3 N1 S1 T1 E3)), (false, [(.w 9002 g5.length)]), (false, [(.i v5)]), (false, [(.i (flowErr N1 S1 T1 E3 f3))])]) [(9001, .fa E3), (9002, .fi g5)] (by kernel_rfl) ⟨(by decide), trivial⟩ ?_
   exact ⟨N1, S1, T1, E3, g5, v5, (flowErr N1 S1 T1 E3 f3), (by rw [zN, zS, zT, hE4] at hm5 ⊢; obtain ⟨q1, q2⟩ := RepRes.good hfin hm5; exact ⟨q1.trans hY.symm, .inr ⟨hY, rfl, rfl, rfl, rfl, (q2.resolve_left (fun q => q.1 rfl)).2.2.2.2.2⟩⟩), (by kernel_rfl), (by kernel_rfl)⟩
  ·
   refine atake_call (n := 10) (k := 5) (L := #[false, true, true, true, true, true, false, false, false, false, false, false, false, false, false]) [(1, 10118)] [] false ⟨true, [], 34, [.w 1 g1.length, .i k, .i (k + 1)], [(1, .fi g1)]⟩ [.w 1 g1.length, .i k, .i (k + 1)] (sm := ⟨45, [(6, .p 106), (10, .p 110), (Zbi5 g1), (36, .i k), (Zbi6 k), (39, .whn false (.one .any))], [Zbi0, (110, .box 1 4 [(.i N1), (.i S1), (.i T1), (.w 118 E3.length)]), (118, .fa E3), (Zbi1 g1)]⟩) (by kernel_rfl) (by kernel_rfl) (by kernel_rfl) (by decide) (fun _ => trivial) rfl (fun _ => del_ints 1 g1 k (by omega) (by omega)) (fun _ v Hr hv => ?_) (fun h => by cases h)
   obtain ⟨rfl, rfl⟩ := hv
   refine ⟨⟨45, [(6, .p 106), (10, .p 110), (Zbi5 g1), (36, .i k), (Zbi6 k), (39, .w 10118 (g1.length - 1))], [Zbi0, (110, .box 1 4 [(.i N1), (.i S1), (.i T1), (.w 118 E3.length)]), (118, .fa E3), (10118, .fi (delI g1 (Int.toNat k)))]⟩, by kernel_rfl, ?_⟩
   refine aany_weak (awk_cut [6, 10, 39] [106, 110, 118, 10118] _) ?_
   refine aany_walk (n := 9) (L := #[true, true, true, true, true, true, false, false, false, false, false, false, false, false, false]) (s' := ⟨45, [(6, .p 106), (34, .agg [(.i N1), (.i S1), (.i T1), (.w 118 E3.length)]), (39, .w 10118 (g1.length - 1))], [Zbi0, (118, .fa E3), (10118, .fi (delI g1 (Int.toNat k)))]⟩) [] false 1 [6, 34, 39] [106, 118, 10118] [(0, [(0 < 1)])] (by kernel_rfl) hT (by kernel_rfl) ⟨⟨(by decide), trivial⟩, trivial⟩ ?_
   refine aany_weak (s' := ⟨45, [(6, .p 106), (34, .agg [(.i N1), (.i S1), (.i T1), (.w 118 E3.length)]), (39, .w 10118 (g1.length - 1))], [Zbi0, (118, .fa E3), (10118, .fi (List.take (g1.length - 1) (delI g1 (Int.toNat k))))]⟩) (awk_trunc 10118 39 (g1.length - 1) (.ints .i64 (delI g1 (Int.toNat k))) _ (by kernel_rfl) (by kernel_rfl) (by decide) (by show (g1.length - 1) ≤ List.length (delI g1 (Int.toNat k)); omega)) ?_
   rw [show (List.take (g1.length - 1) (delI g1 (Int.toNat k))) = f3 from hf3]
   rw [show (g1.length - 1) = f3.length from hf3l]
   refine aany_call (n := 8) (k := 6) (L := #[true, true, true, true, true, true, true, false, false, false, false, false, false, false, false]) [] [(9001, 140), (9002, 10140)] true ⟨true, [], 29, [.agg [(.i N1), (.i S1), (.i T1), (.ro (.arcs (List.take E3.length E3)))], .one (.ro (.ints .i64 (List.take f3.length f3)))], []⟩ [.agg (Zbi2 N1 S1 T1 E3), .one (.ro (.ints .i64 f3))] (sm := ⟨45, [(6, .p 106), (34, .agg [(.i N1), (.i S1), (.i T1), (.w 118 E3.length)]), (39, .w 10118 f3.length), (40, .whn false (.one .any))], [Zbi0, (118, .fa E3), (Zbi1 f3)]⟩) (by kernel_rfl) (by kernel_rfl) (by kernel_rfl) (by kernel_rfl) (by decide) (fun _ => trivial) (by rw [show (List.take E3.length E3) = E3 from List.take_of_length_le (by first | omega | simp)]; rw [show (List.take f3.length f3) = f3 from List.take_of_length_le (by first | omega | simp)]) (fun _ => rep_on N1 S1 T1 E3 f3 (by omega)) (fun _ v Hr hv => ?_) (fun h => by cases h)
   obtain ⟨g5, v5, hm5, rfl, rfl⟩ := hv
   refine ⟨⟨45, [(6, .p 106), (34, .agg [(.i N1), (.i S1), (.i T1), (.w 118 E3.length)]), (39, .w 10118 f3.length), (40, .tup [(true, [(.i N1), (.i S1), (.i T1), (.w 140 E3.length)]), (false, [(.w 10140 g5.length)]), (false, [(.i v5)]), (false, [(.i (flowErr N1 S1 T1 E3 f3))])])], [Zbi0, (118, .fa E3), (140, .fa E3), (Zbi1 f3), (Zbi8 g5)]⟩, by kernel_rfl, ?_⟩
   refine aany_weak (awk_cut [6, 40] [106, 140, 10140] _) ?_
   refine aany_end [] false [6, 7, 8, 9] [106, 140, 10140] 1 [(7, []), (8, []), (9, []), (10, []), (11, [(0 < 1)]), (12, []), (13, []), (14, [])] ⟨45, [(6, .p 106), (7, .w 10140 g5.length), (8, .i v5), (9, .i (flowErr N1 S1 T1 E3 f3))], [(106, .box 1 4 [(.i N1), (.i S1), (.i T1), (.w 140 E3.length)]), (140, .fa E3), (Zbi8 g5)]⟩ (by kernel_rfl) hT (by kernel_rfl) ⟨trivial, trivial, trivial, trivial, ⟨(by decide), trivial⟩, trivial, trivial, trivial, trivial⟩ ?_
   refine awp_weak (awk_ren 140 9001 (s' := ⟨45, [(6, .p 106), (7, .w 10140 g5.length), (8, .i v5), (9, .i (flowErr N1 S1 T1 E3 f3))], [(106, .box 1 4 (Zbi3 N1 S1 T1 E3)), (9001, .fa E3), (Zbi8 g5)]⟩) (by kernel_rfl)) ?_
   refine awp_weak (awk_ren 10140 9002 (s' := ⟨45, [(6, .p 106), (7, .w 9002 g5.length), (8, .i v5), (9, .i (flowErr N1 S1 T1 E3 f3))], [(106, .box 1 4 (Zbi3 N1 S1 T1 E3)), (9001, .fa E3), (9002, .fi g5)]⟩) (by kernel_rfl)) ?_
   refine awp_ret ?_
   refine kRet.ret _ [9001, 9002] [(0 < 1)] (.tup [(true, (Zbi3 N1 S1 T1 E3)), (false, [(.w 9002 g5.length)]), (false, [(.i v5)]), (false, [(.i (flowErr N1 S1 T1 E3 f3))])]) [(9001, .fa E3), (9002, .fi g5)] (by kernel_rfl) ⟨(by decide), trivial⟩ ?_
   exact ⟨N1, S1, T1, E3, g5, v5, (flowErr N1 S1 T1 E3 f3), (by rw [zN, zS, zT, hE4] at hm5 ⊢; obtain ⟨q1, q2⟩ := RepRes.good hfin hm5; exact ⟨q1.trans hY.symm, .inr ⟨hY, rfl, rfl, rfl, rfl, (q2.resolve_left (fun q => q.1 rfl)).2.2.2.2.2⟩⟩), (by kernel_rfl), (by kernel_rfl)⟩
end Go.Ab
namespace Go.Ab
open Go
theorem MOk_shape {M : Mem} (hM : MOk M) (id : Nat) (o o' : Obj) (h : look id M.H = some o) (hn : o.len = 0 → o'.len = 0) (hz : o'.len * o'.sz = o.len * o.sz) (hpl : o'.plain = true)
  (hc : ∀ i j, i < o'.len → j < o'.sz → ∃ i2 j2, i2 < o.len ∧ j2 < o.sz ∧ i2 * o.sz + j2 = i * o'.sz + j ∧ o'.cell i j = clrV (Nat.beq id) (o.cell i2 j2)) :
  MOk ⟨M.μ, ins id o' (mapV (clrO (Nat.beq id)) M.H), M.w, M.free⟩ ∧ Ext (Nat.beq id) M ⟨M.μ, ins id o' (mapV (clrO (Nat.beq id)) M.H), M.w, M.free⟩ := by
 have hlook : ∀ (x : Key) ox, lk (ins id o' (mapV (clrO (Nat.beq id)) M.H)) x = some ox → (x = (id, none) ∧ ox = o') ∨ (x.1 ≠ id ∧ ∃ o1, lk M.H x = some o1 ∧ ox = clrO (Nat.beq id) o1) := by
  intro x ox hx
  by_cases hxi : x.1 = id
  ·obtain ⟨x1, r⟩ := x
   simp only at hxi
   subst hxi
   cases r with
   | none =>
    rw [lk_ins_self] at hx
    cases hx
    exact .inl ⟨rfl, rfl⟩
   | some i => rw [lk_ins_row hpl] at hx; cases hx
  ·rw [lk_ins_ne hxi] at hx
   obtain ⟨o1, h1, rfl⟩ := lk_clr hx
   exact .inr ⟨hxi, o1, h1, rfl⟩
 have there : ∀ (x : Key) ox, lk (ins id o' (mapV (clrO (Nat.beq id)) M.H)) x = some ox → ∃ o1, lk M.H x = some o1 := by
  intro x ox hx
  rcases hlook x ox hx with ⟨rfl, _⟩ | ⟨_, o1, h4, _⟩
  ·exact ⟨_, h⟩
  ·exact ⟨o1, h4⟩
 have hext : Ext (Nat.beq id) M ⟨M.μ, ins id o' (mapV (clrO (Nat.beq id)) M.H), M.w, M.free⟩ := by
  refine ⟨⟨rfl, rfl, rfl, Nat.le_refl _, Nat.le_refl _, fun k hk hl => ⟨rfl, ?_⟩, fun _ h => h, fun _ h => .inl h⟩, fun x ox hx hl => ?_⟩
  ·rintro ⟨x, ox, q, h1, h2⟩
   obtain ⟨o1, h3⟩ := there x ox h1
   exact hl ⟨x, o1, q, h3, h2⟩
  ·have hxi : x.1 ≠ id := by
    intro e
    rw [e, beq_self] at hx
    cases hx
   refine ⟨clrO (Nat.beq id) ox, ?_, clrO_sz _ _, by rw [clrO_len]; exact Nat.le_refl _, rfl, fun b' q cur' e' hm hc' => ⟨cur', hc', rfl⟩⟩
   show lk (ins id o' (mapV (clrO (Nat.beq id)) M.H)) x = _
   rw [lk_ins_ne hxi]
   exact lk_clr_of hM.named hx hl
 refine ⟨⟨(hM.named.clr _).insP hpl, fun k hk => ⟨(hM.fr k hk).1, (hext.still k (hM.fr k hk).1 (hM.fr k hk).2).2⟩, fun x y ox oy b' q r hx hy hmx hmy => ?_, fun x ox hx hm => ?_, fun x ox b' q hx hm => ?_⟩, hext⟩
 ·obtain ⟨o1, h1⟩ := there x ox hx
  obtain ⟨o2, h2⟩ := there y oy hy
  exact hM.inj x y o1 o2 b' q r h1 h2 hmx hmy
 ·rcases hlook x ox hx with ⟨rfl, rfl⟩ | ⟨_, o1, h4, rfl⟩
  ·exact hn (hM.none_ (id, none) _ h hm)
  ·rw [clrO_len]; exact hM.none_ x o1 h4 hm
 ·rcases hlook x ox hx with ⟨rfl, rfl⟩ | ⟨_, o1, h4, rfl⟩
  ·obtain ⟨cur1, e1, g1, g2, g3⟩ := hM.obj (id, none) _ b' q h hm
   refine ⟨cur1, e1, g1, by rw [hz]; exact g2, fun i hi j hj => ?_⟩
   obtain ⟨i2, j2, k1, k2, k3, k4⟩ := hc i j hi hj
   obtain ⟨u, k5, k6, k7⟩ := g3 i2 k1 j2 k2
   exact ⟨u, by rw [← k3]; exact k5, k6, by rw [k4]; exact VR_ext hext k7⟩
  ·obtain ⟨cur1, e1, g1, g2, g3⟩ := hM.obj x o1 b' q h4 hm
   refine ⟨cur1, e1, g1, by rw [clrO_len, clrO_sz]; exact g2, fun i hi j hj => ?_⟩
   rw [clrO_len] at hi
   rw [clrO_sz] at hj ⊢
   obtain ⟨u, k1, k2, k3⟩ := g3 i hi j hj
   exact ⟨u, k1, k2, by rw [clrO_cell]; exact VR_ext hext k3⟩
theorem awk_shape (id d : Nat) (o o' : Obj) (s : St) (h : look id s.hp = some o) (hd : look d s.tm = some (.one (.ptr id 0 0))) (hb : big id = true) (hn : o.len = 0 → o'.len = 0) (hz : o'.len * o'.sz = o.len * o.sz)
  (hc : ∀ i j, i < o'.len → j < o'.sz → ∃ i2 j2, i2 < o.len ∧ j2 < o.sz ∧ i2 * o.sz + j2 = i * o'.sz + j ∧ o'.cell i j = clrV (Nat.beq id) (o.cell i2 j2)) (hpl : o'.plain = true := by rfl) :
  AWk s ⟨s.n, ins d (.one (.ptr id 0 0)) (mapV (clrA (Nat.beq id)) s.tm), ins id o' (mapV (clrO (Nat.beq id)) s.hp)⟩ := fun M a hr => by
 rw [← hr.hp] at h ⊢
 obtain ⟨h1, h2⟩ := MOk_shape hr.ok id o o' h hn hz hpl hc
 have h3 := hr.step rfl h1 h2
 refine ⟨_, ⟨rfl, h1, hr.defers, hr.size, fun e x he => ?_⟩, rfl, h2.mono (fun x hx => by have := Nat.eq_of_beq_eq_true hx; subst this; exact hb)⟩
 have he' : look e (ins d (.one (.ptr id 0 0)) (mapV (clrA (Nat.beq id)) s.tm)) = some x := he
 rw [look_ins] at he'
 by_cases hed : e = d
 ·rw [if_pos hed] at he'
  cases he'
  subst hed
  obtain ⟨u, hu, hv⟩ := hr.tm e _ hd
  refine ⟨u, hu, ?_⟩
  obtain ⟨o1, b, p, k1, k2, k3⟩ := hv
  refine ⟨o', b, p, lk_ins_self _ _ _, k2, ?_⟩
  rw [k3]; simp
 ·rw [if_neg hed] at he'
  exact h3.tm e x he'
end Go.Ab
namespace Go.Ab
variable {A : List Bool} {n : Nat} {vs : List V1}
theorem range_cells (hv : vs = (List.range n).map fun i => .bool (A.getD i false)) (j : Nat) (hj : j < n) : vs.getD j .any = .bool (A.getD j false) := by
 subst hv
 rw [List.getD_eq_getElem?_getD, List.getElem?_map, List.getElem?_range hj]
 rfl
theorem shape_one {id : Nat} (hl : A.length = n) (hv : vs = (List.range n).map fun i => .bool (A.getD i false)) :
  ∀ i j, i < (Obj.box 1 n vs).len → j < (Obj.box 1 n vs).sz → ∃ i2 j2, i2 < (Obj.flat (.bools A)).len ∧ j2 < (Obj.flat (.bools A)).sz ∧ i2 * (Obj.flat (.bools A)).sz + j2 = i * (Obj.box 1 n vs).sz + j ∧ (Obj.box 1 n vs).cell i j = clrV (Nat.beq id) ((Obj.flat (.bools A)).cell i2 j2) := fun i j hi hj => by
 have hi' : i < 1 := hi
 have hj' : j < n := hj
 obtain rfl : i = 0 := by omega
 refine ⟨j, 0, by show j < A.length; omega, by show 0 < 1; omega, by show j * 1 + 0 = 0 * n + j; omega, ?_⟩
 show vs.getD (0 * n + j) .any = _
 rw [Nat.zero_mul, Nat.zero_add, range_cells hv j hj']
 rfl
theorem shape_many {id : Nat} (hl : A.length = n) (hv : vs = (List.range n).map fun i => .bool (A.getD i false)) :
  ∀ i j, i < (Obj.flat (.bools A)).len → j < (Obj.flat (.bools A)).sz → ∃ i2 j2, i2 < (Obj.box 1 n vs).len ∧ j2 < (Obj.box 1 n vs).sz ∧ i2 * (Obj.box 1 n vs).sz + j2 = i * (Obj.flat (.bools A)).sz + j ∧ (Obj.flat (.bools A)).cell i j = clrV (Nat.beq id) ((Obj.box 1 n vs).cell i2 j2) := fun i j hi hj => by
 have hi' : i < A.length := hi
 have hj' : j < 1 := hj
 obtain rfl : j = 0 := by omega
 refine ⟨0, i, by show 0 < 1; omega, by show i < n; omega, by show 0 * n + i = i * 1 + 0; omega, ?_⟩
 show V1.bool (A.getD i false) = clrV _ (vs.getD (0 * n + i) .any)
 rw [Nat.zero_mul, Nat.zero_add, range_cells hv i (by omega)]
 rfl
end Go.Ab
