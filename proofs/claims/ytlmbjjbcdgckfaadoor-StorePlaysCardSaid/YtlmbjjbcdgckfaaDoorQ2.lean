/- Parts of the proof, without conditions. -/
import Derived.Test.YtlmbjjbcdgckfaaDoorKk
import Derived.Test.YtlmbjjbcdgckfaaDoorTab
import Derived.Test.YtlmbjjbcdgckfaaDoorQ1
import Derived.Test.YtlmbjjbcdgckfaaDoorAbC
import Derived.Test.YtlmbjjbcdgckfaaDoorPlA
import Derived.WalkKit
import Derived.Lib.SliceRun
import Derived.Laws.IdiomCopy
import Derived.Deep.LoopGhost
import Derived.Deep.RegionLaw
set_option maxRecDepth 100000
namespace Go.Ab
open Go Go.Proofs
abbrev ZL0 (a0 : Int) (a1 : Int) (a2 : Int) (a3 : List Arc) := ([(.i a0), (.i a1), (.i a2), (.ro (.arcs a3))] : List V1)
abbrev ZL1 (a0 : List Arc) := ((115, .fi (List.replicate a0.length (0 : Int))) : Nat × Obj)
theorem most_more (n s t : Int) (es : List Arc) (f : List Int) : ACall Tryd.prog 46 [.agg [(.i n), (.i s), (.i t), (.ro (.arcs es))], .one (.ro (.ints .i64 f))] [] (fun ov oh => ∃ (g : List Int) (v : Int), (MostOk n s t es (flowErr n s t es f) g v) ∧ ov = .tup [(false, [(.w 9001 g.length)]), (false, [(.i v)]), (false, [(.i (flowErr n s t es f))])] ∧ oh = [(9001, .fi g)]) := by
 refine acall_intro hT Tryd.func46 rfl (by kernel_rfl) rfl (by kernel_rfl) ?_
 refine kq [] ⟨64, [(1, .one (.ro (.ints .i64 f))), (2, .p 102)], [(102, .box 1 4 [(.i n), (.i s), (.i t), (.ro (.arcs es))])]⟩ hT (by kernel_rfl) trivial ?_
 refine awp_seq (awp_region ?_)
 refine ko 2 [(0 < 1)] ⟨64, [(1, .one (.ro (.ints .i64 f))), (2, .p 102), (15, .agg [(.i n), (.i s), (.i t), (.ro (.arcs es))]), (16, .one (.ro (.ints .i64 f)))], [(102, .box 1 4 [(.i n), (.i s), (.i t), (.ro (.arcs es))])]⟩ hT (by kernel_rfl) (by kernel_rfl) ⟨(by decide), trivial⟩ ?_
 refine aops_pure false ⟨true, [], 45, [.agg [(.i n), (.i s), (.i t), (.ro (.arcs es))], .one (.ro (.ints .i64 f))], []⟩ [.agg [(.i n), (.i s), (.i t), (.ro (.arcs es))], .one (.ro (.ints .i64 f))] (.tup [(false, [(.i (okI (flowErr n s t es f) (gone es f s)))]), (false, [(.i (flowErr n s t es f))])]) ⟨64, [(1, .one (.ro (.ints .i64 f))), (2, .p 102), (15, .agg [(.i n), (.i s), (.i t), (.ro (.arcs es))]), (16, .one (.ro (.ints .i64 f))), (17, .tup [(false, [(.i (okI (flowErr n s t es f) (gone es f s)))]), (false, [(.i (flowErr n s t es f))])])], [(102, .box 1 4 [(.i n), (.i s), (.i t), (.ro (.arcs es))])]⟩ (by kernel_rfl) (by kernel_rfl) (fun _ => trivial) rfl (fun _ => flow_value n s t es f) ?_
 refine ko 5 [] ⟨64, [(1, .one (.ro (.ints .i64 f))), (2, .p 102), (7, .i (okI (flowErr n s t es f) (gone es f s))), (8, .i (flowErr n s t es f))], [(102, .box 1 4 [(.i n), (.i s), (.i t), (.ro (.arcs es))])]⟩ hT (by kernel_rfl) (by kernel_rfl) trivial ?_
 refine aops_end_seq (by kernel_rfl) ?_
 refine awp_seq ?_
 refine kq [] ⟨64, [(1, .one (.ro (.ints .i64 f))), (2, .p 102), (7, .i (okI (flowErr n s t es f) (gone es f s))), (8, .i (flowErr n s t es f)), (21, .one (.bool (decide ((flowErr n s t es f) ≠ 0))))], [(102, .box 1 4 [(.i n), (.i s), (.i t), (.ro (.arcs es))])]⟩ hT (by kernel_rfl) trivial ?_
 refine awp_cond (b := (decide ((flowErr n s t es f) ≠ 0))) (by kernel_rfl) (fun c2 => ?_) (fun c2 => ?_)
 ·
  try simp only [bs] at c2
  refine kq [] ⟨64, [(4, .one .nils), (5, .i 0), (6, .i (flowErr n s t es f))], []⟩ hT (by kernel_rfl) trivial ?_
  refine awp_weak (awk_empty 5004 (.fi []) rfl (by decide) _) ?_
  refine awp_weak (awk_slot 4 (.one .nils) (.w 5004 0) _ (by kernel_rfl) (.one (wkv_nils (o := .fi []) (by kernel_rfl)))) ?_
  refine awp_weak (awk_ren 5004 9001 (s' := ⟨64, [(4, .w 9001 0), (5, .i 0), (6, .i (flowErr n s t es f))], [(9001, .fi [])]⟩) (by kernel_rfl)) ?_
  refine awp_ret ?_
  refine kRet.ret _ [9001] [] (.tup [(false, [(.w 9001 0)]), (false, [(.i 0)]), (false, [(.i (flowErr n s t es f))])]) [(9001, .fi [])] (by kernel_rfl) trivial ?_
  exact ⟨[], 0, (by exact .inl ⟨c2, rfl, rfl⟩), (by kernel_rfl), (by kernel_rfl)⟩
 ·
  try simp only [bs] at c2
  have hE : flowErr n s t es f = 0 := by omega
  have hfl := flowErr_ok hE
  have hok := hfl.net
  have h1 := hok.n1
  have h2 := hok.n2
  have h3 := hok.len
  have h4 := hok.s0
  have h5 := hok.s1
  have h6 := hok.t0
  have h7 := hok.t1
  have hlen := hfl.fin.len
  have hf10 := hfl.f10
  refine awp_skip ?_
  refine kq [(0 = 0), ((0 + f.length) * 8 ≤ 140737488355328), ((0 + f.length) ≤ 9223372036854775807)] ⟨64, [(2, .p 102), (7, .i (okI (flowErr n s t es f) (gone es f s))), (9, .w 123 (0 + f.length))], [(102, .box 1 4 [(.i n), (.i s), (.i t), (.ro (.arcs es))]), (123, .fi f)]⟩ hT (by kernel_rfl) ⟨(by decide), (by omega), (by omega), trivial⟩ ?_
  refine awp_block ?_
  refine awp_loop (I := fun κ σ => ∃ (o : List Int) (u : Int), ((FlOk n s t es o) ∧ (gone es o s = u) ∧ (600000 - u).toNat = κ) ∧ σ = ⟨64, [(2, .p 102), (7, .i u), (9, .w 123 o.length)], [(102, .box 1 4 [(.i n), (.i s), (.i t), (.ro (.arcs es))]), (123, .fi o)]⟩) _ ⟨f, (okI (flowErr n s t es f) (gone es f s)), ⟨(by exact hfl), (by exact (okI_ok _ hE).symm), rfl⟩, (by first | (simp only [lens]; done) | (simp only [Nat.zero_add]; done) | simp only [lens, Nat.zero_add])⟩ ?_
  rintro κ _ ⟨o, u, ⟨hfo, hv, rfl⟩, rfl⟩
  have hok := hfo.net
  have hfi := hfo.fin
  have hbd := hfo.bound s
  refine awp_block ?_
  refine awp_seq (awp_region ?_)
  refine ko 2 [(0 < 1)] ⟨64, [(2, .p 102), (7, .i u), (9, .w 123 o.length), (27, .agg [(.i n), (.i s), (.i t), (.ro (.arcs es))]), (28, .w 123 o.length)], [(102, .box 1 4 [(.i n), (.i s), (.i t), (.ro (.arcs es))]), (123, .fi o)]⟩ hT (by kernel_rfl) (by kernel_rfl) ⟨(by decide), trivial⟩ ?_
  refine aops_call [] [(9001, 129)] true ⟨true, [], 60, [.agg [(.i n), (.i s), (.i t), (.ro (.arcs es))], .one (.ro (.ints .i64 (List.take o.length o)))], []⟩ [.agg [(.i n), (.i s), (.i t), (.ro (.arcs es))], .one (.ro (.ints .i64 o))] (sm := ⟨64, [(2, .p 102), (7, .i u), (9, .w 123 o.length), (27, .agg [(.i n), (.i s), (.i t), (.ro (.arcs es))]), (28, .w 123 o.length), (29, .whn false (.one .any))], [(102, .box 1 4 [(.i n), (.i s), (.i t), (.ro (.arcs es))]), (123, .fi o)]⟩) (by kernel_rfl) (by kernel_rfl) (by decide) (fun _ => trivial) (by rw [show (List.take o.length o) = o from List.take_of_length_le (by first | omega | simp)]) (fun _ => most_way n s t es o (by assumption) (by assumption)) (fun _ v Hr hv => ?_) (fun h => by cases h)
  obtain ⟨l5, room5, hw5, rfl, rfl⟩ := hv
  refine ⟨⟨64, [(2, .p 102), (7, .i u), (9, .w 123 o.length), (27, .agg [(.i n), (.i s), (.i t), (.ro (.arcs es))]), (28, .w 123 o.length), (29, .tup [(false, [(.w 129 l5.length)]), (false, [(.i room5)])])], [(102, .box 1 4 [(.i n), (.i s), (.i t), (.ro (.arcs es))]), (123, .fi o), (129, .flat (.steps l5))]⟩, by kernel_rfl, ?_⟩
  refine ko 5 [] ⟨64, [(2, .p 102), (7, .i u), (9, .w 123 o.length), (10, .w 129 l5.length), (11, .i room5)], [(102, .box 1 4 [(.i n), (.i s), (.i t), (.ro (.arcs es))]), (123, .fi o), (129, .flat (.steps l5))]⟩ hT (by kernel_rfl) (by kernel_rfl) trivial ?_
  refine aops_end_seq (by kernel_rfl) ?_
  refine awp_seq ?_
  refine kq [] ⟨64, [(2, .p 102), (7, .i u), (9, .w 123 o.length), (10, .w 129 l5.length), (11, .i room5), (33, .one (.bool (decide (room5 = 0))))], [(102, .box 1 4 [(.i n), (.i s), (.i t), (.ro (.arcs es))]), (123, .fi o), (129, .flat (.steps l5))]⟩ hT (by kernel_rfl) trivial ?_
  refine awp_cond (b := (decide (room5 = 0))) (by kernel_rfl) (fun c6 => ?_) (fun c6 => ?_)
  ·
   try simp only [bs] at c6
   have hmax : u = (parted n s t es).1 := by
    rcases hw5 with ⟨_, _, z, z1, z2⟩ | ⟨w1, _⟩
    ·rw [← hv]; exact greatest hfo z1 z2
    ·omega
   refine kq [] ⟨64, [(4, .w 123 o.length), (5, .i u), (6, .i 0)], [(123, .fi o)]⟩ hT (by kernel_rfl) trivial ?_
   refine awp_weak (awk_ren 123 9001 (s' := ⟨64, [(4, .w 9001 o.length), (5, .i u), (6, .i 0)], [(9001, .fi o)]⟩) (by kernel_rfl)) ?_
   refine awp_ret ?_
   refine kRet.ret _ [9001] [] (.tup [(false, [(.w 9001 o.length)]), (false, [(.i u)]), (false, [(.i 0)])]) [(9001, .fi o)] (by kernel_rfl) trivial ?_
   exact ⟨o, u, (by exact .inr ⟨hE, hfo, hv, hmax⟩), (by rw [hE]), (by kernel_rfl)⟩
  ·
   try simp only [bs] at c6
   rcases hw5 with ⟨w0, _⟩ | ⟨w0, w1, w2, w3, w4, w5⟩
   ·exact absurd w0 c6
   have hal := hfo.along w0 w2 w3 w4
   have hbd2 := hal.1.bound s
   refine awp_skip ?_
   refine awp_seq ?_
   refine kq [] ⟨64, [(2, .p 102), (7, .i u), (9, .w 123 o.length), (11, .i room5), (36, .w 129 l5.length), (37, .i ((l5.length : Nat) : Int)), (38, .i 0)], [(102, .box 1 4 [(.i n), (.i s), (.i t), (.ro (.arcs es))]), (123, .fi o), (129, .flat (.steps l5))]⟩ hT (by kernel_rfl) trivial ?_
   refine awp_block ?_
   refine awp_loop (I := fun κ σ => ∃ (j : Nat) (o2 : List Int), ((j ≤ l5.length) ∧ (o2 = (l5.take j).foldl (augStep room5) o) ∧ l5.length - j = κ) ∧ σ = ⟨64, [(2, .p 102), (7, .i u), (9, .w 123 o.length), (11, .i room5), (36, .w 129 l5.length), (37, .i ((l5.length : Nat) : Int)), (38, .i (j : Int))], [(102, .box 1 4 [(.i n), (.i s), (.i t), (.ro (.arcs es))]), (123, .fi o2), (129, .flat (.steps l5))]⟩) _ ⟨0, o, ⟨(by omega), (by rfl), rfl⟩, (by kernel_rfl)⟩ ?_
   rintro κ _ ⟨j, o2, ⟨hj, ho, rfl⟩, rfl⟩
   refine kq [] ⟨64, [(2, .p 102), (7, .i u), (9, .w 123 o.length), (11, .i room5), (36, .w 129 l5.length), (37, .i ((l5.length : Nat) : Int)), (38, .i (j : Int)), (39, .one (.bool (decide ((j : Int) < ((l5.length : Nat) : Int)))))], [(102, .box 1 4 [(.i n), (.i s), (.i t), (.ro (.arcs es))]), (123, .fi o2), (129, .flat (.steps l5))]⟩ hT (by kernel_rfl) trivial ?_
   refine awp_seq ?_
   refine awp_cond (b := (decide ((j : Int) < ((l5.length : Nat) : Int)))) (by kernel_rfl) (fun c9 => ?_) (fun c9 => ?_)
   ·
    try simp only [bs] at c9
    have hjl : j < l5.length := by omega
    have hpm : l5.getD j (0, false) ∈ l5 := getD_mem hjl
    have hwi := w2.ends.within _ hpm
    have hrm := w4 _ hpm
    have hat := hfi.at_ (l5.getD j (0, false)).1.toNat (by omega)
    have hge : o2.getD (l5.getD j (0, false)).1.toNat 0 = o.getD (l5.getD j (0, false)).1.toNat 0 := by
     rw [ho]
     refine aug_get _ _ _ (fun q hq => ?_)
     have h1 := w3.at_ (d := (0, false)) hjl q hq
     have h2 := (w2.ends.within q (List.mem_of_mem_take hq)).1
     omega
    have hol : o2.length = o.length := by rw [ho]; exact aug_len _ _ _
    have hfl2 := hfi.len
    obtain ⟨_, _, _, _, _, hcap⟩ := hok.at_ (i := (l5.getD j (0, false)).1.toNat) (by omega)
    unfold room1 at hrm
    refine awp_skip ?_
    refine awp_seq ?_
    refine awp_block ?_
    refine kq [((0 : Int) ≤ (j : Int)), ((j : Int) < ((l5.length : Nat) : Int)), (j < l5.length), (0 < 1)] ⟨64, [(2, .p 102), (7, .i u), (9, .w 123 o.length), (11, .i room5), (13, .p 113), (36, .w 129 l5.length), (37, .i ((l5.length : Nat) : Int)), (38, .i (j : Int))], [(102, .box 1 4 [(.i n), (.i s), (.i t), (.ro (.arcs es))]), (113, .box 1 2 [(.i ((List.getD l5 j (0, false)).1)), (.bool ((List.getD l5 j (0, false)).2))]), (123, .fi o2), (129, .flat (.steps l5))]⟩ hT (by kernel_rfl) ⟨(by omega), (by omega), (by omega), (by decide), trivial⟩ ?_
    refine kq [(0 < 1)] ⟨64, [(2, .p 102), (7, .i u), (9, .w 123 o.length), (11, .i room5), (13, .p 113), (36, .w 129 l5.length), (37, .i ((l5.length : Nat) : Int)), (38, .i (j : Int)), (43, .one (.bool ((List.getD l5 j (0, false)).2)))], [(102, .box 1 4 [(.i n), (.i s), (.i t), (.ro (.arcs es))]), (113, .box 1 2 [(.i ((List.getD l5 j (0, false)).1)), (.bool ((List.getD l5 j (0, false)).2))]), (123, .fi o2), (129, .flat (.steps l5))]⟩ hT (by kernel_rfl) ⟨(by decide), trivial⟩ ?_
    refine awp_cond (b := ((List.getD l5 j (0, false)).2)) (by kernel_rfl) (fun c11 => ?_) (fun c11 => ?_)
    ·
     try simp only [bs] at c11
     rw [if_pos c11] at hrm
     have hst : o2.set (l5.getD j (0, false)).1.toNat (o2.getD (l5.getD j (0, false)).1.toNat 0 - room5) = [l5.getD j (0, false)].foldl (augStep room5) o2 := by simp only [List.foldl_cons, List.foldl_nil, augStep]; rw [if_pos c11]
     refine kr [(0 < 1), ((0 : Int) ≤ ((List.getD l5 j (0, false)).1)), (((List.getD l5 j (0, false)).1) < ((o.length : Nat) : Int)), ((Int.toNat ((List.getD l5 j (0, false)).1)) < o2.length), (-9223372036854775808 ≤ ((List.getD o2 (Int.toNat ((List.getD l5 j (0, false)).1)) 0) - room5) ∧ ((List.getD o2 (Int.toNat ((List.getD l5 j (0, false)).1)) 0) - room5) ≤ 9223372036854775807), ((0 : Int) ≤ ((List.getD l5 j (0, false)).1)), (((List.getD l5 j (0, false)).1) < ((o.length : Nat) : Int)), ((Int.toNat ((List.getD l5 j (0, false)).1)) < o2.length)] ⟨64, [(2, .p 102), (7, .i u), (9, .w 123 o.length), (11, .i room5), (36, .w 129 l5.length), (37, .i ((l5.length : Nat) : Int)), (38, .i (j : Int))], [(102, .box 1 4 [(.i n), (.i s), (.i t), (.ro (.arcs es))]), (123, .fi (List.set o2 (Int.toNat ((List.getD l5 j (0, false)).1)) ((List.getD o2 (Int.toNat ((List.getD l5 j (0, false)).1)) 0) - room5))), (129, .flat (.steps l5))]⟩ hT (by kernel_rfl) ⟨(by decide), (by omega), (by omega), (by omega), (by omega), (by omega), (by omega), (by omega), trivial⟩ ?_
     refine kr [(-9223372036854775808 ≤ (((j + 1) : Nat) : Int) ∧ (((j + 1) : Nat) : Int) ≤ 9223372036854775807)] ⟨64, [(2, .p 102), (7, .i u), (9, .w 123 o.length), (11, .i room5), (36, .w 129 l5.length), (37, .i ((l5.length : Nat) : Int)), (38, .i (((j + 1) : Nat) : Int))], [(102, .box 1 4 [(.i n), (.i s), (.i t), (.ro (.arcs es))]), (123, .fi (List.set o2 (Int.toNat ((List.getD l5 j (0, false)).1)) ((List.getD o2 (Int.toNat ((List.getD l5 j (0, false)).1)) 0) - room5))), (129, .flat (.steps l5))]⟩ hT (by kernel_rfl) ⟨(by omega), trivial⟩ ?_
     refine loop_end _ ?_ ⟨(j + 1), (List.set o2 (Int.toNat ((List.getD l5 j (0, false)).1)) ((List.getD o2 (Int.toNat ((List.getD l5 j (0, false)).1)) 0) - room5)), ⟨(by omega), (by rw [take_getD l5 (0, false) j (by omega), List.foldl_append, ← ho]; exact hst), rfl⟩, (by kernel_rfl)⟩
     omega
    ·
     try simp only [bs] at c11
     rw [if_neg (by rw [c11]; decide)] at hrm
     have hst : o2.set (l5.getD j (0, false)).1.toNat (o2.getD (l5.getD j (0, false)).1.toNat 0 + room5) = [l5.getD j (0, false)].foldl (augStep room5) o2 := by simp only [List.foldl_cons, List.foldl_nil, augStep]; rw [if_neg (by rw [c11]; decide)]
     refine kr [(0 < 1), ((0 : Int) ≤ ((List.getD l5 j (0, false)).1)), (((List.getD l5 j (0, false)).1) < ((o.length : Nat) : Int)), ((Int.toNat ((List.getD l5 j (0, false)).1)) < o2.length), (-9223372036854775808 ≤ ((List.getD o2 (Int.toNat ((List.getD l5 j (0, false)).1)) 0) + room5) ∧ ((List.getD o2 (Int.toNat ((List.getD l5 j (0, false)).1)) 0) + room5) ≤ 9223372036854775807), ((0 : Int) ≤ ((List.getD l5 j (0, false)).1)), (((List.getD l5 j (0, false)).1) < ((o.length : Nat) : Int)), ((Int.toNat ((List.getD l5 j (0, false)).1)) < o2.length)] ⟨64, [(2, .p 102), (7, .i u), (9, .w 123 o.length), (11, .i room5), (36, .w 129 l5.length), (37, .i ((l5.length : Nat) : Int)), (38, .i (j : Int))], [(102, .box 1 4 [(.i n), (.i s), (.i t), (.ro (.arcs es))]), (123, .fi (List.set o2 (Int.toNat ((List.getD l5 j (0, false)).1)) ((List.getD o2 (Int.toNat ((List.getD l5 j (0, false)).1)) 0) + room5))), (129, .flat (.steps l5))]⟩ hT (by kernel_rfl) ⟨(by decide), (by omega), (by omega), (by omega), (by omega), (by omega), (by omega), (by omega), trivial⟩ ?_
     refine kr [(-9223372036854775808 ≤ (((j + 1) : Nat) : Int) ∧ (((j + 1) : Nat) : Int) ≤ 9223372036854775807)] ⟨64, [(2, .p 102), (7, .i u), (9, .w 123 o.length), (11, .i room5), (36, .w 129 l5.length), (37, .i ((l5.length : Nat) : Int)), (38, .i (((j + 1) : Nat) : Int))], [(102, .box 1 4 [(.i n), (.i s), (.i t), (.ro (.arcs es))]), (123, .fi (List.set o2 (Int.toNat ((List.getD l5 j (0, false)).1)) ((List.getD o2 (Int.toNat ((List.getD l5 j (0, false)).1)) 0) + room5))), (129, .flat (.steps l5))]⟩ hT (by kernel_rfl) ⟨(by omega), trivial⟩ ?_
     refine loop_end _ ?_ ⟨(j + 1), (List.set o2 (Int.toNat ((List.getD l5 j (0, false)).1)) ((List.getD o2 (Int.toNat ((List.getD l5 j (0, false)).1)) 0) + room5)), ⟨(by omega), (by rw [take_getD l5 (0, false) j (by omega), List.foldl_append, ← ho]; exact hst), rfl⟩, (by kernel_rfl)⟩
     omega
   ·
    try simp only [bs] at c9
    have hol : o2.length = o.length := by rw [ho]; exact aug_len _ _ _
    refine awp_exit ?_
    refine kr [(-9223372036854775808 ≤ (u + room5) ∧ (u + room5) ≤ 9223372036854775807)] ⟨64, [(2, .p 102), (7, .i (u + room5)), (9, .w 123 o.length)], [(102, .box 1 4 [(.i n), (.i s), (.i t), (.ro (.arcs es))]), (123, .fi o2)]⟩ hT (by kernel_rfl) ⟨(by omega), trivial⟩ ?_
    refine loop_end _ ?_ ⟨o2, (u + room5), ⟨(by rw [ho, List.take_of_length_le (by omega)]; exact hal.1), (by rw [ho, List.take_of_length_le (by omega)]; omega), rfl⟩, (by rw [hol])⟩
    omega
theorem most_of (n s t : Int) (es : List Arc) : ACall Tryd.prog 37 [.agg (ZL0 n s t es)] [] (fun ov oh => ∃ (g : List Int) (v : Int), (MostOk n s t es (netErr n s t es) g v) ∧ ov = .tup [(false, [(.w 9001 g.length)]), (false, [(.i v)]), (false, [(.i (netErr n s t es))])] ∧ oh = [(9001, .fi g)]) := by
 refine acall_intro hT Tryd.func37 rfl (by kernel_rfl) rfl (by kernel_rfl) ?_
 refine kq [] ⟨20, [(1, .p 101)], [(101, .box 1 4 (ZL0 n s t es))]⟩ hT (by kernel_rfl) trivial ?_
 refine awp_seq ?_
 refine awp_seq (awp_region ?_)
 refine ko 1 [(0 < 1)] ⟨20, [(1, .p 101), (6, .agg (ZL0 n s t es))], [(101, .box 1 4 (ZL0 n s t es))]⟩ hT (by kernel_rfl) (by kernel_rfl) ⟨(by decide), trivial⟩ ?_
 refine aops_pure false ⟨true, [], 13, [.agg (ZL0 n s t es)], []⟩ [.agg (ZL0 n s t es)] (.i (netErr n s t es)) ⟨20, [(1, .p 101), (6, .agg (ZL0 n s t es)), (7, .i (netErr n s t es))], [(101, .box 1 4 (ZL0 n s t es))]⟩ (by kernel_rfl) (by kernel_rfl) (fun _ => trivial) rfl (fun _ => graph_CheckNet n s t es) ?_
 refine ko 1 [] ⟨20, [(1, .p 101), (5, .i (netErr n s t es))], [(101, .box 1 4 (ZL0 n s t es))]⟩ hT (by kernel_rfl) (by kernel_rfl) trivial ?_
 refine aops_end_seq (by kernel_rfl) ?_
 refine kq [] ⟨20, [(1, .p 101), (5, .i (netErr n s t es)), (9, .one (.bool (decide ((netErr n s t es) ≠ 0))))], [(101, .box 1 4 (ZL0 n s t es))]⟩ hT (by kernel_rfl) trivial ?_
 refine awp_cond (b := (decide ((netErr n s t es) ≠ 0))) (by kernel_rfl) (fun c2 => ?_) (fun c2 => ?_)
 ·
  try simp only [bs] at c2
  refine kq [] ⟨20, [(2, .one .nils), (3, .i 0), (4, .i (netErr n s t es))], []⟩ hT (by kernel_rfl) trivial ?_
  refine awp_weak (awk_empty 5002 (.fi []) rfl (by decide) _) ?_
  refine awp_weak (awk_slot 2 (.one .nils) (.w 5002 0) _ (by kernel_rfl) (.one (wkv_nils (o := .fi []) (by kernel_rfl)))) ?_
  refine awp_weak (awk_ren 5002 9001 (s' := ⟨20, [(2, .w 9001 0), (3, .i 0), (4, .i (netErr n s t es))], [(9001, .fi [])]⟩) (by kernel_rfl)) ?_
  refine awp_ret ?_
  refine kRet.ret _ [9001] [] (.tup [(false, [(.w 9001 0)]), (false, [(.i 0)]), (false, [(.i (netErr n s t es))])]) [(9001, .fi [])] (by kernel_rfl) trivial ?_
  exact ⟨[], 0, (by exact .inl ⟨c2, rfl, rfl⟩), (by kernel_rfl), (by kernel_rfl)⟩
 ·
  try simp only [bs] at c2
  have hE : netErr n s t es = 0 := by omega
  have hok := netErr_ok hE
  have h1 := hok.n1
  have h2 := hok.n2
  have h3 := hok.len
  have h4 := hok.s0
  have h5 := hok.s1
  have h6 := hok.t0
  have h7 := hok.t1
  have hz := flowErr_zeros hE
  refine awp_skip ?_
  refine awp_seq (awp_calm3 [] false [[], [], [1], [1, 2], [1, 2, 3], [0, 1, 2, 3, 4], [0, 1, 2, 3, 4, 5], [0, 1, 2, 3, 4, 5], [0, 1, 2, 3, 4, 5], [0, 1, 2, 3, 4, 5, 6, 7, 8], [0, 1, 2, 3, 4, 5, 6, 7, 8, 9], [0, 1, 2, 3, 4, 5, 6, 7, 8, 9, 10]] 5 7 #[true, true, true, true, true, false, false, false, false, false, false, false] [11, 15] [115] [(0, [(0 < 1)]), (1, []), (2, [(0 < 1)]), (3, []), (4, [((0 : Int) ≤ ((es.length : Nat) : Int)), (((es.length : Nat) : Int) ≤ ((es.length : Nat) : Int)), ((8 : Int) * ((es.length : Nat) : Int) ≤ 281474976710656), (((es.length : Nat) : Int) ≤ 9223372036854775807)])] ⟨20, [(11, .agg (ZL0 n s t es)), (15, .w 115 es.length)], [(ZL1 es)]⟩ (by kernel_rfl) hT (by kernel_rfl) (by kernel_rfl) (by kernel_rfl) (by kernel_rfl) ⟨⟨(by decide), trivial⟩, trivial, ⟨(by decide), trivial⟩, trivial, ⟨(by omega), (by omega), (by omega), (by omega), trivial⟩, trivial⟩ ?_)
  refine aany_call (n := 6) (k := 5) (L := #[true, true, true, true, true, true, false, false, false, false, false, false]) [] [(9001, 116)] true ⟨true, [], 46, [.agg (ZL0 n s t es), .one (.ro (.ints .i64 (List.take es.length (List.replicate es.length (0 : Int)))))], []⟩ [.agg (ZL0 n s t es), .one (.ro (.ints .i64 (List.replicate es.length (0 : Int))))] (sm := ⟨20, [(11, .agg (ZL0 n s t es)), (15, .w 115 es.length), (16, .whn false (.one .any))], [(ZL1 es)]⟩) (by kernel_rfl) (by kernel_rfl) (by kernel_rfl) (by kernel_rfl) (by decide) (fun _ => trivial) (by rw [show (List.take es.length (List.replicate es.length (0 : Int))) = (List.replicate es.length (0 : Int)) from List.take_of_length_le (by first | omega | simp)]) (fun _ => most_more n s t es (List.replicate es.length (0 : Int))) (fun _ v Hr hv => ?_) (fun h => by cases h)
  obtain ⟨g4, v4, hm4, rfl, rfl⟩ := hv
  refine ⟨⟨20, [(11, .agg (ZL0 n s t es)), (15, .w 115 es.length), (16, .tup [(false, [(.w 116 g4.length)]), (false, [(.i v4)]), (false, [(.i (flowErr n s t es (List.replicate es.length (0 : Int))))])])], [(ZL1 es), (116, .fi g4)]⟩, by kernel_rfl, ?_⟩
  refine aany_weak (awk_cut [16] [116] _) ?_
  refine aany_end [] false [2, 3, 4] [116] 1 [(6, []), (7, []), (8, []), (9, []), (10, []), (11, [])] ⟨20, [(2, .w 116 g4.length), (3, .i v4), (4, .i (flowErr n s t es (List.replicate es.length (0 : Int))))], [(116, .fi g4)]⟩ (by kernel_rfl) hT (by kernel_rfl) ⟨trivial, trivial, trivial, trivial, trivial, trivial, trivial⟩ ?_
  refine awp_weak (awk_ren 116 9001 (s' := ⟨20, [(2, .w 9001 g4.length), (3, .i v4), (4, .i (flowErr n s t es (List.replicate es.length (0 : Int))))], [(9001, .fi g4)]⟩) (by kernel_rfl)) ?_
  refine awp_ret ?_
  refine kRet.ret _ [9001] [] (.tup [(false, [(.w 9001 g4.length)]), (false, [(.i v4)]), (false, [(.i (flowErr n s t es (List.replicate es.length (0 : Int))))])]) [(9001, .fi g4)] (by kernel_rfl) trivial ?_
  exact ⟨g4, v4, (by rw [hz] at hm4; rw [hE]; exact hm4), (by rw [hz, hE]), (by kernel_rfl)⟩
end Go.Ab
set_option maxRecDepth 100000
namespace Go.Ab
open Go Go.Proofs
abbrev ZsG (g : Bool) : Prop := g = true → g = true
abbrev ZsT (g : Bool) : Prop := g = true → (g = true → g = true)
abbrev Zsb0 (a0 : List Int) (a1) (a2 : List Arc) := ((decide ((List.getD a0 a1 0) < ((List.getD a2 a1 default).cap))) : Bool)
abbrev Zsb1 (a0 : List Int) (a1) := ((decide ((0 : Int) < (List.getD a0 a1 0))) : Bool)
abbrev Zs0 (a0 : Int) (a1 : Int) (a2 : Int) (a3 : List Arc) := ([(.i a0), (.i a1), (.i a2), (.ro (.arcs a3))] : List V1)
abbrev Zs10 (a0 : List Arc) (a1) := ((.i ((List.getD a0 a1 default).src)) : V1)
abbrev Zs11 (a0 : List Arc) (a1) := ((.i ((List.getD a0 a1 default).dst)) : V1)
abbrev Zs1 (a0 : Int) (a1 : Int) (a2 : Int) (a3 : List Arc) (a4) := ([(104, .box 1 4 (Zs0 a0 a1 a2 a3)), (111, .box 1 3 [(Zs10 a3 a4), (Zs11 a3 a4), (.i ((List.getD a3 a4 default).cap))])] : List (Nat × Obj))
abbrev Zs2 (a0 : List Arc) := ((22, .i ((a0.length : Nat) : Int)) : Nat × AV)
abbrev Zs3 (a0 : List Int) := ((1, .one (.ro (.ints .i64 a0))) : Nat × AV)
abbrev Zs4 (a0) := ((18, .i (a0 : Int)) : Nat × AV)
abbrev Zs5 (a0) := ((23, .i (a0 : Int)) : Nat × AV)
abbrev Zs6 (a0 : Bool) (a1 : List Arc) (a2) := ((12, .i (cond a0 ((List.getD a1 a2 default).dst) ((List.getD a1 a2 default).src))) : Nat × AV)
abbrev Zs7 (a0 : Int) (a1 : Int) (a2 : Int) (a3 : List Arc) := ([(104, .box 1 4 (Zs0 a0 a1 a2 a3))] : List (Nat × Obj))
abbrev Zs8 (a0) := ((10, .i (a0 : Int)) : Nat × AV)
abbrev Zs9 (a0 : Bool) (a1 : List Arc) (a2) := ((13, .i (cond a0 ((List.getD a1 a2 default).src) ((List.getD a1 a2 default).dst))) : Nat × AV)
abbrev Zs12 (a0 : List Int) := ((110, .fi a0) : Nat × Obj)
theorem cut_spread (n s t : Int) (es : List Arc) (f : List Int) (a : Int) (tr : Bool) (hok : GOk n es 0) (hlen : f.length = es.length) (ha0 : 0 ≤ a) (ha1 : a < n) : ACall Tryd.prog 38 [.agg (Zs0 n s t es), .one (.ro (.ints .i64 f)), .i a, .one (.bool tr)] [] (fun ov oh => ∃ (z : Int), (SprOk es f tr n a z) ∧ ov = .one (.int .u16 z) ∧ oh = []) := by
 refine acall_intro hT Tryd.func38 rfl (by kernel_rfl) rfl (by kernel_rfl) ?_
 have h1 := hok.n1
 have h2 := hok.n2
 have h3 := hok.len
 have hpa := pw16 ha0 (by omega)
 refine kq [] ⟨72, [(Zs3 f), (2, .i a), (3, .one (.bool tr)), (4, .p 104)], (Zs7 n s t es)⟩ hT (by kernel_rfl) trivial ?_
 refine kq [((0 : Int) ≤ a), (a ≤ 16), (0 ≤ ((1 : Int) * 2 ^ (Int.toNat a)) ∧ ((1 : Int) * 2 ^ (Int.toNat a)) ≤ 65535)] ⟨72, [(Zs3 f), (3, .one (.bool tr)), (4, .p 104), (9, .one (.int .u16 ((1 : Int) * 2 ^ (Int.toNat a))))], (Zs7 n s t es)⟩ hT (by kernel_rfl) ⟨(by omega), (by omega), (by omega), trivial⟩ ?_
 refine awp_seq ?_
 refine kq [(0 < 1)] ⟨72, [(Zs3 f), (3, .one (.bool tr)), (4, .p 104), (9, .one (.int .u16 ((1 : Int) * 2 ^ (Int.toNat a)))), (17, .i n), (18, .i 0)], (Zs7 n s t es)⟩ hT (by kernel_rfl) ⟨(by decide), trivial⟩ ?_
 refine awp_block ?_
 refine awp_loop (I := fun κ σ => ∃ (i : Nat) (z : Int), ((i ≤ n.toNat) ∧ (Sp es f tr n a z) ∧ (Clo es f tr z ∨ i + 1 ≤ many z n.toNat) ∧ n.toNat - i = κ) ∧ σ = ⟨72, [(Zs3 f), (3, .one (.bool tr)), (4, .p 104), (9, .one (.int .u16 z)), (17, .i n), (Zs4 i)], (Zs7 n s t es)⟩) _ ⟨0, ((1 : Int) * 2 ^ (Int.toNat a)), ⟨(by omega), (by exact Sp.start ha0 ha1), (by exact .inr (Sp.many1 (Sp.start (es := es) (f := f) (tr := tr) ha0 ha1) ha0 ha1)), rfl⟩, (by kernel_rfl)⟩ ?_
 rintro κ _ ⟨i, z, ⟨hi, hs, hp, rfl⟩, rfl⟩
 refine kq [] ⟨72, [(Zs3 f), (3, .one (.bool tr)), (4, .p 104), (9, .one (.int .u16 z)), (17, .i n), (Zs4 i), (19, .one (.bool (decide ((i : Int) < n))))], (Zs7 n s t es)⟩ hT (by kernel_rfl) trivial ?_
 refine awp_seq ?_
 refine awp_cond (b := (decide ((i : Int) < n))) (by kernel_rfl) (fun c3 => ?_) (fun c3 => ?_)
 ·
  try simp only [bs] at c3
  refine awp_skip ?_
  refine awp_seq ?_
  refine awp_block ?_
  refine kq [(0 < 1)] ⟨72, [(Zs3 f), (3, .one (.bool tr)), (4, .p 104), (9, .one (.int .u16 z)), (17, .i n), (Zs4 i), (21, .one (.ro (.arcs es))), (Zs2 es), (23, .i 0)], (Zs7 n s t es)⟩ hT (by kernel_rfl) ⟨(by decide), trivial⟩ ?_
  refine awp_block ?_
  refine awp_loop (I := fun κ σ => ∃ (j : Nat) (y : Int), ((j ≤ es.length) ∧ (Sp es f tr n a y) ∧ (Pass es f tr z y j) ∧ es.length - j = κ) ∧ σ = ⟨72, [(Zs3 f), (3, .one (.bool tr)), (4, .p 104), (9, .one (.int .u16 y)), (17, .i n), (Zs4 i), (21, .one (.ro (.arcs es))), (Zs2 es), (Zs5 j)], (Zs7 n s t es)⟩) _ ⟨0, z, ⟨(by omega), (by exact hs), (by exact Pass.start), rfl⟩, (by kernel_rfl)⟩ ?_
  rintro κ _ ⟨j, y, ⟨hj, hs2, hps, rfl⟩, rfl⟩
  refine kq [] ⟨72, [(Zs3 f), (3, .one (.bool tr)), (4, .p 104), (9, .one (.int .u16 y)), (17, .i n), (Zs4 i), (21, .one (.ro (.arcs es))), (Zs2 es), (Zs5 j), (24, .one (.bool (decide ((j : Int) < ((es.length : Nat) : Int)))))], (Zs7 n s t es)⟩ hT (by kernel_rfl) trivial ?_
  refine awp_seq ?_
  refine awp_cond (b := (decide ((j : Int) < ((es.length : Nat) : Int)))) (by kernel_rfl) (fun c5 => ?_) (fun c5 => ?_)
  ·
   try simp only [bs] at c5
   have cj : j < es.length := by omega
   obtain ⟨a1, a2, a3, a4, a5, a6⟩ := hok.at_ cj
   have hx : 0 ≤ cond tr (es.getD j default).dst (es.getD j default).src ∧ cond tr (es.getD j default).dst (es.getD j default).src < n := by cases tr <;> simp only [cond_true, cond_false] <;> omega
   have hy : 0 ≤ cond tr (es.getD j default).src (es.getD j default).dst ∧ cond tr (es.getD j default).src (es.getD j default).dst < n := by cases tr <;> simp only [cond_true, cond_false] <;> omega
   have hpx := pw16 hx.1 (by omega)
   have hpy := pw16 hy.1 (by omega)
   have hy16 := hs2.in16 h2
   have hq1 := shr_in (cond tr (es.getD j default).dst (es.getD j default).src) hy16.1 hy16.2.1
   refine awp_skip ?_
   refine awp_seq ?_
   refine awp_block ?_
   refine kq [((0 : Int) ≤ (j : Int)), ((j : Int) < ((es.length : Nat) : Int)), (0 < 1)] ⟨72, [(Zs3 f), (3, .one (.bool tr)), (4, .p 104), (9, .one (.int .u16 y)), (Zs8 j), (11, .p 111), (17, .i n), (Zs4 i), (21, .one (.ro (.arcs es))), (Zs2 es), (Zs5 j)], (Zs1 n s t es j)⟩ hT (by kernel_rfl) ⟨(by omega), (by omega), (by decide), trivial⟩ ?_
   refine awp_seq (awp_still [1, 3, 4, 9, 10, 11, 12, 13, 17, 18, 21, 22, 23] [104, 111] [(0 < 1), (0 < 1)] ⟨72, [(Zs3 f), (3, .one (.bool tr)), (4, .p 104), (9, .one (.int .u16 y)), (Zs8 j), (11, .p 111), (12, .one (Zs10 es j)), (13, .one (Zs11 es j)), (17, .i n), (Zs4 i), (21, .one (.ro (.arcs es))), (Zs2 es), (Zs5 j)], (Zs1 n s t es j)⟩ (by kernel_rfl) (by kernel_rfl) hT (by kernel_rfl) ⟨(by decide), (by decide), trivial⟩ ?_)
   refine awp_seq ?_
   refine kq [] ⟨72, [(Zs3 f), (3, .one (.bool tr)), (4, .p 104), (9, .one (.int .u16 y)), (Zs8 j), (11, .p 111), (12, .one (Zs10 es j)), (13, .one (Zs11 es j)), (17, .i n), (Zs4 i), (21, .one (.ro (.arcs es))), (Zs2 es), (Zs5 j), (32, .one (.bool tr))], (Zs1 n s t es j)⟩ hT (by kernel_rfl) trivial ?_
   refine awp_cond_join_tail (b := tr) (fun bb => ⟨72, [(Zs3 f), (3, .one (.bool tr)), (4, .p 104), (9, .one (.int .u16 y)), (Zs8 j), (11, .p 111), (12, .i (cond bb ((List.getD es j default).dst) ((List.getD es j default).src))), (13, .i (cond bb ((List.getD es j default).src) ((List.getD es j default).dst))), (17, .i n), (Zs4 i), (21, .one (.ro (.arcs es))), (Zs2 es), (Zs5 j)], (Zs1 n s t es j)⟩) (by kernel_rfl) (fun c8 => ?_) (fun c8 => ?_) ?_
   ·
    refine kr [] ⟨72, [(Zs3 f), (3, .one (.bool tr)), (4, .p 104), (9, .one (.int .u16 y)), (Zs8 j), (11, .p 111), (12, .one (Zs11 es j)), (13, .one (Zs10 es j)), (17, .i n), (Zs4 i), (21, .one (.ro (.arcs es))), (Zs2 es), (Zs5 j)], (Zs1 n s t es j)⟩ hT (by kernel_rfl) trivial ?_
    exact jend (by kernel_rfl)
   ·
    refine kv ⟨72, [(Zs3 f), (3, .one (.bool tr)), (4, .p 104), (9, .one (.int .u16 y)), (Zs8 j), (11, .p 111), (12, .one (Zs10 es j)), (13, .one (Zs11 es j)), (17, .i n), (Zs4 i), (21, .one (.ro (.arcs es))), (Zs2 es), (Zs5 j)], (Zs1 n s t es j)⟩ (by kernel_rfl) ?_
    refine awp_skip ?_
    exact jend (by kernel_rfl)
   refine awp_seq ?_
   refine awp_seq (awp_still [1, 3, 4, 9, 10, 12, 13, 17, 18, 21, 22, 23, 48] [104] [((0 : Int) ≤ (j : Int)), ((j : Int) < ((f.length : Nat) : Int)), (0 < 1), (ZsT (Zsb0 f j es)), (ZsT (Zsb0 f j es)), ((Zsb0 f j es) = true → ((0 : Int) ≤ (cond tr ((List.getD es j default).dst) ((List.getD es j default).src)))), ((Zsb0 f j es) = true → ((cond tr ((List.getD es j default).dst) ((List.getD es j default).src)) ≤ 16)), (ZsT (Zsb0 f j es)), ((Zsb0 f j es) = true → ((0 : Int) ≤ (y / 2 ^ (Int.toNat (cond tr ((List.getD es j default).dst) ((List.getD es j default).src)))) ∧ (0 ≤ (y / 2 ^ (Int.toNat (cond tr ((List.getD es j default).dst) ((List.getD es j default).src)))) ∧ (y / 2 ^ (Int.toNat (cond tr ((List.getD es j default).dst) ((List.getD es j default).src)))) ≤ 65535))), ((Zsb0 f j es) = true → ((0 : Int) ≤ 1 ∧ (0 ≤ (1 : Int) ∧ (1 : Int) ≤ 65535))), (ZsT (Zsb0 f j es)), (ZsG (Zsb0 f j es))] ⟨72, [(Zs3 f), (3, .one (.bool tr)), (4, .p 104), (9, .one (.int .u16 y)), (Zs8 j), (Zs6 tr es j), (Zs9 tr es j), (17, .i n), (Zs4 i), (21, .one (.ro (.arcs es))), (Zs2 es), (Zs5 j), (48, .one (.bool ((decide ((List.getD f j 0) < ((List.getD es j default).cap))) && (decide ((iand (y / 2 ^ (Int.toNat (cond tr ((List.getD es j default).dst) ((List.getD es j default).src)))) 1) = 1)))))], (Zs7 n s t es)⟩ (by kernel_rfl) (by kernel_rfl) hT (by kernel_rfl) ⟨(by omega), (by omega), (by decide), (fun _ h => h), (fun _ h => h), (by intro hg; simp only [bs, Zsb0] at hg; omega), (by intro hg; simp only [bs, Zsb0] at hg; omega), (fun _ h => h), (by intro hg; simp only [bs, Zsb0] at hg; omega), (by intro hg; simp only [bs, Zsb0] at hg; omega), (fun _ h => h), id, trivial⟩ ?_)
   refine awp_join_tail (fun σ => ∃ (z1 : Int), (z1 = if f.getD j 0 < (es.getD j default).cap ∧ has y (xOf tr (es.getD j default)).toNat = true then ior y (1 * 2 ^ (yOf tr (es.getD j default)).toNat) else y) ∧ (0 ≤ z1 ∧ z1 ≤ 65535) ∧ σ = ⟨72, [(Zs3 f), (3, .one (.bool tr)), (4, .p 104), (9, .one (.int .u16 z1)), (Zs8 j), (Zs6 tr es j), (Zs9 tr es j), (17, .i n), (Zs4 i), (21, .one (.ro (.arcs es))), (Zs2 es), (Zs5 j)], (Zs7 n s t es)⟩) ?_ ?_
   ·
    refine awp_cond (b := ((decide ((List.getD f j 0) < ((List.getD es j default).cap))) && (decide ((iand (y / 2 ^ (Int.toNat (cond tr ((List.getD es j default).dst) ((List.getD es j default).src)))) 1) = 1)))) (by kernel_rfl) (fun c10 => ?_) (fun c10 => ?_)
    ·
     try simp only [bs] at c10
     refine kr [((0 : Int) ≤ (cond tr ((List.getD es j default).src) ((List.getD es j default).dst))), ((cond tr ((List.getD es j default).src) ((List.getD es j default).dst)) ≤ 16), (0 ≤ ((1 : Int) * 2 ^ (Int.toNat (cond tr ((List.getD es j default).src) ((List.getD es j default).dst)))) ∧ ((1 : Int) * 2 ^ (Int.toNat (cond tr ((List.getD es j default).src) ((List.getD es j default).dst)))) ≤ 65535), ((0 : Int) ≤ y ∧ (0 ≤ y ∧ y ≤ 65535)), ((0 : Int) ≤ ((1 : Int) * 2 ^ (Int.toNat (cond tr ((List.getD es j default).src) ((List.getD es j default).dst)))) ∧ (0 ≤ ((1 : Int) * 2 ^ (Int.toNat (cond tr ((List.getD es j default).src) ((List.getD es j default).dst)))) ∧ ((1 : Int) * 2 ^ (Int.toNat (cond tr ((List.getD es j default).src) ((List.getD es j default).dst)))) ≤ 65535))] ⟨72, [(Zs3 f), (3, .one (.bool tr)), (4, .p 104), (9, .one (.int .u16 (ior y ((1 : Int) * 2 ^ (Int.toNat (cond tr ((List.getD es j default).src) ((List.getD es j default).dst))))))), (Zs8 j), (Zs6 tr es j), (Zs9 tr es j), (17, .i n), (Zs4 i), (21, .one (.ro (.arcs es))), (Zs2 es), (Zs5 j)], (Zs7 n s t es)⟩ hT (by kernel_rfl) ⟨(by omega), (by omega), (by omega), (by omega), (by omega), trivial⟩ ?_
     exact jend ⟨(ior y ((1 : Int) * 2 ^ (Int.toNat (cond tr ((List.getD es j default).src) ((List.getD es j default).dst))))), (by exact (if_pos ⟨c10.1, (bit_yes (v := xOf tr (es.getD j default)) hy16.1).1 c10.2⟩).symm), (by exact ior_in hy16.1 hy16.2.1 hpy.1 (by omega)), (by kernel_rfl)⟩
    ·
     try simp only [bs] at c10
     refine kv ⟨72, [(Zs3 f), (3, .one (.bool tr)), (4, .p 104), (9, .one (.int .u16 y)), (Zs8 j), (Zs6 tr es j), (Zs9 tr es j), (17, .i n), (Zs4 i), (21, .one (.ro (.arcs es))), (Zs2 es), (Zs5 j)], (Zs7 n s t es)⟩ (by kernel_rfl) ?_
     refine awp_skip ?_
     exact jend ⟨y, (by exact (if_neg (fun h => by have h5 := (bit_yes (v := xOf tr (es.getD j default)) hy16.1).2 h.2; simp only [bit, xOf] at h5; omega)).symm), (by omega), (by kernel_rfl)⟩
   rintro _ ⟨z1, h1, hr1, rfl⟩
   have hq2 := shr_in (cond tr (es.getD j default).src (es.getD j default).dst) hr1.1 hr1.2
   refine kq [((0 : Int) ≤ (j : Int)), ((j : Int) < ((f.length : Nat) : Int)), (ZsT (Zsb1 f j)), (ZsT (Zsb1 f j)), ((Zsb1 f j) = true → ((0 : Int) ≤ (cond tr ((List.getD es j default).src) ((List.getD es j default).dst)))), ((Zsb1 f j) = true → ((cond tr ((List.getD es j default).src) ((List.getD es j default).dst)) ≤ 16)), (ZsT (Zsb1 f j)), ((Zsb1 f j) = true → ((0 : Int) ≤ (z1 / 2 ^ (Int.toNat (cond tr ((List.getD es j default).src) ((List.getD es j default).dst)))) ∧ (0 ≤ (z1 / 2 ^ (Int.toNat (cond tr ((List.getD es j default).src) ((List.getD es j default).dst)))) ∧ (z1 / 2 ^ (Int.toNat (cond tr ((List.getD es j default).src) ((List.getD es j default).dst)))) ≤ 65535))), ((Zsb1 f j) = true → ((0 : Int) ≤ 1 ∧ (0 ≤ (1 : Int) ∧ (1 : Int) ≤ 65535))), (ZsT (Zsb1 f j)), (ZsG (Zsb1 f j))] ⟨72, [(Zs3 f), (3, .one (.bool tr)), (4, .p 104), (9, .one (.int .u16 z1)), (Zs6 tr es j), (17, .i n), (Zs4 i), (21, .one (.ro (.arcs es))), (Zs2 es), (Zs5 j), (64, .one (.bool ((decide ((0 : Int) < (List.getD f j 0))) && (decide ((iand (z1 / 2 ^ (Int.toNat (cond tr ((List.getD es j default).src) ((List.getD es j default).dst)))) 1) = 1)))))], (Zs7 n s t es)⟩ hT (by kernel_rfl) ⟨(by omega), (by omega), (fun _ h => h), (fun _ h => h), (by intro hg; simp only [bs, Zsb1] at hg; omega), (by intro hg; simp only [bs, Zsb1] at hg; omega), (fun _ h => h), (by intro hg; simp only [bs, Zsb1] at hg; omega), (by intro hg; simp only [bs, Zsb1] at hg; omega), (fun _ h => h), id, trivial⟩ ?_
   refine awp_join_any (fun σ => ∃ (z2 : Int), (z2 = if 0 < f.getD j 0 ∧ has z1 (yOf tr (es.getD j default)).toNat = true then ior z1 (1 * 2 ^ (xOf tr (es.getD j default)).toNat) else z1) ∧ σ = ⟨72, [(Zs3 f), (3, .one (.bool tr)), (4, .p 104), (9, .one (.int .u16 z2)), (17, .i n), (Zs4 i), (21, .one (.ro (.arcs es))), (Zs2 es), (Zs5 j)], (Zs7 n s t es)⟩) ?_ ?_
   ·
    refine awp_cond (b := ((decide ((0 : Int) < (List.getD f j 0))) && (decide ((iand (z1 / 2 ^ (Int.toNat (cond tr ((List.getD es j default).src) ((List.getD es j default).dst)))) 1) = 1)))) (by kernel_rfl) (fun c12 => ?_) (fun c12 => ?_)
    ·
     try simp only [bs] at c12
     refine kr [((0 : Int) ≤ (cond tr ((List.getD es j default).dst) ((List.getD es j default).src))), ((cond tr ((List.getD es j default).dst) ((List.getD es j default).src)) ≤ 16), (0 ≤ ((1 : Int) * 2 ^ (Int.toNat (cond tr ((List.getD es j default).dst) ((List.getD es j default).src)))) ∧ ((1 : Int) * 2 ^ (Int.toNat (cond tr ((List.getD es j default).dst) ((List.getD es j default).src)))) ≤ 65535), ((0 : Int) ≤ z1 ∧ (0 ≤ z1 ∧ z1 ≤ 65535)), ((0 : Int) ≤ ((1 : Int) * 2 ^ (Int.toNat (cond tr ((List.getD es j default).dst) ((List.getD es j default).src)))) ∧ (0 ≤ ((1 : Int) * 2 ^ (Int.toNat (cond tr ((List.getD es j default).dst) ((List.getD es j default).src)))) ∧ ((1 : Int) * 2 ^ (Int.toNat (cond tr ((List.getD es j default).dst) ((List.getD es j default).src)))) ≤ 65535))] ⟨72, [(Zs3 f), (3, .one (.bool tr)), (4, .p 104), (9, .one (.int .u16 (ior z1 ((1 : Int) * 2 ^ (Int.toNat (cond tr ((List.getD es j default).dst) ((List.getD es j default).src))))))), (17, .i n), (Zs4 i), (21, .one (.ro (.arcs es))), (Zs2 es), (Zs5 j)], (Zs7 n s t es)⟩ hT (by kernel_rfl) ⟨(by omega), (by omega), (by omega), (by omega), (by omega), trivial⟩ ?_
     exact jend ⟨(ior z1 ((1 : Int) * 2 ^ (Int.toNat (cond tr ((List.getD es j default).dst) ((List.getD es j default).src))))), (by exact (if_pos ⟨c12.1, (bit_yes (v := yOf tr (es.getD j default)) hr1.1).1 c12.2⟩).symm), (by kernel_rfl)⟩
    ·
     try simp only [bs] at c12
     refine kv ⟨72, [(Zs3 f), (3, .one (.bool tr)), (4, .p 104), (9, .one (.int .u16 z1)), (17, .i n), (Zs4 i), (21, .one (.ro (.arcs es))), (Zs2 es), (Zs5 j)], (Zs7 n s t es)⟩ (by kernel_rfl) ?_
     refine awp_skip ?_
     exact jend ⟨z1, (by exact (if_neg (fun h => by have h5 := (bit_yes (v := yOf tr (es.getD j default)) hr1.1).2 h.2; simp only [bit, yOf] at h5; omega)).symm), (by kernel_rfl)⟩
   rintro _ ⟨z2, h2, rfl⟩
   have hst := hps.step hs2 hs.z0 h1 h2 cj (show (cond tr (es.getD j default).dst (es.getD j default).src).toNat < n.toNat by omega) (show (cond tr (es.getD j default).src (es.getD j default).dst).toNat < n.toNat by omega)
   refine kr [(-9223372036854775808 ≤ (((j + 1) : Nat) : Int) ∧ (((j + 1) : Nat) : Int) ≤ 9223372036854775807)] ⟨72, [(Zs3 f), (3, .one (.bool tr)), (4, .p 104), (9, .one (.int .u16 z2)), (17, .i n), (Zs4 i), (21, .one (.ro (.arcs es))), (Zs2 es), (23, .i (((j + 1) : Nat) : Int))], (Zs7 n s t es)⟩ hT (by kernel_rfl) ⟨(by omega), trivial⟩ ?_
   refine loop_end _ ?_ ⟨(j + 1), z2, ⟨(by omega), (by exact hst.1), (by exact hst.2), rfl⟩, (by kernel_rfl)⟩
   omega
  ·
   try simp only [bs] at c5
   refine awp_exit ?_
   refine kr [(-9223372036854775808 ≤ (((i + 1) : Nat) : Int) ∧ (((i + 1) : Nat) : Int) ≤ 9223372036854775807)] ⟨72, [(Zs3 f), (3, .one (.bool tr)), (4, .p 104), (9, .one (.int .u16 y)), (17, .i n), (18, .i (((i + 1) : Nat) : Int))], (Zs7 n s t es)⟩ hT (by kernel_rfl) ⟨(by omega), trivial⟩ ?_
   refine loop_end _ ?_ ⟨(i + 1), y, ⟨(by omega), (by exact hs2), (by exact hps.end_ (by omega) hs hs2 hp), rfl⟩, (by kernel_rfl)⟩
   omega
 ·
  try simp only [bs] at c3
  refine awp_exit ?_
  refine kq [] ⟨72, [(8, .one (.int .u16 z))], []⟩ hT (by kernel_rfl) trivial ?_
  refine awp_ret ?_
  refine kRet.ret _ [] [] (.one (.int .u16 z)) [] (by kernel_rfl) trivial ?_
  exact ⟨z, (by exact ⟨hs, Sp.done hp (by omega)⟩), (by kernel_rfl), (by kernel_rfl)⟩
theorem cut_least (n s t : Int) (es : List Arc) : ACall Tryd.prog 21 [.agg (Zs0 n s t es)] [] (fun ov oh => ov = .tup [(false, [(.int .u16 (okI (netErr n s t es) (parted n s t es).2.1))]), (false, [(.i (okI (netErr n s t es) (parted n s t es).1))]), (false, [(.i (netErr n s t es))])] ∧ oh = []) := by
 refine acall_intro hT Tryd.func21 rfl (by kernel_rfl) rfl (by kernel_rfl) ?_
 refine kq [] ⟨23, [(1, .p 101)], [(101, .box 1 4 (Zs0 n s t es))]⟩ hT (by kernel_rfl) trivial ?_
 refine awp_seq (awp_region ?_)
 refine ko 1 [(0 < 1)] ⟨23, [(1, .p 101), (9, .agg (Zs0 n s t es))], [(101, .box 1 4 (Zs0 n s t es))]⟩ hT (by kernel_rfl) (by kernel_rfl) ⟨(by decide), trivial⟩ ?_
 refine aops_call [] [(9001, 110)] false ⟨true, [], 37, [.agg (Zs0 n s t es)], []⟩ [.agg (Zs0 n s t es)] (sm := ⟨23, [(1, .p 101), (9, .agg (Zs0 n s t es)), (10, .whn false (.one .any))], [(101, .box 1 4 (Zs0 n s t es))]⟩) (by kernel_rfl) (by kernel_rfl) (by decide) (fun _ => trivial) rfl (fun _ => most_of n s t es) (fun _ v Hr hv => ?_) (fun h => by cases h)
 obtain ⟨g1, v1, hm1, rfl, rfl⟩ := hv
 refine ⟨⟨23, [(1, .p 101), (9, .agg (Zs0 n s t es)), (10, .tup [(false, [(.w 110 g1.length)]), (false, [(.i v1)]), (false, [(.i (netErr n s t es))])])], [(101, .box 1 4 (Zs0 n s t es)), (Zs12 g1)]⟩, by kernel_rfl, ?_⟩
 refine ko 7 [] ⟨23, [(1, .p 101), (5, .w 110 g1.length), (6, .i v1), (7, .i (netErr n s t es))], [(101, .box 1 4 (Zs0 n s t es)), (Zs12 g1)]⟩ hT (by kernel_rfl) (by kernel_rfl) trivial ?_
 refine aops_end_seq (by kernel_rfl) ?_
 refine awp_seq ?_
 refine kq [] ⟨23, [(1, .p 101), (5, .w 110 g1.length), (6, .i v1), (7, .i (netErr n s t es)), (15, .one (.bool (decide ((netErr n s t es) ≠ 0))))], [(101, .box 1 4 (Zs0 n s t es)), (Zs12 g1)]⟩ hT (by kernel_rfl) trivial ?_
 refine awp_cond (b := (decide ((netErr n s t es) ≠ 0))) (by kernel_rfl) (fun c2 => ?_) (fun c2 => ?_)
 ·
  try simp only [bs] at c2
  refine kq [] ⟨23, [(2, .one (.int .u16 0)), (3, .i 0), (4, .i (netErr n s t es))], []⟩ hT (by kernel_rfl) trivial ?_
  refine awp_ret ?_
  refine kRet.ret _ [] [] (.tup [(false, [(.int .u16 0)]), (false, [(.i 0)]), (false, [(.i (netErr n s t es))])]) [] (by kernel_rfl) trivial ?_
  exact ⟨by first | rw [show (okI (netErr n s t es) (parted n s t es).2.1) = 0 from Eq.symm (by first | exact (okI_no _ c2).symm | exact (okL_no _ c2).symm), show (okI (netErr n s t es) (parted n s t es).1) = 0 from Eq.symm (by first | exact (okI_no _ c2).symm | exact (okL_no _ c2).symm)] | rw [show (okI (netErr n s t es) (parted n s t es).2.1) = 0 from Eq.symm (by first | exact (okI_no _ c2).symm | exact (okL_no _ c2).symm)] | rw [show (okI (netErr n s t es) (parted n s t es).1) = 0 from Eq.symm (by first | exact (okI_no _ c2).symm | exact (okL_no _ c2).symm)], rfl⟩
 ·
  try simp only [bs] at c2
  have hE : netErr n s t es = 0 := by omega
  obtain ⟨k0, _⟩ | ⟨k0, hfo, hgv, hgp⟩ := hm1
  ·exact absurd k0 (by omega)
  have hok := hfo.net
  have hG := hok.toGOk
  have h1 := hok.n1
  have h2 := hok.n2
  have h4 := hok.s0
  have h5 := hok.s1
  have h6 := hok.t0
  have h7 := hok.t1
  have hgl := hfo.fin.len
  refine awp_skip ?_
  refine awp_seq (awp_region ?_)
  refine ko 4 [(0 < 1), (0 < 1)] ⟨23, [(6, .i v1), (17, .agg (Zs0 n s t es)), (18, .w 110 g1.length), (20, .i s)], [(Zs12 g1)]⟩ hT (by kernel_rfl) (by kernel_rfl) ⟨(by decide), (by decide), trivial⟩ ?_
  refine aops_call [] [] true ⟨true, [], 38, [.agg (Zs0 n s t es), .one (.ro (.ints .i64 (List.take g1.length g1))), .i s, .one (.bool false)], []⟩ [.agg (Zs0 n s t es), .one (.ro (.ints .i64 g1)), .i s, .one (.bool false)] (sm := ⟨23, [(6, .i v1), (17, .agg (Zs0 n s t es)), (18, .w 110 g1.length), (20, .i s), (21, .whn false (.one .any))], [(Zs12 g1)]⟩) (by kernel_rfl) (by kernel_rfl) (by decide) (fun _ => trivial) (by rw [show (List.take g1.length g1) = g1 from List.take_of_length_le (by first | omega | simp)]) (fun _ => cut_spread n s t es g1 s false (by assumption) (by assumption) (by assumption) (by assumption)) (fun _ v Hr hv => ?_) (fun h => by cases h)
  obtain ⟨z4, hz4, rfl, rfl⟩ := hv
  refine ⟨⟨23, [(6, .i v1), (17, .agg (Zs0 n s t es)), (18, .w 110 g1.length), (20, .i s), (21, .one (.int .u16 z4))], [(Zs12 g1)]⟩, by kernel_rfl, ?_⟩
  refine ko 4 [] ⟨23, [(2, .one (.int .u16 z4)), (3, .i v1), (4, .i 0)], []⟩ hT (by kernel_rfl) (by kernel_rfl) trivial ?_
  refine aops_end_seq (by kernel_rfl) ?_
  refine awp_ret ?_
  have hlow := spread_low hfo (hgv.trans hgp) hz4
  refine kRet.ret _ [] [] (.tup [(false, [(.int .u16 z4)]), (false, [(.i v1)]), (false, [(.i 0)])]) [] (by kernel_rfl) trivial ?_
  exact ⟨by first | rw [show (okI (netErr n s t es) (parted n s t es).2.1) = z4 from Eq.symm (by first | exact hE.symm | (rw [okI_ok _ hE]; exact hlow.2.symm) | (rw [okI_ok _ hE]; exact hgp)), show (okI (netErr n s t es) (parted n s t es).1) = v1 from Eq.symm (by first | exact hE.symm | (rw [okI_ok _ hE]; exact hlow.2.symm) | (rw [okI_ok _ hE]; exact hgp)), show (netErr n s t es) = 0 from Eq.symm (by first | exact hE.symm | (rw [okI_ok _ hE]; exact hlow.2.symm) | (rw [okI_ok _ hE]; exact hgp))] | rw [show (okI (netErr n s t es) (parted n s t es).2.1) = z4 from Eq.symm (by first | exact hE.symm | (rw [okI_ok _ hE]; exact hlow.2.symm) | (rw [okI_ok _ hE]; exact hgp))] | rw [show (okI (netErr n s t es) (parted n s t es).1) = v1 from Eq.symm (by first | exact hE.symm | (rw [okI_ok _ hE]; exact hlow.2.symm) | (rw [okI_ok _ hE]; exact hgp))] | rw [show (netErr n s t es) = 0 from Eq.symm (by first | exact hE.symm | (rw [okI_ok _ hE]; exact hlow.2.symm) | (rw [okI_ok _ hE]; exact hgp))], rfl⟩
end Go.Ab
namespace Go.Ab
open Go
variable {l : List Oper} {n : Nat} {listed : Array Bool}
section
variable {P : Program} {T : Nat → Option TI} {K : Post} {s : St}
structure ATake (P : Program) (l : List Oper) (K : Post) (n : Nat) (listed : Array Bool) (k : Nat) (s : St) : Prop where
 run : ∀ (M0 M : Mem) (a : Act), Ext big M0 M → Rel M s a → wpOp P l.toArray (QN (Qc K M0)) k (wpAny P .any l.toArray (QN (Qc K M0)) n (listed.setIfInBounds k true)) a M.w
theorem aany_fork (i j : Nat) (hrd : Region.ready .any l.toArray listed = [i, j]) (h1 : ATake P l K n listed i s) (h2 : ATake P l K n listed j s) : AAny P l K (n + 1) listed s := ⟨fun M0 M a he hr => by
 refine ⟨fun h0 => (by rw [hrd] at h0; cases h0), fun k hk => ?_⟩
 rw [hrd] at hk
 rcases List.mem_cons.1 hk with rfl | hk
 ·exact h1.run M0 M a he hr
 ·rcases List.mem_cons.1 hk with rfl | hk
  ·exact h2.run M0 M a he hr
  ·cases hk⟩
theorem atake_call {k : Nat} {L : Array Bool} (ρ new : List (Nat × Nat)) (lent : Bool) (p : Pre) (args : List AV) {Φ : AV → Heap → Prop} {sm : St} (hL : listed.setIfInBounds k true = L) (hp : preCall ρ lent l k s = some p) (hm : missS l k s = some sm)
  (hR : (okR (ρ ++ new) && (okR ρ && (allSmall new ρ && allBig new))) = true) (hc : p.g = true → AllP p.cs) (hargs : p.args = args) (hA : p.g = true → ACall P p.f args p.hin Φ)
  (hk : p.g = true → ∀ v Hr, Φ v Hr → ∃ s', outS lent ρ new l k v Hr s = some s' ∧ AAny P l K n L s') (h0 : p.g = false → AAny P l K n L sm) : ATake P l K n listed k s := ⟨fun M0 M a he hr => by
 subst hL
 exact wpOp_of_ok (call_op ρ new lent p args hp hm hR hc hargs hA hr
  (fun hg v Hr hΦ => (hk hg v Hr hΦ).imp fun _s' h => ⟨h.1, fun M' a' he' hr' => h.2.run M0 M' a' (he.trans he') hr'⟩)
  (fun hg a' hr' => (h0 hg).run M0 M a' he hr'))⟩
theorem atake_step {k : Nat} {L : Array Bool} (tab : Tab) (lent : Bool) (cs : List Prop) (s' : St) (hL : listed.setIfInBounds k true = L) (hT : ∀ t i, T t = some i → TF P t i) (h : stepAny P T tab lent l k s = some (cs, s')) (hc : AllP cs) (hk : AAny P l K n L s') : ATake P l K n listed k s := ⟨fun M0 M a he hr => by
 subst hL
 exact stepAny_sound hT h hc hr fun M' a' he' hr' => hk.run M0 M' a' (he.trans he') hr'⟩
end
end Go.Ab
namespace Go.Ab
open Go
variable {m : Array Bool}
section
variable {P : Program} {T : Nat → Option TI} {K : Post} {s : St}
def findM (m : List Bool) : List (Array Bool × St) → Option St
 | [] => none
 | (x, s) :: r => cond (eqBs x.toList m) (some s) (findM m r)
structure DagAcc where
 nx : List (Array Bool × St)
 es : List (St × St)
 cs : List (Nat × List Prop)
def dagOps (P : Program) (T : Nat → Option TI) (tab : Tab) (lent : Bool) (l : List Oper) (m : Array Bool) (s : St) : List Nat → DagAcc → Option DagAcc
 | [], acc => some acc
 | i :: r, acc => (match stepAny P T tab lent l i s with
  | none => none
  | some (c, s') => (match findM (m.setIfInBounds i true).toList acc.nx with
   | some s0 => dagOps P T tab lent l m s r ⟨acc.nx, (s0, s') :: acc.es, (i, c) :: acc.cs⟩
   | none => dagOps P T tab lent l m s r ⟨(m.setIfInBounds i true, s') :: acc.nx, acc.es, (i, c) :: acc.cs⟩))
def lookD (cds : List (Nat × List Prop)) (i : Nat) : List Prop :=
 match cds with
 | [] => []
 | (k, c) :: r => cond (Nat.beq k i) c (lookD r i)
theorem lookD_all {i : Nat} : ∀ {cds : List (Nat × List Prop)}, AllC cds → AllP (lookD cds i)
 | [], _ => trivial
 | (k, c) :: r, h => by
  unfold lookD
  cases Nat.beq k i
  ·exact lookD_all h.2
  ·exact h.1
structure DagLe (a b : DagAcc) : Prop where
 nx : ∀ x ∈ a.nx, x ∈ b.nx
 es : ∀ x ∈ a.es, x ∈ b.es
 cs : ∀ x ∈ a.cs, x ∈ b.cs
theorem DagLe.refl (a : DagAcc) : DagLe a a := ⟨fun _ h => h, fun _ h => h, fun _ h => h⟩
theorem DagLe.trans {a b c : DagAcc} (h : DagLe a b) (h2 : DagLe b c) : DagLe a c := ⟨fun x q => h2.nx x (h.nx x q), fun x q => h2.es x (h.es x q), fun x q => h2.cs x (h.cs x q)⟩
theorem findM_some : ∀ {l : List (Array Bool × St)} {s0 : St}, findM m.toList l = some s0 → (m, s0) ∈ l
 | [], _, h => by cases h
 | (x, s) :: r, s0, h => by
  unfold findM at h
  cases he : eqBs x.toList m.toList with
  | true =>
   rw [he] at h
   cases h
   rw [Array.toList_inj.1 (eqBs_eq he)]
   exact List.mem_cons_self
  | false =>
   rw [he] at h
   exact List.mem_cons_of_mem _ (findM_some h)
def DagArc (P : Program) (T : Nat → Option TI) (tab : Tab) (lent : Bool) (l : List Oper) (m : Array Bool) (s : St) (i : Nat) (b : DagAcc) : Prop :=
 ∃ c s' s0, stepAny P T tab lent l i s = some (c, s') ∧ (i, c) ∈ b.cs ∧ (m.setIfInBounds i true, s0) ∈ b.nx ∧ (s0 = s' ∨ (s0, s') ∈ b.es)
theorem DagArc.mono {tab : Tab} {lent : Bool} {l : List Oper} {i : Nat} {a b : DagAcc} (h : DagArc P T tab lent l m s i a) (hab : DagLe a b) : DagArc P T tab lent l m s i b := by
 obtain ⟨c, s', s0, h1, h2, h3, h4⟩ := h
 exact ⟨c, s', s0, h1, hab.cs _ h2, hab.nx _ h3, h4.imp id (hab.es _)⟩
theorem dagOps_sound {tab : Tab} {lent : Bool} {l : List Oper} : ∀ (r : List Nat) (a b : DagAcc), dagOps P T tab lent l m s r a = some b → DagLe a b ∧ ∀ i ∈ r, DagArc P T tab lent l m s i b
 | [], a, b, h => by
  unfold dagOps at h
  cases h
  exact ⟨.refl _, fun i hi => by cases hi⟩
 | i :: r, a, b, h => by
  unfold dagOps at h
  split at h
  ·cases h
  ·rename_i c s' hst
   split at h
   ·rename_i s0 hf
    obtain ⟨h1, h2⟩ := dagOps_sound r _ _ h
    have hle : DagLe a ⟨a.nx, (s0, s') :: a.es, (i, c) :: a.cs⟩ := ⟨fun _ q => q, fun _ q => List.mem_cons_of_mem _ q, fun _ q => List.mem_cons_of_mem _ q⟩
    refine ⟨hle.trans h1, fun j hj => ?_⟩
    rcases List.mem_cons.1 hj with rfl | hj
    ·exact ⟨c, s', s0, hst, h1.cs _ List.mem_cons_self, h1.nx _ (findM_some hf), .inr (h1.es _ List.mem_cons_self)⟩
    ·exact h2 j hj
   ·obtain ⟨h1, h2⟩ := dagOps_sound r _ _ h
    have hle : DagLe a ⟨(m.setIfInBounds i true, s') :: a.nx, a.es, (i, c) :: a.cs⟩ := ⟨fun _ q => List.mem_cons_of_mem _ q, fun _ q => q, fun _ q => List.mem_cons_of_mem _ q⟩
    refine ⟨hle.trans h1, fun j hj => ?_⟩
    rcases List.mem_cons.1 hj with rfl | hj
    ·exact ⟨c, s', s', hst, h1.cs _ List.mem_cons_self, h1.nx _ List.mem_cons_self, .inl rfl⟩
    ·exact h2 j hj
def dagFin (ks hs : List Nat) : Option DagAcc → Option (Array Bool × St)
 | some ⟨[(m, s)], _, _⟩ => some (m, cutS ks hs s)
 | _ => none
def dagL : Option DagAcc → List St
 | some a => a.es.map (·.1)
 | none => []
def dagR : Option DagAcc → List St
 | some a => a.es.map (·.2)
 | none => []
def dagC : Option DagAcc → List (List Prop)
 | some a => a.cs.map (·.2)
 | none => []
def dagD (cds : List (Nat × List Prop)) : Option DagAcc → List (List Prop)
 | some a => a.cs.map fun x => lookD cds x.1
 | none => []
theorem map_eq_mem {α β : Type _} {f g : α → β} : ∀ {l : List α}, l.map f = l.map g → ∀ x ∈ l, f x = g x
 | [], _, x, hx => by cases hx
 | y :: r, h, x, hx => by
  simp only [List.map_cons, List.cons.injEq] at h
  rcases List.mem_cons.1 hx with rfl | hx
  ·exact h.1
  ·exact map_eq_mem h.2 x hx
end
end Go.Ab
namespace Go.Ab
open Go
variable {tab : Tab} {lent : Bool} {l : List Oper}
section
variable {P : Program} {T : Nat → Option TI} {K : Post} {s : St}
def dagIns (m : Array Bool) (i : Nat) (c : List Prop) (s' : St) (acc : DagAcc) : DagAcc :=
 match findM (m.setIfInBounds i true).toList acc.nx with
 | some s0 => ⟨acc.nx, (s0, s') :: acc.es, (i, c) :: acc.cs⟩
 | none => ⟨(m.setIfInBounds i true, s') :: acc.nx, acc.es, (i, c) :: acc.cs⟩
theorem dagIns_ok (m : Array Bool) (i : Nat) (c : List Prop) (s' : St) (acc : DagAcc) : DagLe acc (dagIns m i c s' acc) ∧ (i, c) ∈ (dagIns m i c s' acc).cs ∧ ∃ s0, (m.setIfInBounds i true, s0) ∈ (dagIns m i c s' acc).nx ∧ (s0 = s' ∨ (s0, s') ∈ (dagIns m i c s' acc).es) := by
 unfold dagIns
 split
 ·rename_i s0 hf
  exact ⟨⟨fun _ q => q, fun _ q => List.mem_cons_of_mem _ q, fun _ q => List.mem_cons_of_mem _ q⟩, List.mem_cons_self, s0, findM_some hf, .inr List.mem_cons_self⟩
 ·exact ⟨⟨fun _ q => List.mem_cons_of_mem _ q, fun _ q => q, fun _ q => List.mem_cons_of_mem _ q⟩, List.mem_cons_self, s', List.mem_cons_self, .inl rfl⟩
def dagLevel2 (P : Program) (T : Nat → Option TI) (tab : Tab) (lent : Bool) (l : List Oper) : List (Array Bool × St) → DagAcc → Option DagAcc
 | [], acc => some acc
 | (m, s) :: r, acc => (match Region.ready .any l.toArray m with
  | [] => none
  | j :: q => (match firstU T l.toArray m s (j :: q) with
   | some (i, c, s') => dagLevel2 P T tab lent l r (dagIns m i c s' acc)
   | none => (match dagOps P T tab lent l m s (j :: q) acc with
    | some acc' => dagLevel2 P T tab lent l r acc'
    | none => none)))
def dagGo2 (P : Program) (T : Nat → Option TI) (tab : Tab) (lent : Bool) (l : List Oper) : Nat → DagAcc → Option DagAcc
 | 0, acc => some acc
 | k + 1, acc => (match dagLevel2 P T tab lent l acc.nx ⟨[], acc.es, acc.cs⟩ with
  | some acc' => dagGo2 P T tab lent l k acc'
  | none => none)
def DagNode (P : Program) (T : Nat → Option TI) (tab : Tab) (lent : Bool) (l : List Oper) (m : Array Bool) (s : St) (b : DagAcc) : Prop :=
 (Region.ready .any l.toArray m ≠ [] ∧ ∀ i ∈ Region.ready .any l.toArray m, DagArc P T tab lent l m s i b) ∨
 (∃ i c s' s0, firstU T l.toArray m s (Region.ready .any l.toArray m) = some (i, c, s') ∧ (i, c) ∈ b.cs ∧ (m.setIfInBounds i true, s0) ∈ b.nx ∧ (s0 = s' ∨ (s0, s') ∈ b.es))
theorem dagLevel2_sound : ∀ (lv : List (Array Bool × St)) (a b : DagAcc), dagLevel2 P T tab lent l lv a = some b → DagLe a b ∧ ∀ x ∈ lv, DagNode P T tab lent l x.1 x.2 b
 | [], a, b, h => by
  unfold dagLevel2 at h
  cases h
  exact ⟨.refl _, fun x hx => by cases hx⟩
 | (m, s) :: r, a, b, h => by
  unfold dagLevel2 at h
  split at h
  ·cases h
  ·rename_i j q hrd
   split at h
   ·rename_i i c s' hf
    obtain ⟨h1, h2, s0, h5, h6⟩ := dagIns_ok m i c s' a
    obtain ⟨h3, h4⟩ := dagLevel2_sound r _ _ h
    refine ⟨h1.trans h3, fun x hx => ?_⟩
    rcases List.mem_cons.1 hx with rfl | hx
    ·exact .inr ⟨i, c, s', s0, by rw [hrd]; exact hf, h3.cs _ h2, h3.nx _ h5, h6.imp id (h3.es _)⟩
    ·exact h4 x hx
   ·split at h
    ·rename_i c hc
     obtain ⟨h1, h2⟩ := dagOps_sound _ _ _ hc
     obtain ⟨h3, h4⟩ := dagLevel2_sound r _ _ h
     refine ⟨h1.trans h3, fun x hx => ?_⟩
     rcases List.mem_cons.1 hx with rfl | hx
     ·refine .inl ⟨fun h0 => (by rw [hrd] at h0; cases h0), fun i hi => ?_⟩
      rw [hrd] at hi
      exact (h2 i hi).mono h3
     ·exact h4 x hx
    ·cases h
theorem dagGo2_le : ∀ (k : Nat) (a b : DagAcc), dagGo2 P T tab lent l k a = some b → (∀ x ∈ a.es, x ∈ b.es) ∧ ∀ x ∈ a.cs, x ∈ b.cs
 | 0, a, b, h => by
  unfold dagGo2 at h
  cases h
  exact ⟨fun _ q => q, fun _ q => q⟩
 | k + 1, a, b, h => by
  unfold dagGo2 at h
  split at h
  ·rename_i c hc
   obtain ⟨h1, _⟩ := dagLevel2_sound _ _ _ hc
   obtain ⟨h2, h3⟩ := dagGo2_le k _ _ h
   exact ⟨fun x q => h2 x (h1.es x q), fun x q => h3 x (h1.cs x q)⟩
  ·cases h
theorem dagGo2_sound {n : Nat} (hT : ∀ t i, T t = some i → TF P t i) (hsel : Region.noSelect l.toArray = true) : ∀ (k : Nat) (a b : DagAcc), dagGo2 P T tab lent l k a = some b → (∀ x ∈ b.es, x.1 = x.2) → (∀ x ∈ b.cs, AllP x.2) → (∀ x ∈ b.nx, AAny P l K n x.1 x.2) → ∀ x ∈ a.nx, AAny P l K (n + k) x.1 x.2
 | 0, a, b, h, _, _, hq => by
  unfold dagGo2 at h
  cases h
  exact hq
 | k + 1, a, b, h, he, hc, hq => by
  intro x hx
  unfold dagGo2 at h
  split at h
  ·rename_i c hlv
   have ih := dagGo2_sound hT hsel k _ _ h he hc hq
   obtain ⟨_, h2⟩ := dagLevel2_sound _ _ _ hlv
   obtain ⟨hle1, hle2⟩ := dagGo2_le k _ _ h
   rcases h2 x hx with ⟨hne, harc⟩ | ⟨i, cs, s', s0, hf, hcs, hnx, hs0⟩
   ·refine ⟨fun M0 M a he' hr => ⟨fun h0 => (hne h0).elim, fun i hi => ?_⟩⟩
    obtain ⟨cs, s', s0, hst, hcs, hnx, hs0⟩ := harc i hi
    have hs : s0 = s' := hs0.elim id fun q => he _ (hle1 _ q)
    subst hs
    exact stepAny_sound hT hst (hc _ (hle2 _ hcs)) hr fun M' a' he2 hr2 => (ih _ hnx).run M0 M' a' (he'.trans he2) hr2
   ·have hs : s0 = s' := hs0.elim id fun q => he _ (hle1 _ q)
    subst hs
    obtain ⟨hi, o, ho, hfree, g, c1, v, hg, g1, g2, g3⟩ := firstU_sound hf
    refine ⟨fun M0 M a he' hr => ?_⟩
    obtain ⟨u, hyl, hr1⟩ := first_yields (P := P) hT hg g1 g2 g3 (hc _ (hle2 _ hcs)) hr
    exact wpAny_first ho (Region.noSelect_spec hsel) (fun c a w h => by cases h.1) (n + k) x.1 a M.w (Region.free_spec ho hfree) hi hyl ((ih _ hnx).run M0 M _ he' hr1)
  ·cases h
theorem aany_dag2 {n : Nat} {listed L : Array Bool} {s' : St} (tab : Tab) (lent : Bool) (k : Nat) (ks hs : List Nat) (cds : List (Nat × List Prop)) (hT : ∀ t i, T t = some i → TF P t i) (hsel : Region.noSelect l.toArray = true)
  (h : dagFin ks hs (dagGo2 P T tab lent l k ⟨[(listed, s)], [], []⟩) = some (L, s')) (he : dagL (dagGo2 P T tab lent l k ⟨[(listed, s)], [], []⟩) = dagR (dagGo2 P T tab lent l k ⟨[(listed, s)], [], []⟩))
  (hd : dagC (dagGo2 P T tab lent l k ⟨[(listed, s)], [], []⟩) = dagD cds (dagGo2 P T tab lent l k ⟨[(listed, s)], [], []⟩)) (hc : AllC cds) (hk : AAny P l K n L s') : AAny P l K (n + k) listed s := by
 revert h he hd
 generalize hg : dagGo2 P T tab lent l k ⟨[(listed, s)], [], []⟩ = q
 intro h he hd
 match q, hg, h, he, hd with
 | none, _, h, _, _ => cases h
 | some ⟨[(m, sf)], es, cs⟩, hg, h, he, hd =>
  simp only [dagFin, Option.some.injEq, Prod.mk.injEq] at h
  obtain ⟨rfl, rfl⟩ := h
  exact dagGo2_sound hT hsel k _ _ hg (fun x hx => map_eq_mem he x hx) (fun x hx => by rw [map_eq_mem hd x hx]; exact lookD_all hc) (fun x hx => by
   rw [List.mem_singleton.1 hx]
   exact aany_weak (awk_cut ks hs _) hk) (listed, s) List.mem_cons_self
 | some ⟨[], _, _⟩, _, h, _, _ => cases h
 | some ⟨_ :: _ :: _, _, _⟩, _, h, _, _ => cases h
end
end Go.Ab
namespace Go.Ab
open Go Go.RowKit Go.WideShapes Go.ChangeShapes Go.Deep
section
variable {H : Type} {enc : TypeId × Value → H} {P : Program} {W : World} {base : Nat} {held : Bool}
def cellStr (W : World) (a : Addr) (i : Nat) : ByteArray := match W.cell? (a.add i) with | some (.string s) => s | _ => ByteArray.empty
theorem cellStr_eq {a : Addr} {i : Nat} {s : ByteArray} (h : W.cell? (a.add i) = some (.string s)) : cellStr W a i = s := by simp [cellStr, h]
theorem rd_deeds {t e : TypeId} {f0 f1 f2 f3 f4 : Field} {fuel : Nat} {v : Value} {x : DataW H × List MemPlace} (ht : P.underlying t = some (.slice e)) (he : P.underlying e = some (.struct #[f0, f1, f2, f3, f4])) (hone : oneCellFields P #[f0, f1, f2, f3, f4] = true) (hC : P.cellsOf e = 5)
  (h0 : P.underlying f0.type = some (.int .i64)) (h1 : P.underlying f1.type = some (.int .i64)) (h2 : P.underlying f2.type = some (.int .i64)) (h3 : P.underlying f3.type = some (.int .i64)) (h4 : P.underlying f4.type = some .string)
  (h : DataW.trod enc P W base (fun _ => true) held fuel t [v] = some x) : ∃ xs : List Dd, VM (argM W) (.ro (.deeds xs)) v ∧ xs.length ≤ maxLen ∧ ∀ a ∈ xs, inR .i64 a.k ∧ inR .i64 a.a ∧ inR .i64 a.b ∧ inR .i64 a.m := by
 rcases rd_fields ht he hone hC h with rfl | ⟨a, len, cap, rfl, k1, k2, k3⟩
 ·exact ⟨[], argM_nil, Nat.zero_le _, fun n hn => by cases hn⟩
 ·have key : ∀ i, i < len → ∃ (n0 n1 n2 n3 : Int) (s4 : ByteArray), (W.cell? (a.add (i * 5 + 0)) = some (.int .i64 n0) ∧ inR .i64 n0) ∧ (W.cell? (a.add (i * 5 + 1)) = some (.int .i64 n1) ∧ inR .i64 n1) ∧ (W.cell? (a.add (i * 5 + 2)) = some (.int .i64 n2) ∧ inR .i64 n2) ∧ (W.cell? (a.add (i * 5 + 3)) = some (.int .i64 n3) ∧ inR .i64 n3) ∧ W.cell? (a.add (i * 5 + 4)) = some (.string s4) := by
   intro i hi
   obtain ⟨u0, y0, m0, c0, t0⟩ := k3 i hi 0 f0 rfl
   obtain ⟨u1, y1, m1, c1, t1⟩ := k3 i hi 1 f1 rfl
   obtain ⟨u2, y2, m2, c2, t2⟩ := k3 i hi 2 f2 rfl
   obtain ⟨u3, y3, m3, c3, t3⟩ := k3 i hi 3 f3 rfl
   obtain ⟨u4, y4, m4, c4, t4⟩ := k3 i hi 4 f4 rfl
   obtain ⟨n0, rfl, r0⟩ := rd_int h0 t0
   obtain ⟨n1, rfl, r1⟩ := rd_int h1 t1
   obtain ⟨n2, rfl, r2⟩ := rd_int h2 t2
   obtain ⟨n3, rfl, r3⟩ := rd_int h3 t3
   obtain ⟨s4, e4, _⟩ := DataW.trod_string h4 t4
   simp only [List.cons.injEq, and_true] at e4
   subst e4
   exact ⟨n0, n1, n2, n3, s4, ⟨c0, r0⟩, ⟨c1, r1⟩, ⟨c2, r2⟩, ⟨c3, r3⟩, c4⟩
  refine ⟨(List.range len).map fun i => ⟨cellInt W a (i * 5 + 0), cellInt W a (i * 5 + 1), cellInt W a (i * 5 + 2), cellInt W a (i * 5 + 3), cellStr W a (i * 5 + 4)⟩, ?_, by simp; omega, fun b hb => ?_⟩
  ·show (argM W).roSl (List.length _) 5 _ _
   rw [List.length_map, List.length_range]
   refine argM_row (by omega) k1 k2 fun i hi j hj => ?_
   obtain ⟨n0, n1, n2, n3, s4, ⟨c0, r0⟩, ⟨c1, r1⟩, ⟨c2, r2⟩, ⟨c3, r3⟩, c4⟩ := key i hi
   have hat : ((List.range len).map fun i => (⟨cellInt W a (i * 5 + 0), cellInt W a (i * 5 + 1), cellInt W a (i * 5 + 2), cellInt W a (i * 5 + 3), cellStr W a (i * 5 + 4)⟩ : Dd)).getD i default = ⟨n0, n1, n2, n3, s4⟩ := by
    simp only [List.getD_eq_getElem?_getD, List.getElem?_map, List.getElem?_range hi, Option.map_some, Option.getD_some, cellInt_eq c0, cellInt_eq c1, cellInt_eq c2, cellInt_eq c3, cellStr_eq c4]
   simp only [C0.cell, hat, ddCell]
   match j, hj with
   | 0, _ => exact ⟨_, c0, rfl⟩
   | 1, _ => exact ⟨_, c1, rfl⟩
   | 2, _ => exact ⟨_, c2, rfl⟩
   | 3, _ => exact ⟨_, c3, rfl⟩
   | 4, _ => exact ⟨_, c4, rfl⟩
  ·simp only [List.mem_map, List.mem_range] at hb
   obtain ⟨i, hi, rfl⟩ := hb
   obtain ⟨n0, n1, n2, n3, s4, ⟨c0, r0⟩, ⟨c1, r1⟩, ⟨c2, r2⟩, ⟨c3, r3⟩, c4⟩ := key i hi
   rw [cellInt_eq c0, cellInt_eq c1, cellInt_eq c2, cellInt_eq c3]
   exact ⟨r0, r1, r2, r3⟩
end
end Go.Ab
namespace Go.Ab
open Go Go.RowKit
variable {i : Nat}
def wrC : Array Value → Nat → List Value → Array Value
 | c, _, [] => c
 | c, o, v :: r => wrC (c.setIfInBounds o v) (o + 1) r
theorem wrC_size : ∀ (vs : List Value) (c : Array Value) (o : Nat), (wrC c o vs).size = c.size
 | [], _, _ => rfl
 | v :: r, c, o => by rw [wrC, wrC_size]; simp
theorem wrC_at : ∀ (vs : List Value) (c : Array Value) (o k : Nat), o + vs.length ≤ c.size → (wrC c o vs)[k]? = if o ≤ k ∧ k < o + vs.length then vs[k - o]? else c[k]?
 | [], c, o, k, _ => by rw [wrC, if_neg (by rw [List.length_nil]; omega)]
 | v :: r, c, o, k, h => by
  rw [List.length_cons] at h
  rw [wrC, wrC_at r _ _ _ (by simp; omega)]
  by_cases e : k = o
  ·subst e
   rw [if_neg (by omega), if_pos (by simp), Nat.sub_self, Array.getElem?_setIfInBounds_self_of_lt (by omega)]; rfl
  ·by_cases q : o + 1 ≤ k ∧ k < o + 1 + r.length
   ·rw [if_pos q, if_pos (by rw [List.length_cons]; omega), show k - o = (k - (o + 1)) + 1 by omega, List.getElem?_cons_succ]
   ·rw [if_neg q, if_neg (by rw [List.length_cons]; omega), Array.getElem?_setIfInBounds_ne (by omega)]
structure WrS (b : Nat) (w w' : World) : Prop where
 os : w'.os = w.os
 tape : w'.tape = w.tape
 output : w'.output = w.output
 drawn : w'.drawn = w.drawn
 size : w'.heap.size = w.heap.size
 other : ∀ c, c ≠ b → w'.heap[c]? = w.heap[c]?
theorem wrS : ∀ (vs : List Value) (o : Nat) (w : World) (b : Nat), WrS b w (w.setCells b o vs)
 | [], _, _, _ => ⟨rfl, rfl, rfl, rfl, rfl, fun _ _ => rfl⟩
 | v :: r, o, w, b => by
  have h := wrS r (o + 1) (w.setCell ⟨b, o, none⟩ v) b
  refine ⟨h.os, h.tape, h.output, h.drawn, h.size.trans (by simp [World.setCell]), fun c hc => (h.other c hc).trans ?_⟩
  simp only [World.setCell, Array.getElem?_modify, if_neg (Ne.symm hc)]
theorem wr_heap {b : Nat} {e : TypeId} : ∀ (vs : List Value) (o : Nat) (w : World) (c : Array Value), w.heap[b]? = some (.cells c e (0, 0)) → (w.setCells b o vs).heap[b]? = some (.cells (wrC c o vs) e (0, 0))
 | [], _, _, _, h => h
 | v :: r, o, w, c, h => by
  refine wr_heap r (o + 1) _ (c.setIfInBounds o v) ?_
  simp [World.setCell, Array.getElem?_modify, h]
theorem lkd_one {x : Nat} {c : C0} {k : Key} {o : Obj} (h : lk [(x, .flat c)] k = some o) : k = (x, none) ∧ o = .flat c := by
 obtain ⟨y, r⟩ := k
 cases r with
 | none =>
  simp only [lk, look] at h
  cases hb : Nat.beq x y
  ·rw [hb] at h; cases h
  ·rw [hb] at h; cases h
   exact ⟨by rw [Nat.eq_of_beq_eq_true hb], rfl⟩
 | some i =>
  simp only [lk, look] at h
  cases hb : Nat.beq x y
  ·rw [hb] at h; cases h
  ·rw [hb] at h
   simp only [cond_true] at h
   cases h
def shiftF (f : Nat → Nat → Int) (n i a j : Nat) : Int := if a < i then f a j else if a + 1 < n then f (a + 1) j else 0
def delA (es : List Arc) (i : Nat) : List Arc := es.take i ++ es.drop (i + 1) ++ [⟨0, 0, 0⟩]
theorem delA_len {es : List Arc} (h : i < es.length) : (delA es i).length = es.length := by
 unfold delA; simp; omega
theorem delA_at {es : List Arc} (h : i < es.length) (a : Nat) : (delA es i).getD a default = if a < i then es.getD a default else if a + 1 < es.length then es.getD (a + 1) default else default := by
 unfold delA
 simp only [List.getD_eq_getElem?_getD]
 by_cases q : a < i
 ·rw [if_pos q, List.getElem?_append_left (by simp; omega), List.getElem?_append_left (by simp; omega), List.getElem?_take, if_pos q]
 ·rw [if_neg q]
  by_cases q2 : a + 1 < es.length
  ·rw [if_pos q2, List.getElem?_append_left (by simp; omega), List.getElem?_append_right (by simp; omega), List.length_take, List.getElem?_drop, show i + 1 + (a - min i es.length) = a + 1 by omega]
  ·rw [if_neg q2, List.getElem?_append_right (by simp; omega)]
   cases hh : ([⟨0, 0, 0⟩] : List Arc)[a - (es.take i ++ es.drop (i + 1)).length]? with
   | none => rfl
   | some x =>
    have : a - (es.take i ++ es.drop (i + 1)).length = 0 := by
     have := (List.getElem?_eq_some_iff.1 hh).1
     simpa using this
    rw [this] at hh
    cases hh; rfl
def delI (zs : List Int) (i : Nat) : List Int := zs.take i ++ zs.drop (i + 1) ++ [0]
theorem delI_len {zs : List Int} (h : i < zs.length) : (delI zs i).length = zs.length := by
 unfold delI; simp; omega
theorem delI_at {zs : List Int} (h : i < zs.length) (a : Nat) : (delI zs i).getD a 0 = if a < i then zs.getD a 0 else if a + 1 < zs.length then zs.getD (a + 1) 0 else 0 := by
 unfold delI
 simp only [List.getD_eq_getElem?_getD]
 by_cases q : a < i
 ·rw [if_pos q, List.getElem?_append_left (by simp; omega), List.getElem?_append_left (by simp; omega), List.getElem?_take, if_pos q]
 ·rw [if_neg q]
  by_cases q2 : a + 1 < zs.length
  ·rw [if_pos q2, List.getElem?_append_left (by simp; omega), List.getElem?_append_right (by simp; omega), List.length_take, List.getElem?_drop, show i + 1 + (a - min i zs.length) = a + 1 by omega]
  ·rw [if_neg q2, List.getElem?_append_right (by simp; omega)]
   cases hh : ([0] : List Int)[a - (zs.take i ++ zs.drop (i + 1)).length]? with
   | none => rfl
   | some x =>
    have : a - (zs.take i ++ zs.drop (i + 1)).length = 0 := by
     have := (List.getElem?_eq_some_iff.1 hh).1
     simpa using this
    rw [this] at hh
    cases hh; rfl
end Go.Ab
namespace Go.Ab
open Go Go.RowKit Go.Proofs
theorem infoA : (Tryd.prog.info? 52).map (fun i => (i.zero, i.size, i.bytes)) = some (some (.agg #[.int .i64 0, .int .i64 0, .int .i64 0]), 3, 24) := by kernel_rfl
theorem clear_oneA (w : World) (ty : TypeId) (b o c : Nat) (hv : ∀ w, (zeroValue 52).run Tryd.prog w = .ok (.agg #[.int .i64 0, .int .i64 0, .int .i64 0]) w)
  (hc : ∀ j, j < 3 → (w.cell? ⟨b, o + j, none⟩).isSome = true) (hf : ∀ j, j < 3 → w.frozen? ⟨b, o + j, none⟩ = false) :
  (Builtin.clear_ #[25] ty #[.slice (some ⟨b, o, none⟩) 1 c]).run Tryd.prog w = .ok (.tuple #[]) (w.setCells b o [.int .i64 0, .int .i64 0, .int .i64 0]) := by
 have hzc : (Builtin.zeroCells (.agg #[.int .i64 0, .int .i64 0, .int .i64 0] : Value).cells 1).toList = [.int .i64 0, .int .i64 0, .int .i64 0] := by kernel_rfl
 have hst := run_storeCells_cells (P := Tryd.prog) b o [.int .i64 0, .int .i64 0, .int .i64 0] 0 w (by simpa using hc) (by simpa using hf) (by intro v hv'; simp at hv'; first | (rcases hv' with rfl | rfl | rfl <;> rfl) | (subst hv'; rfl))
 simp only [Nat.add_zero] at hst
 simp [Builtin.clear_, run_underlying Tryd.underlying25, hv, hzc, hst]
set_option maxHeartbeats 4000000 in
set_option maxRecDepth 1000000 in
theorem del_cellsA (b off n cap i j : Nat) (V : List Value) (w : World) (hj : j = i + 1) (hi : j ≤ n) (hl : n ≤ cap) (hm : cap ≤ 9223372036854775807) (hV : V.length = n * 3) (h1 : ∀ u ∈ V, u.oneCell' = true)
  (hc : ∀ t, t < n * 3 → w.cell? ⟨b, off + t, none⟩ = V[t]?) (hf : ∀ t, t < n * 3 → w.frozen? ⟨b, off + t, none⟩ = false) :
  Calls Tryd.prog 23 #[.slice (some ⟨b, off, none⟩) n cap, .int .i64 i, .int .i64 j] w fun e w' => e = .returned (.slice (some ⟨b, off, none⟩) (i + (n - j)) cap) ∧ w' = (w.drew.setCells b (off + i * 3) (V.drop (j * 3))).setCells b (off + (i + (n - j)) * 3) [.int .i64 0, .int .i64 0, .int .i64 0] := by
 obtain ⟨i0, hi0, hz0, hz1, hz2⟩ := info_parts infoA
 obtain ⟨news, hnews⟩ : ∃ news, news = V.drop (j * 3) := ⟨_, rfl⟩
 have hlen : news.length = (n - j) * 3 := by rw [hnews, List.length_drop, hV]; omega
 have hget : ∀ t, news[t]? = V[j * 3 + t]? := fun t => by rw [hnews, List.getElem?_drop]
 obtain ⟨A, hA, hsrc⟩ : ∃ A : Addr, (if cap = j then some (⟨b, off, none⟩ : Addr) else some ⟨b, off + j * 3, none⟩) = some A ∧ Hid (∀ t u, news[t]? = some u → w.drew.cell? (A.add t) = some u) := by
  by_cases h : cap = j
  ·refine ⟨⟨b, off, none⟩, by simp [h], fun t u hu => ?_⟩
   have h0 : news.length = 0 := by rw [hlen]; omega
   rw [List.length_eq_zero_iff.1 h0] at hu
   simp at hu
  ·refine ⟨⟨b, off + j * 3, none⟩, by simp [h], fun t u hu => ?_⟩
   have ht : t < (n - j) * 3 := by
    have := (List.getElem?_eq_some_iff.1 hu).1
    rwa [hlen] at this
   rw [hget] at hu
   rw [Addr.add_lit, show off + j * 3 + t = off + (j * 3 + t) by omega]
   exact (hc (j * 3 + t) (by omega)).trans hu
 have s1 : Hid (news.length = (n - j) * 3) := hlen
 have s2 : Hid (∀ u ∈ news, u.oneCell' = true) := by
  intro u hu
  rw [hnews] at hu
  exact h1 u (List.mem_of_mem_drop hu)
 have s3 : Hid (∀ t, t < news.length → (w.drew.cell? ⟨b, off + i * 3 + t, none⟩).isSome = true ∧ w.drew.frozen? ⟨b, off + i * 3 + t, none⟩ = false) := by
  intro t ht
  rw [hlen] at ht
  rw [Nat.add_assoc]
  refine ⟨?_, hf (i * 3 + t) (by omega)⟩
  show (w.cell? _).isSome = true
  rw [hc (i * 3 + t) (by omega), List.getElem?_eq_getElem (by omega)]; rfl
 obtain ⟨W1, hW1⟩ : ∃ W1, W1 = w.drew.setCells b (off + i * 3) news := ⟨_, rfl⟩
 have hcell1 : ∀ t, t < n * 3 → (W1.cell? ⟨b, off + t, none⟩).isSome = true ∧ W1.frozen? ⟨b, off + t, none⟩ = false := by
  intro t ht
  refine ⟨?_, by rw [hW1, World.frozen?_setCells]; exact hf t ht⟩
  by_cases q : i * 3 ≤ t ∧ t < i * 3 + news.length
  ·have h9 := World.cell?_setCells_in b news (off + i * 3) w.drew (fun k hk => (s3.out k hk).1) (t - i * 3) (by omega)
   rw [hW1, show off + t = off + i * 3 + (t - i * 3) by omega, h9]; rfl
  ·rw [hW1, World.cell?_setCells_out b news (off + i * 3) w.drew ⟨b, off + t, none⟩ (fun _ _ => by show off + t < off + i * 3 ∨ off + i * 3 + news.length ≤ off + t; omega)]
   show (w.cell? _).isSome = true
   rw [hc t ht, List.getElem?_eq_getElem (by omega)]; rfl
 have hcl : ∀ ty, (Builtin.clear_ #[25] ty #[.slice (some ⟨b, off + (i + (n - j)) * 3, none⟩) (n - (i + (n - j))) (cap - (i + (n - j)))]).run Tryd.prog W1 = .ok (.tuple #[]) (W1.setCells b (off + (i + (n - j)) * 3) [.int .i64 0, .int .i64 0, .int .i64 0]) := by
  intro ty
  rw [show n - (i + (n - j)) = 1 by omega]
  exact clear_oneA W1 ty b _ _ (fun w => by rfl) (fun t ht => by rw [Nat.add_assoc]; exact (hcell1 _ (by omega)).1) (fun t ht => by rw [Nat.add_assoc]; exact (hcell1 _ (by omega)).2)
 have hW : Hid (W1 = w.drew.setCells b (off + i * 3) news) := hW1
 have hic : i ≤ cap := by omega
 have hjc : j ≤ cap := by omega
 have hij : ¬ ((i : Int) = (j : Int)) := by omega
 have hX : Hid (W1 = w.drew.setCells b (off + i * 3) (V.drop (j * 3))) := by rw [← hnews]; exact hW1
 have hle : i ≤ j := by omega
 have hne : ¬ i = j := by omega
 clear hW1 hcell1 hc hf hget hnews hlen hj
 go_enter Tryd.func23, Tryd.ntmps23
 go_wp2_with fail
 go_region_law (refine step_append_room rfl (.tmp 22) (.tmp 25) 25 rfl 52 i0 3 Tryd.underlying25 hi0 hz1 b off i cap (by simp [Act.eval, Act.put]) A (n - j) (cap - j) news (by simp [Act.eval, Act.put]) s1.out hsrc.out s2.out (by omega) s3.out ?_; rw [← hW.out])
 go_wp2
 go_ret
 exact ⟨rfl, by rw [hX.out]⟩
theorem del_callA (id n i : Nat) (c c' : C0) (f : Nat → Nat → Int) (hi : i < n) (hl : c.len = n) (hl' : c'.len = n) (hs : c.sz = 3) (hs' : c'.sz = 3)
  (hf : ∀ a j, a < n → j < 3 → c.cell a j = .int .i64 (f a j)) (hf' : ∀ a j, a < n → j < 3 → c'.cell a j = .int .i64 (shiftF f n i a j)) :
  ACall Tryd.prog 23 [.one (.rw id 0 n), .one (.int .i64 i), .one (.int .i64 ((i + 1 : Nat) : Int))] [(id, .flat c)] (fun ov oh => ov = .one (.rw id 0 (n - 1)) ∧ oh = [(id, .flat c')]) := by
 refine ⟨⟨_, Tryd.func23, rfl, rfl⟩, fun M us hH hM ha => ?_⟩
 obtain ⟨hl3, hv⟩ := ha
 obtain ⟨u0, hu0, hr0⟩ := hv 0 _ rfl
 obtain ⟨u1, hu1, hr1⟩ := hv 1 _ rfl
 obtain ⟨u2, hu2, hr2⟩ := hv 2 _ rfl
 obtain rfl : us = [u0, u1, u2] := by
  match us, hl3, hu0, hu1, hu2 with
  | [x, y, z], _, hu0, hu1, hu2 => cases hu0; cases hu1; cases hu2; rfl
 obtain rfl : u1 = .int .i64 i := hr1
 obtain rfl : u2 = .int .i64 ((i + 1 : Nat) : Int) := hr2
 have hlk : lk M.H (id, none) = some (.flat c) := by rw [hH]; simp [lk, look]
 obtain ⟨o, ho, _, hc⟩ := hr0
 rw [hlk] at ho
 cases ho
 rcases hc with ⟨h0, _⟩ | ⟨b, p, a, cap, hμ, rfl, hcap, hmax, ha, cur0, e0, hb0, hroom⟩
 ·omega
 obtain ⟨cur, e, hb, hsz, hcells⟩ := hM.obj _ _ _ _ hlk hμ
 have hso : (Obj.flat c).sz = 3 := hs
 have hlo : (Obj.flat c).len = n := hl
 rw [hso, hlo] at hsz hcells
 have hsz' : p + n * 3 ≤ cur.size := hsz
 have hblk : b < M.w.heap.size := by
  rcases Nat.lt_or_ge b M.w.heap.size with h | h
  ·exact h
  ·rw [Array.getElem?_eq_none h] at hb; cases hb
 obtain rfl : a = p := by rw [ha]; omega
 have hcell : ∀ x j, x < n → j < 3 → cur[a + (x * 3 + j)]? = some (.int .i64 (f x j)) := by
  intro x j hx hj
  obtain ⟨u, h1, _, h2⟩ := hcells x hx j hj
  have h3 : VR M (c.cell x j) u := h2
  rw [hf x j hx hj] at h3
  have h4 : u = .int .i64 (f x j) := h3
  rw [h1, h4]
 have hcell2 : ∀ t, t < n * 3 → cur[a + t]? = some (.int .i64 (f (t / 3) (t % 3))) := fun t ht => by
  have := hcell (t / 3) (t % 3) (by omega) (by omega)
  rw [show t / 3 * 3 + t % 3 = t by omega] at this
  exact this
 obtain ⟨V, hV⟩ : ∃ V, V = (cur.toList.drop a).take (n * 3) := ⟨_, rfl⟩
 have hVl : V.length = n * 3 := by rw [hV, List.length_take, List.length_drop, Array.length_toList]; omega
 have hVa : ∀ t, t < n * 3 → V[t]? = some (.int .i64 (f (t / 3) (t % 3))) := fun t ht => by
  rw [hV, List.getElem?_take, if_pos ht, List.getElem?_drop, Array.getElem?_toList, hcell2 t ht]
 have hone : ∀ u ∈ V, u.oneCell' = true := fun u hu => by
  obtain ⟨t, ht, rfl⟩ := List.getElem_of_mem hu
  have := hVa t (by omega)
  rw [List.getElem?_eq_getElem ht] at this
  rw [Option.some.inj this]; rfl
 refine (del_cellsA b a n cap i (i + 1) V M.w rfl (by omega) hcap (by unfold maxLen at hmax; omega) hVl hone (fun t ht => ?_) (fun t ht => ?_)).mono fun e' w' hq => ?_
 ·rw [hVa t ht]
  simp only [World.cell?, hb]
  simpa using hcell2 t ht
 ·simp [World.frozen?, hb]
 obtain ⟨rfl, rfl⟩ := hq
 rw [show i + (n - (i + 1)) = n - 1 by omega]
 obtain ⟨news, hnews⟩ : ∃ news, news = V.drop ((i + 1) * 3) := ⟨_, rfl⟩
 have hnl : news.length = (n - (i + 1)) * 3 := by rw [hnews, List.length_drop, hVl]; omega
 have hna : ∀ t, t < (n - (i + 1)) * 3 → news[t]? = some (.int .i64 (f ((t + (i + 1) * 3) / 3) ((t + (i + 1) * 3) % 3))) := fun t ht => by
  rw [hnews, List.getElem?_drop, hVa _ (by omega), Nat.add_comm t]
 rw [← hnews]
 obtain ⟨zs, hzs⟩ : ∃ zs : List Value, zs = [.int .i64 0, .int .i64 0, .int .i64 0] := ⟨_, rfl⟩
 have hzl : zs.length = 3 := by rw [hzs]; rfl
 have hza : ∀ t, t < 3 → zs[t]? = some (.int .i64 0) := fun t ht => by
  rw [hzs]
  have : t = 0 ∨ t = 1 ∨ t = 2 := by omega
  rcases this with rfl | rfl | rfl <;> first | rfl | omega
 rw [← hzs]
 have hS1 := wrS news (a + i * 3) M.w.drew b
 have hS2 := wrS zs (a + (n - 1) * 3) (M.w.drew.setCells b (a + i * 3) news) b
 have hb1 : (M.w.drew.setCells b (a + i * 3) news).heap[b]? = some (.cells (wrC cur (a + i * 3) news) e (0, 0)) := wr_heap _ _ _ _ hb
 have hb2 : ((M.w.drew.setCells b (a + i * 3) news).setCells b (a + (n - 1) * 3) zs).heap[b]? = some (.cells (wrC (wrC cur (a + i * 3) news) (a + (n - 1) * 3) zs) e (0, 0)) := wr_heap _ _ _ _ hb1
 generalize hW : (M.w.drew.setCells b (a + i * 3) news).setCells b (a + (n - 1) * 3) zs = W' at hS2 hb2
 have hcs : (wrC (wrC cur (a + i * 3) news) (a + (n - 1) * 3) zs).size = cur.size := by rw [wrC_size, wrC_size]
 have hcv : ∀ x j, x < n → j < 3 → (wrC (wrC cur (a + i * 3) news) (a + (n - 1) * 3) zs)[a + (x * 3 + j)]? = some (.int .i64 (shiftF f n i x j)) := by
  intro x j hx hj
  rw [wrC_at _ _ _ _ (by rw [wrC_size]; omega)]
  unfold shiftF
  by_cases q : a + (n - 1) * 3 ≤ a + (x * 3 + j) ∧ a + (x * 3 + j) < a + (n - 1) * 3 + zs.length
  ·rw [if_pos q, hza _ (by omega), if_neg (by omega), if_neg (by omega)]
  ·rw [if_neg q, wrC_at _ _ _ _ (by omega)]
   by_cases q2 : a + i * 3 ≤ a + (x * 3 + j) ∧ a + (x * 3 + j) < a + i * 3 + news.length
   ·rw [if_pos q2, hna _ (by omega), if_neg (by omega), if_pos (by omega)]
    have e1 : (a + (x * 3 + j) - (a + i * 3) + (i + 1) * 3) / 3 = x + 1 := by omega
    have e2 : (a + (x * 3 + j) - (a + i * 3) + (i + 1) * 3) % 3 = j := by omega
    rw [e1, e2]
   ·rw [if_neg q2, hcell x j hx hj, if_pos (by omega)]
 have hsize : W'.heap.size = M.w.heap.size := hS2.size.trans hS1.size
 have hother : ∀ k, k ≠ b → W'.heap[k]? = M.w.heap[k]? := fun k hk => (hS2.other k hk).trans (hS1.other k hk)
 have hlk' : lk [(id, Obj.flat c')] (id, none) = some (.flat c') := by simp [lk, look]
 have hone' : ∀ {k o}, lk [(id, Obj.flat c')] k = some o → k = (id, none) ∧ o = .flat c' := fun h => lkd_one h
 have hone0 : ∀ {k o}, lk M.H k = some o → k = (id, none) ∧ o = .flat c := fun h => lkd_one (by rw [hH] at h; exact h)
 have hlive : ∀ k, (Mem.mk M.μ [(id, Obj.flat c')] W' M.free).live k ↔ M.live k := by
  intro k
  constructor
  ·rintro ⟨x, o, q, h1, h2⟩
   obtain ⟨rfl, rfl⟩ := hone' h1
   exact ⟨_, _, q, hlk, h2⟩
  ·rintro ⟨x, o, q, h1, h2⟩
   obtain ⟨rfl, rfl⟩ := hone0 h1
   exact ⟨_, _, q, hlk', h2⟩
 refine ⟨.one (.rw id 0 (n - 1)), .slice (some ⟨b, a, none⟩) (n - 1) cap, ⟨M.μ, [(id, .flat c')], W', M.free⟩, rfl, ⟨rfl, rfl⟩, ⟨.flat c', hlk', by show 0 + (n - 1) ≤ c'.len; omega, .inr ⟨b, a, a, cap, hμ, rfl, by omega, hmax, by omega, _, e, hb2, ?_⟩⟩, ?_, rfl, ?_⟩
 ·have h9 : a + (0 + cap) * (Obj.flat c).sz ≤ cur0.size := hroom
  rw [hb] at hb0
  cases hb0
  show a + (0 + cap) * c'.sz ≤ _
  rw [hcs, hs']
  rw [hso] at h9
  exact h9
 ·refine ⟨fun x i xss h => ?_, fun k hk => ⟨by show k < W'.heap.size; rw [hsize]; exact (hM.fr k hk).1, fun hl => (hM.fr k hk).2 ((hlive k).1 hl)⟩, fun x y o o' k q1 q2 h1 h2 _ _ => ?_, fun x o h1 h2 => ?_, fun x o k q h1 h2 => ?_⟩
  ·have := hone' (k := (x, none)) (o := .mat i xss) h
   cases this.2
  ·rw [(hone' h1).1, (hone' h2).1]
  ·obtain ⟨rfl, rfl⟩ := hone' h1
   rw [hμ] at h2; cases h2
  ·obtain ⟨rfl, rfl⟩ := hone' h1
   rw [hμ] at h2
   cases h2
   refine ⟨_, e, hb2, ?_, fun x hx j hj => ?_⟩
   ·show a + c'.len * c'.sz ≤ _
    rw [hcs, hl', hs']; exact hsz'
   ·have hx' : x < n := by have : x < c'.len := hx; omega
    have hj' : j < 3 := by have : j < c'.sz := hj; omega
    refine ⟨_, by show _[a + (x * c'.sz + j)]? = _; rw [hs']; exact hcv x j hx' hj', rfl, ?_⟩
    show VR _ (c'.cell x j) _
    rw [hf' x j hx' hj']
    rfl
 ·have hWos : W'.os = M.w.os := hS2.os.trans hS1.os
  have hWt : W'.tape = M.w.tape := hS2.tape.trans hS1.tape
  have hWo : W'.output = M.w.output := hS2.output.trans hS1.output
  have hWd : M.w.drawn ≤ W'.drawn := by rw [hS2.drawn, hS1.drawn]; exact Nat.le_succ _
  refine ⟨⟨hWos, hWt, hWo, hWd, by show M.w.heap.size ≤ W'.heap.size; rw [hsize]; exact Nat.le_refl _, fun k hk hl => ⟨hother k (fun q => hl (by rw [q]; exact ⟨_, _, _, hlk, hμ⟩)), fun h => hl ((hlive k).1 h)⟩, fun k hk => hk, fun k hk => .inl hk⟩, fun x o _ h1 => ?_⟩
  obtain ⟨rfl, rfl⟩ := hone0 h1
  refine ⟨_, hlk', by show c'.sz = c.sz; rw [hs, hs'], by show c.len ≤ c'.len; omega, rfl, fun k q cur' e' h2 h3 => ?_⟩
  rw [hμ] at h2
  cases h2
  rw [hb] at h3
  cases h3
  exact ⟨_, hb2, hcs⟩
theorem del_arcs (id : Nat) (es : List Arc) (k : Int) (h0 : 0 ≤ k) (h1 : k < es.length) :
  ACall Tryd.prog 23 [.one (.rw id 0 es.length), .one (.int .i64 k), .one (.int .i64 (k + 1))] [(id, .flat (.arcs es))] (fun ov oh => ov = .one (.rw id 0 (es.length - 1)) ∧ oh = [(id, .flat (.arcs (delA es k.toNat)))]) := by
 obtain ⟨i, rfl⟩ := Int.eq_ofNat_of_zero_le h0
 have hi : i < es.length := by omega
 have h := del_callA id es.length i (.arcs es) (.arcs (delA es i)) (fun a j => match j with | 0 => (es.getD a default).src | 1 => (es.getD a default).dst | _ => (es.getD a default).cap) hi rfl (delA_len hi) rfl rfl
  (fun a j ha hj => by match j, hj with | 0, _ => rfl | 1, _ => rfl | 2, _ => rfl)
  (fun a j ha hj => by
   have e := delA_at hi a
   unfold shiftF
   match j, hj with
   | 0, _ => show V1.int .i64 ((delA es i).getD a default).src = _; rw [e]; split <;> (try split) <;> rfl
   | 1, _ => show V1.int .i64 ((delA es i).getD a default).dst = _; rw [e]; split <;> (try split) <;> rfl
   | 2, _ => show V1.int .i64 ((delA es i).getD a default).cap = _; rw [e]; split <;> (try split) <;> rfl)
 exact h
end Go.Ab
