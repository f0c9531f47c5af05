/- Of a net that changes: an arc goes. -/
import Derived.Test.YtnfnlgfdfmnghaaTab
import Derived.Test.YtnfnlgfdfmnghaaRepair2
import Derived.Test.YtnfnlgfdfmnghaaPlRepair3
import Derived.Test.YtnfnlgfdfmnghaaDelA
import Derived.Test.YtnfnlgfdfmnghaaDelI
import Derived.Test.YtnfnlgfdfmnghaaFork
set_option maxRecDepth 100000
namespace Go.Ab
open Go Go.Proofs
theorem rep_drop (n s t : Int) (es : List Arc) (f : List Int) (k : Int) : ACall Try.prog 12 [.agg [(.i n), (.i s), (.i t), (.ro (.arcs es))], .one (.ro (.ints .i64 f)), .i k] [] (fun ov oh => ∃ (N S T : Int) (A : List Arc) (g : List Int) (v e : Int), (RepRes n s t (dropAt es k.toNat) (capErr2 n s t es f k 0) N S T A g v e) ∧ ov = .tup [(true, [(.i N), (.i S), (.i T), (.w 9001 A.length)]), (false, [(.w 9002 g.length)]), (false, [(.i v)]), (false, [(.i e)])] ∧ oh = [(9001, .fa A), (9002, .fi g)]) := by
  refine acall_intro hT Try.func12 rfl (by kernel_rfl) rfl (by kernel_rfl) ?_
  refine awp_run_seq [1, 2, 3, 6] [103, 106] [] ⟨45, [(1, .one (.ro (.ints .i64 f))), (2, .i k), (3, .p 103), (6, .p 106)], [(103, .box 1 4 [(.i n), (.i s), (.i t), (.ro (.arcs es))]), (106, .box 1 4 [(.i 0), (.i 0), (.i 0), .nils])]⟩ hT (by kernel_rfl) trivial ?_
  refine awp_seq (awp_region ?_)
  refine aops_run 3 [2, 6, 15, 16, 17] [106] [(0 < 1)] ⟨45, [(2, .i k), (6, .p 106), (15, .agg [(.i n), (.i s), (.i t), (.ro (.arcs es))]), (16, .one (.ro (.ints .i64 f))), (17, .i k)], [(106, .box 1 4 [(.i 0), (.i 0), (.i 0), .nils])]⟩ hT (by kernel_rfl) (by kernel_rfl) ⟨(by decide), trivial⟩ ?_
  refine aops_call [] [(9001, 118), (9002, 10118)] false ⟨true, [], 10, [.agg [(.i n), (.i s), (.i t), (.ro (.arcs es))], .one (.ro (.ints .i64 f)), .i k, .i 0], []⟩ [.agg [(.i n), (.i s), (.i t), (.ro (.arcs es))], .one (.ro (.ints .i64 f)), .i k, .i 0] (sm := ⟨45, [(2, .i k), (6, .p 106), (15, .agg [(.i n), (.i s), (.i t), (.ro (.arcs es))]), (16, .one (.ro (.ints .i64 f))), (17, .i k), (18, .whn false (.one .any))], [(106, .box 1 4 [(.i 0), (.i 0), (.i 0), .nils])]⟩) (by kernel_rfl) (by kernel_rfl) (by decide) (fun _ => trivial) rfl (fun _ => rep_cap n s t es f k (0)) (fun _ v Hr hv => ?_) (fun h => by cases h)
  obtain ⟨N1, S1, T1, A1, g1, v1, e1, hr1, rfl, rfl⟩ := hv
  refine ⟨⟨45, [(2, .i k), (6, .p 106), (15, .agg [(.i n), (.i s), (.i t), (.ro (.arcs es))]), (16, .one (.ro (.ints .i64 f))), (17, .i k), (18, .tup [(true, [(.i N1), (.i S1), (.i T1), (.w 118 A1.length)]), (false, [(.w 10118 g1.length)]), (false, [(.i v1)]), (false, [(.i e1)])])], [(106, .box 1 4 [(.i 0), (.i 0), (.i 0), .nils]), (118, .fa A1), (10118, .fi g1)]⟩, by kernel_rfl, ?_⟩
  refine aops_run 10 [2, 6, 10, 11, 13] [106, 110, 118, 10118] [(0 < 1)] ⟨45, [(2, .i k), (6, .p 106), (10, .p 110), (11, .w 10118 g1.length), (13, .i e1)], [(106, .box 1 4 [(.i 0), (.i 0), (.i 0), .nils]), (110, .box 1 4 [(.i N1), (.i S1), (.i T1), (.w 118 A1.length)]), (118, .fa A1), (10118, .fi g1)]⟩ hT (by kernel_rfl) (by kernel_rfl) ⟨(by decide), trivial⟩ ?_
  refine aops_end_seq (by kernel_rfl) ?_
  refine awp_seq ?_
  refine awp_run_seq [2, 6, 10, 11, 13, 24] [106, 110, 118, 10118] [] ⟨45, [(2, .i k), (6, .p 106), (10, .p 110), (11, .w 10118 g1.length), (13, .i e1), (24, .one (.bool (decide (e1 ≠ 0))))], [(106, .box 1 4 [(.i 0), (.i 0), (.i 0), .nils]), (110, .box 1 4 [(.i N1), (.i S1), (.i T1), (.w 118 A1.length)]), (118, .fa A1), (10118, .fi g1)]⟩ hT (by kernel_rfl) trivial ?_
  refine awp_cond (b := (decide (e1 ≠ 0))) (by kernel_rfl) (fun c2 => ?_) (fun c2 => ?_)
  ·
    try simp only [bs] at c2
    refine awp_run_seq [6, 7, 8, 9] [106] [(0 < 1)] ⟨45, [(6, .p 106), (7, .one .nils), (8, .i 0), (9, .i e1)], [(106, .box 1 4 [(.i 0), (.i 0), (.i 0), .nils])]⟩ hT (by kernel_rfl) ⟨(by decide), trivial⟩ ?_
    refine awp_weak (awk_empty 6603 (.fa []) rfl (by decide) _) ?_
    refine awp_weak (awk_boxcell 106 3 1 4 [(.i 0), (.i 0), (.i 0), .nils] .nils (.w 6603 0) _ (by kernel_rfl) rfl (wkv_nils (o := .fa []) (by kernel_rfl))) ?_
    refine awp_weak (awk_empty 5007 (.fi []) rfl (by decide) _) ?_
    refine awp_weak (awk_slot 7 (.one .nils) (.w 5007 0) _ (by kernel_rfl) (.one (wkv_nils (o := .fi []) (by kernel_rfl)))) ?_
    refine awp_weak (awk_ren 6603 9001 (s' := ⟨45, [(6, .p 106), (7, .w 5007 0), (8, .i 0), (9, .i e1)], [(106, .box 1 4 [(.i 0), (.i 0), (.i 0), (.w 9001 0)]), (5007, .fi []), (9001, .fa [])]⟩) (by kernel_rfl)) ?_
    refine awp_weak (awk_ren 5007 9002 (s' := ⟨45, [(6, .p 106), (7, .w 9002 0), (8, .i 0), (9, .i e1)], [(106, .box 1 4 [(.i 0), (.i 0), (.i 0), (.w 9001 0)]), (9001, .fa []), (9002, .fi [])]⟩) (by kernel_rfl)) ?_
    refine awp_ret ?_
    refine kRet.ret _ [9001, 9002] [(0 < 1)] (.tup [(true, [(.i 0), (.i 0), (.i 0), (.w 9001 0)]), (false, [(.w 9002 0)]), (false, [(.i 0)]), (false, [(.i e1)])]) [(9001, .fa []), (9002, .fi [])] (by kernel_rfl) ⟨(by decide), trivial⟩ ?_
    exact ⟨0, 0, 0, [], [], 0, e1, (by rw [hr1.1]; exact RepRes.bad (by rw [← hr1.1]; exact c2)), (by kernel_rfl), (by kernel_rfl)⟩
  ·
    try simp only [bs] at c2
    obtain ⟨z0, z⟩ := hr1
    obtain ⟨hY, zN, zS, zT, zA, zF, _, _⟩ := z.resolve_left (fun q => q.1 (by omega))
    obtain ⟨hk0, hk1⟩ := capErr2_in hY
    have hAl : A1.length = es.length := by rw [zA, setCap_len]
    have hgl := zF.fin.len
    rw [setCap_len] at hgl
    have hnl := zF.net.len
    rw [setCap_len] at hnl
    have hdl := delA_len (es := A1) (i := Int.toNat k) (by omega)
    have hdl2 := delI_len (zs := g1) (i := Int.toNat k) (by omega)
    obtain ⟨E3, hE3⟩ : ∃ x, (List.take (A1.length - 1) (delA A1 (Int.toNat k))) = x := ⟨_, rfl⟩
    obtain ⟨f3, hf3⟩ : ∃ x, (List.take (g1.length - 1) (delI g1 (Int.toNat k))) = x := ⟨_, rfl⟩
    have hE3l : A1.length - 1 = E3.length := by rw [← hE3, List.length_take]; omega
    have hf3l : g1.length - 1 = f3.length := by rw [← hf3, List.length_take]; omega
    have hE4 : E3 = dropAt es k.toNat := by rw [← hE3, delA_take (by omega), zA, setCap_drop]
    have hf4 : f3 = dropAt g1 k.toNat := by rw [← hf3, delI_take (by omega)]
    have hfin : FlOk n s t (dropAt es k.toNat) f3 := by have h9 := drop_flow (k := k.toNat) zF (by rw [setCap_len]; omega) (cap_zero zF (by omega)); rw [setCap_drop, ← hf4] at h9; exact h9
    refine awp_skip ?_
    refine awp_seq (awp_region ?_)
    refine aops_run 5 [2, 6, 10, 11, 28, 29, 31] [106, 110, 118, 10118] [(0 < 1), (-9223372036854775808 ≤ (k + 1) ∧ (k + 1) ≤ 9223372036854775807)] ⟨45, [(2, .i k), (6, .p 106), (10, .p 110), (11, .w 10118 g1.length), (28, .w 118 A1.length), (29, .i k), (31, .i (k + 1))], [(106, .box 1 4 [(.i 0), (.i 0), (.i 0), .nils]), (110, .box 1 4 [(.i N1), (.i S1), (.i T1), (.w 118 A1.length)]), (118, .fa A1), (10118, .fi g1)]⟩ hT (by kernel_rfl) (by kernel_rfl) ⟨(by decide), (by omega), trivial⟩ ?_
    refine aops_call [(1, 118)] [] false ⟨true, [], 40, [.w 1 A1.length, .i k, .i (k + 1)], [(1, .fa A1)]⟩ [.w 1 A1.length, .i k, .i (k + 1)] (sm := ⟨45, [(2, .i k), (6, .p 106), (10, .p 110), (11, .w 10118 g1.length), (28, .w 118 A1.length), (29, .i k), (31, .i (k + 1)), (32, .whn false (.one .any))], [(106, .box 1 4 [(.i 0), (.i 0), (.i 0), .nils]), (110, .box 1 4 [(.i N1), (.i S1), (.i T1), (.w 118 A1.length)]), (118, .fa A1), (10118, .fi g1)]⟩) (by kernel_rfl) (by kernel_rfl) (by decide) (fun _ => trivial) rfl (fun _ => del_arcs 1 A1 k (by omega) (by omega)) (fun _ v Hr hv => ?_) (fun h => by cases h)
    obtain ⟨rfl, rfl⟩ := hv
    refine ⟨⟨45, [(2, .i k), (6, .p 106), (10, .p 110), (11, .w 10118 g1.length), (28, .w 118 A1.length), (29, .i k), (31, .i (k + 1)), (32, .w 118 (A1.length - 1))], [(106, .box 1 4 [(.i 0), (.i 0), (.i 0), .nils]), (110, .box 1 4 [(.i N1), (.i S1), (.i T1), (.w 118 A1.length)]), (118, .fa (delA A1 (Int.toNat k))), (10118, .fi g1)]⟩, by kernel_rfl, ?_⟩
    refine aops_run 1 [2, 6, 10, 11, 32, 33] [106, 110, 118, 10118] [] ⟨45, [(2, .i k), (6, .p 106), (10, .p 110), (11, .w 10118 g1.length), (32, .w 118 (A1.length - 1)), (33, .one (.ptr 110 0 3))], [(106, .box 1 4 [(.i 0), (.i 0), (.i 0), .nils]), (110, .box 1 4 [(.i N1), (.i S1), (.i T1), (.w 118 A1.length)]), (118, .fa (delA A1 (Int.toNat k))), (10118, .fi g1)]⟩ hT (by kernel_rfl) (by kernel_rfl) trivial ?_
    refine aops_weak (s' := ⟨45, [(2, .i k), (6, .p 106), (10, .p 110), (11, .w 10118 g1.length), (32, .w 118 (A1.length - 1)), (33, .one (.ptr 110 0 3))], [(106, .box 1 4 [(.i 0), (.i 0), (.i 0), .nils]), (110, .box 1 4 [(.i N1), (.i S1), (.i T1), .any]), (118, .fa (List.take (A1.length - 1) (delA A1 (Int.toNat k)))), (10118, .fi g1)]⟩) (awk_trunc 118 32 (A1.length - 1) (.arcs (delA A1 (Int.toNat k))) _ (by kernel_rfl) (by kernel_rfl) (by decide) (by show (A1.length - 1) ≤ List.length (delA A1 (Int.toNat k)); omega)) ?_
    rw [show (List.take (A1.length - 1) (delA A1 (Int.toNat k))) = E3 from hE3]
    rw [show (A1.length - 1) = E3.length from hE3l]
    refine aops_run 1 [2, 6, 10, 11] [106, 110, 118, 10118] [(0 < 1)] ⟨45, [(2, .i k), (6, .p 106), (10, .p 110), (11, .w 10118 g1.length)], [(106, .box 1 4 [(.i 0), (.i 0), (.i 0), .nils]), (110, .box 1 4 [(.i N1), (.i S1), (.i T1), (.w 118 E3.length)]), (118, .fa E3), (10118, .fi g1)]⟩ hT (by kernel_rfl) (by kernel_rfl) ⟨(by decide), trivial⟩ ?_
    refine aops_end_seq (by kernel_rfl) ?_
    refine awp_seq (awp_calm3 [] false [[], [], [], [], [3], [1, 2, 3, 4], [0, 1, 2, 3, 4, 5], [0, 1, 2, 3, 4, 5, 6], [0, 1, 2, 3, 4, 5, 6], [0, 1, 2, 3, 4, 5, 6], [0, 1, 2, 3, 4, 5, 6], [0, 1, 2, 3, 4, 5, 6, 7, 8, 9, 10], [0, 1, 2, 3, 4, 5, 6, 7, 8, 9, 10, 11], [0, 1, 2, 3, 4, 5, 6, 7, 8, 9, 10, 11, 12], [0, 1, 2, 3, 4, 5, 6, 7, 8, 9, 10, 11, 12, 13]] 0 15 #[false, false, false, false, false, false, false, false, false, false, false, false, false, false, false] [2, 6, 10, 11] [106, 110, 118, 10118] [] ⟨45, [(2, .i k), (6, .p 106), (10, .p 110), (11, .w 10118 g1.length)], [(106, .box 1 4 [(.i 0), (.i 0), (.i 0), .nils]), (110, .box 1 4 [(.i N1), (.i S1), (.i T1), (.w 118 E3.length)]), (118, .fa E3), (10118, .fi g1)]⟩ (by kernel_rfl) hT (by kernel_rfl) (by kernel_rfl) (by kernel_rfl) (by kernel_rfl) trivial ?_)
    refine aany_walk (n := 11) (L := #[false, true, true, true, true, false, false, false, false, false, false, false, false, false, false]) (s' := ⟨45, [(6, .p 106), (10, .p 110), (35, .w 10118 g1.length), (36, .i k), (38, .i (k + 1))], [(106, .box 1 4 [(.i 0), (.i 0), (.i 0), .nils]), (110, .box 1 4 [(.i N1), (.i S1), (.i T1), (.w 118 E3.length)]), (118, .fa E3), (10118, .fi g1)]⟩) [] false 4 [6, 10, 35, 36, 38] [106, 110, 118, 10118] [(1, []), (2, []), (3, []), (4, [(-9223372036854775808 ≤ (k + 1) ∧ (k + 1) ≤ 9223372036854775807)])] (by kernel_rfl) hT (by kernel_rfl) ⟨trivial, trivial, trivial, ⟨(by omega), trivial⟩, trivial⟩ ?_
    refine aany_fork (n := 10) 0 5 (by kernel_rfl) ?_ ?_
    ·
      refine atake_step (n := 10) (L := #[true, true, true, true, true, false, false, false, false, false, false, false, false, false, false]) [] false [(0 < 1)] ⟨45, [(6, .p 106), (10, .p 110), (34, .agg [(.i N1), (.i S1), (.i T1), (.w 118 E3.length)]), (35, .w 10118 g1.length), (36, .i k), (38, .i (k + 1))], [(106, .box 1 4 [(.i 0), (.i 0), (.i 0), .nils]), (110, .box 1 4 [(.i N1), (.i S1), (.i T1), (.w 118 E3.length)]), (118, .fa E3), (10118, .fi g1)]⟩ (by kernel_rfl) hT (by kernel_rfl) ⟨(by decide), trivial⟩ ?_
      refine aany_weak (awk_cut [6, 34, 35, 36, 38] [106, 118, 10118] _) ?_
      show AAny Try.prog _ _ _ _ ⟨45, [(6, .p 106), (34, .agg [(.i N1), (.i S1), (.i T1), (.w 118 E3.length)]), (35, .w 10118 g1.length), (36, .i k), (38, .i (k + 1))], [(106, .box 1 4 [(.i 0), (.i 0), (.i 0), .nils]), (118, .fa E3), (10118, .fi g1)]⟩
      refine aany_call (n := 9) (k := 5) (L := #[true, true, true, true, true, true, false, false, false, false, false, false, false, false, false]) [(1, 10118)] [] false ⟨true, [], 41, [.w 1 g1.length, .i k, .i (k + 1)], [(1, .fi g1)]⟩ [.w 1 g1.length, .i k, .i (k + 1)] (sm := ⟨45, [(6, .p 106), (34, .agg [(.i N1), (.i S1), (.i T1), (.w 118 E3.length)]), (35, .w 10118 g1.length), (36, .i k), (38, .i (k + 1)), (39, .whn false (.one .any))], [(106, .box 1 4 [(.i 0), (.i 0), (.i 0), .nils]), (118, .fa E3), (10118, .fi g1)]⟩) (by kernel_rfl) (by kernel_rfl) (by kernel_rfl) (by kernel_rfl) (by decide) (fun _ => trivial) rfl (fun _ => del_ints 1 g1 k (by omega) (by omega)) (fun _ v Hr hv => ?_) (fun h => by cases h)
      obtain ⟨rfl, rfl⟩ := hv
      refine ⟨⟨45, [(6, .p 106), (34, .agg [(.i N1), (.i S1), (.i T1), (.w 118 E3.length)]), (35, .w 10118 g1.length), (36, .i k), (38, .i (k + 1)), (39, .w 10118 (g1.length - 1))], [(106, .box 1 4 [(.i 0), (.i 0), (.i 0), .nils]), (118, .fa E3), (10118, .fi (delI g1 (Int.toNat k)))]⟩, by kernel_rfl, ?_⟩
      refine aany_weak (awk_cut [6, 34, 39] [106, 118, 10118] _) ?_
      refine aany_weak (s' := ⟨45, [(6, .p 106), (34, .agg [(.i N1), (.i S1), (.i T1), (.w 118 E3.length)]), (39, .w 10118 (g1.length - 1))], [(106, .box 1 4 [(.i 0), (.i 0), (.i 0), .nils]), (118, .fa E3), (10118, .fi (List.take (g1.length - 1) (delI g1 (Int.toNat k))))]⟩) (awk_trunc 10118 39 (g1.length - 1) (.ints .i64 (delI g1 (Int.toNat k))) _ (by kernel_rfl) (by kernel_rfl) (by decide) (by show (g1.length - 1) ≤ List.length (delI g1 (Int.toNat k)); omega)) ?_
      rw [show (List.take (g1.length - 1) (delI g1 (Int.toNat k))) = f3 from hf3]
      rw [show (g1.length - 1) = f3.length from hf3l]
      refine aany_call (n := 8) (k := 6) (L := #[true, true, true, true, true, true, true, false, false, false, false, false, false, false, false]) [] [(9001, 140), (9002, 10140)] true ⟨true, [], 38, [.agg [(.i N1), (.i S1), (.i T1), (.ro (.arcs (List.take E3.length E3)))], .one (.ro (.ints .i64 (List.take f3.length f3)))], []⟩ [.agg [(.i N1), (.i S1), (.i T1), (.ro (.arcs E3))], .one (.ro (.ints .i64 f3))] (sm := ⟨45, [(6, .p 106), (34, .agg [(.i N1), (.i S1), (.i T1), (.w 118 E3.length)]), (39, .w 10118 f3.length), (40, .whn false (.one .any))], [(106, .box 1 4 [(.i 0), (.i 0), (.i 0), .nils]), (118, .fa E3), (10118, .fi f3)]⟩) (by kernel_rfl) (by kernel_rfl) (by kernel_rfl) (by kernel_rfl) (by decide) (fun _ => trivial) (by rw [show (List.take E3.length E3) = E3 from List.take_of_length_le (by first | omega | simp)]; rw [show (List.take f3.length f3) = f3 from List.take_of_length_le (by first | omega | simp)]) (fun _ => rep_on N1 S1 T1 E3 f3 (by omega)) (fun _ v Hr hv => ?_) (fun h => by cases h)
      obtain ⟨g5, v5, hm5, rfl, rfl⟩ := hv
      refine ⟨⟨45, [(6, .p 106), (34, .agg [(.i N1), (.i S1), (.i T1), (.w 118 E3.length)]), (39, .w 10118 f3.length), (40, .tup [(true, [(.i N1), (.i S1), (.i T1), (.w 140 E3.length)]), (false, [(.w 10140 g5.length)]), (false, [(.i v5)]), (false, [(.i (flowErr N1 S1 T1 E3 f3))])])], [(106, .box 1 4 [(.i 0), (.i 0), (.i 0), .nils]), (118, .fa E3), (140, .fa E3), (10118, .fi f3), (10140, .fi g5)]⟩, by kernel_rfl, ?_⟩
      refine aany_weak (awk_cut [6, 40] [106, 140, 10140] _) ?_
      refine aany_end [] false [6, 7, 8, 9] [106, 140, 10140] 1 [(7, []), (8, []), (9, []), (10, []), (11, [(0 < 1)]), (12, []), (13, []), (14, [])] ⟨45, [(6, .p 106), (7, .w 10140 g5.length), (8, .i v5), (9, .i (flowErr N1 S1 T1 E3 f3))], [(106, .box 1 4 [(.i N1), (.i S1), (.i T1), (.w 140 E3.length)]), (140, .fa E3), (10140, .fi g5)]⟩ (by kernel_rfl) hT (by kernel_rfl) ⟨trivial, trivial, trivial, trivial, ⟨(by decide), trivial⟩, trivial, trivial, trivial, trivial⟩ ?_
      refine awp_weak (awk_ren 140 9001 (s' := ⟨45, [(6, .p 106), (7, .w 10140 g5.length), (8, .i v5), (9, .i (flowErr N1 S1 T1 E3 f3))], [(106, .box 1 4 [(.i N1), (.i S1), (.i T1), (.w 9001 E3.length)]), (9001, .fa E3), (10140, .fi g5)]⟩) (by kernel_rfl)) ?_
      refine awp_weak (awk_ren 10140 9002 (s' := ⟨45, [(6, .p 106), (7, .w 9002 g5.length), (8, .i v5), (9, .i (flowErr N1 S1 T1 E3 f3))], [(106, .box 1 4 [(.i N1), (.i S1), (.i T1), (.w 9001 E3.length)]), (9001, .fa E3), (9002, .fi g5)]⟩) (by kernel_rfl)) ?_
      refine awp_ret ?_
      refine kRet.ret _ [9001, 9002] [(0 < 1)] (.tup [(true, [(.i N1), (.i S1), (.i T1), (.w 9001 E3.length)]), (false, [(.w 9002 g5.length)]), (false, [(.i v5)]), (false, [(.i (flowErr N1 S1 T1 E3 f3))])]) [(9001, .fa E3), (9002, .fi g5)] (by kernel_rfl) ⟨(by decide), trivial⟩ ?_
      exact ⟨N1, S1, T1, E3, g5, v5, (flowErr N1 S1 T1 E3 f3), (by rw [zN, zS, zT, hE4] at hm5 ⊢; obtain ⟨q1, q2⟩ := RepRes.good hfin hm5; exact ⟨q1.trans hY.symm, .inr ⟨hY, rfl, rfl, rfl, rfl, (q2.resolve_left (fun q => q.1 rfl)).2.2.2.2.2⟩⟩), (by kernel_rfl), (by kernel_rfl)⟩
    ·
      refine atake_call (n := 10) (k := 5) (L := #[false, true, true, true, true, true, false, false, false, false, false, false, false, false, false]) [(1, 10118)] [] false ⟨true, [], 41, [.w 1 g1.length, .i k, .i (k + 1)], [(1, .fi g1)]⟩ [.w 1 g1.length, .i k, .i (k + 1)] (sm := ⟨45, [(6, .p 106), (10, .p 110), (35, .w 10118 g1.length), (36, .i k), (38, .i (k + 1)), (39, .whn false (.one .any))], [(106, .box 1 4 [(.i 0), (.i 0), (.i 0), .nils]), (110, .box 1 4 [(.i N1), (.i S1), (.i T1), (.w 118 E3.length)]), (118, .fa E3), (10118, .fi g1)]⟩) (by kernel_rfl) (by kernel_rfl) (by kernel_rfl) (by decide) (fun _ => trivial) rfl (fun _ => del_ints 1 g1 k (by omega) (by omega)) (fun _ v Hr hv => ?_) (fun h => by cases h)
      obtain ⟨rfl, rfl⟩ := hv
      refine ⟨⟨45, [(6, .p 106), (10, .p 110), (35, .w 10118 g1.length), (36, .i k), (38, .i (k + 1)), (39, .w 10118 (g1.length - 1))], [(106, .box 1 4 [(.i 0), (.i 0), (.i 0), .nils]), (110, .box 1 4 [(.i N1), (.i S1), (.i T1), (.w 118 E3.length)]), (118, .fa E3), (10118, .fi (delI g1 (Int.toNat k)))]⟩, by kernel_rfl, ?_⟩
      refine aany_weak (awk_cut [6, 10, 39] [106, 110, 118, 10118] _) ?_
      refine aany_walk (n := 9) (L := #[true, true, true, true, true, true, false, false, false, false, false, false, false, false, false]) (s' := ⟨45, [(6, .p 106), (34, .agg [(.i N1), (.i S1), (.i T1), (.w 118 E3.length)]), (39, .w 10118 (g1.length - 1))], [(106, .box 1 4 [(.i 0), (.i 0), (.i 0), .nils]), (118, .fa E3), (10118, .fi (delI g1 (Int.toNat k)))]⟩) [] false 1 [6, 34, 39] [106, 118, 10118] [(0, [(0 < 1)])] (by kernel_rfl) hT (by kernel_rfl) ⟨⟨(by decide), trivial⟩, trivial⟩ ?_
      refine aany_weak (s' := ⟨45, [(6, .p 106), (34, .agg [(.i N1), (.i S1), (.i T1), (.w 118 E3.length)]), (39, .w 10118 (g1.length - 1))], [(106, .box 1 4 [(.i 0), (.i 0), (.i 0), .nils]), (118, .fa E3), (10118, .fi (List.take (g1.length - 1) (delI g1 (Int.toNat k))))]⟩) (awk_trunc 10118 39 (g1.length - 1) (.ints .i64 (delI g1 (Int.toNat k))) _ (by kernel_rfl) (by kernel_rfl) (by decide) (by show (g1.length - 1) ≤ List.length (delI g1 (Int.toNat k)); omega)) ?_
      rw [show (List.take (g1.length - 1) (delI g1 (Int.toNat k))) = f3 from hf3]
      rw [show (g1.length - 1) = f3.length from hf3l]
      refine aany_call (n := 8) (k := 6) (L := #[true, true, true, true, true, true, true, false, false, false, false, false, false, false, false]) [] [(9001, 140), (9002, 10140)] true ⟨true, [], 38, [.agg [(.i N1), (.i S1), (.i T1), (.ro (.arcs (List.take E3.length E3)))], .one (.ro (.ints .i64 (List.take f3.length f3)))], []⟩ [.agg [(.i N1), (.i S1), (.i T1), (.ro (.arcs E3))], .one (.ro (.ints .i64 f3))] (sm := ⟨45, [(6, .p 106), (34, .agg [(.i N1), (.i S1), (.i T1), (.w 118 E3.length)]), (39, .w 10118 f3.length), (40, .whn false (.one .any))], [(106, .box 1 4 [(.i 0), (.i 0), (.i 0), .nils]), (118, .fa E3), (10118, .fi f3)]⟩) (by kernel_rfl) (by kernel_rfl) (by kernel_rfl) (by kernel_rfl) (by decide) (fun _ => trivial) (by rw [show (List.take E3.length E3) = E3 from List.take_of_length_le (by first | omega | simp)]; rw [show (List.take f3.length f3) = f3 from List.take_of_length_le (by first | omega | simp)]) (fun _ => rep_on N1 S1 T1 E3 f3 (by omega)) (fun _ v Hr hv => ?_) (fun h => by cases h)
      obtain ⟨g5, v5, hm5, rfl, rfl⟩ := hv
      refine ⟨⟨45, [(6, .p 106), (34, .agg [(.i N1), (.i S1), (.i T1), (.w 118 E3.length)]), (39, .w 10118 f3.length), (40, .tup [(true, [(.i N1), (.i S1), (.i T1), (.w 140 E3.length)]), (false, [(.w 10140 g5.length)]), (false, [(.i v5)]), (false, [(.i (flowErr N1 S1 T1 E3 f3))])])], [(106, .box 1 4 [(.i 0), (.i 0), (.i 0), .nils]), (118, .fa E3), (140, .fa E3), (10118, .fi f3), (10140, .fi g5)]⟩, by kernel_rfl, ?_⟩
      refine aany_weak (awk_cut [6, 40] [106, 140, 10140] _) ?_
      refine aany_end [] false [6, 7, 8, 9] [106, 140, 10140] 1 [(7, []), (8, []), (9, []), (10, []), (11, [(0 < 1)]), (12, []), (13, []), (14, [])] ⟨45, [(6, .p 106), (7, .w 10140 g5.length), (8, .i v5), (9, .i (flowErr N1 S1 T1 E3 f3))], [(106, .box 1 4 [(.i N1), (.i S1), (.i T1), (.w 140 E3.length)]), (140, .fa E3), (10140, .fi g5)]⟩ (by kernel_rfl) hT (by kernel_rfl) ⟨trivial, trivial, trivial, trivial, ⟨(by decide), trivial⟩, trivial, trivial, trivial, trivial⟩ ?_
      refine awp_weak (awk_ren 140 9001 (s' := ⟨45, [(6, .p 106), (7, .w 10140 g5.length), (8, .i v5), (9, .i (flowErr N1 S1 T1 E3 f3))], [(106, .box 1 4 [(.i N1), (.i S1), (.i T1), (.w 9001 E3.length)]), (9001, .fa E3), (10140, .fi g5)]⟩) (by kernel_rfl)) ?_
      refine awp_weak (awk_ren 10140 9002 (s' := ⟨45, [(6, .p 106), (7, .w 9002 g5.length), (8, .i v5), (9, .i (flowErr N1 S1 T1 E3 f3))], [(106, .box 1 4 [(.i N1), (.i S1), (.i T1), (.w 9001 E3.length)]), (9001, .fa E3), (9002, .fi g5)]⟩) (by kernel_rfl)) ?_
      refine awp_ret ?_
      refine kRet.ret _ [9001, 9002] [(0 < 1)] (.tup [(true, [(.i N1), (.i S1), (.i T1), (.w 9001 E3.length)]), (false, [(.w 9002 g5.length)]), (false, [(.i v5)]), (false, [(.i (flowErr N1 S1 T1 E3 f3))])]) [(9001, .fa E3), (9002, .fi g5)] (by kernel_rfl) ⟨(by decide), trivial⟩ ?_
      exact ⟨N1, S1, T1, E3, g5, v5, (flowErr N1 S1 T1 E3 f3), (by rw [zN, zS, zT, hE4] at hm5 ⊢; obtain ⟨q1, q2⟩ := RepRes.good hfin hm5; exact ⟨q1.trans hY.symm, .inr ⟨hY, rfl, rfl, rfl, rfl, (q2.resolve_left (fun q => q.1 rfl)).2.2.2.2.2⟩⟩), (by kernel_rfl), (by kernel_rfl)⟩
end Go.Ab
