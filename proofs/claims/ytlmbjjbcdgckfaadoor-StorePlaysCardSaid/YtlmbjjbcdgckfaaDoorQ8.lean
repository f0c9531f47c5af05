/- Parts of the proof, without conditions. -/
import Derived.Test.YtlmbjjbcdgckfaaDoorKk
import Derived.Test.YtlmbjjbcdgckfaaDoorTab
import Derived.Test.YtlmbjjbcdgckfaaDoorQ7
import Derived.Test.YtlmbjjbcdgckfaaDoorQ6
import Derived.Test.YtlmbjjbcdgckfaaDoorQ2
import Derived.Test.YtlmbjjbcdgckfaaDoorQ0
import Derived.Test.YtlmbjjbcdgckfaaDoorQ3
set_option maxRecDepth 100000
namespace Go.Ab
open Go Go.Proofs
abbrev Zbt1 (a0 : Int) (a1 : Int) (a2 : Int) (a3 : List Arc) (a4 : List Int) (a5 : List Sta) (a6 : List ByteArray) (a7 : List Sta) := ((1, .box 1 8 [(.i a0), (.i a1), (.i a2), (.ro (.arcs a3)), (.ro (.ints .i64 a4)), (.w 9002 a5.length), (.w 9003 a6.length), (.w 9004 a7.length)]) : Nat × Obj)
abbrev Zbt0 (a0 : Int) (a1 : Int) (a2 : Int) (a3 : List Arc) (a4 : List Int) (a5 : List Sta) (a6 : List ByteArray) (a7 : List Sta) := ([(Zbt1 a0 a1 a2 a3 a4 a5 a6 a7), (9002, .recs (.stas a5)), (9003, .flat (.strs a6)), (9004, .recs (.stas a7))] : List (Nat × Obj))
abbrev Zbt2 (a0 : Int) (a1 : Int) (a2 : Int) (a3 : List Arc) := ([(.i a0), (.i a1), (.i a2), (.ro (.arcs a3))] : List V1)
abbrev Zbt3 (a0 : Int) (a1 : Int) (a2 : Int) (a3 : Int) (a4 : ByteArray) := ((103, .box 1 5 [(.i a0), (.i a1), (.i a2), (.i a3), (.str a4)]) : Nat × Obj)
abbrev Zbt4 (a0 : Int) (a1 : Int) (a2 : Int) := ([(.i a0), (.i a1), (.i a2), (.ro (.arcs []))] : List V1)
abbrev Zbt5 (a0 : Int) := ((.tup [(false, [(.i 0)]), (false, [(.i a0)])]) : AV)
abbrev Zbt6 (a0 : Int) := ([(4, .i 0), (5, .i a0)] : List (Nat × AV))
abbrev Zbt7 (a0 : Int) (a1 : Int) (a2 : Int) (a3 : List Arc) := ((.i (okI (netErr a0 a1 a2 a3) (parted a0 a1 a2 a3).1)) : V1)
abbrev Zbt8 (a0 : Int) (a1 : Int) (a2 : Int) (a3 : List Arc) := ((106, .box 1 4 (Zbt2 a0 a1 a2 a3)) : Nat × Obj)
abbrev Zbt9 (a0 : List Int) := ((7, .one (.ro (.ints .i64 a0))) : Nat × AV)
abbrev Zbt10 (a0 : Int) (a1 : Int) (a2 : Int) (a3 : List Arc) := ((.int .u16 (okI (netErr a0 a1 a2 a3) (parted a0 a1 a2 a3).2.1)) : V1)
abbrev Zbt11 (a0 : Int) (a1 : Int) (a2 : Int) := ((.i (netErr a0 a1 a2 [])) : V1)
abbrev Zbt12 (a0 : Int) (a1 : Int) (a2 : Int) := ([(.i a0), (.i a1), (.i a2)] : List V1)
theorem store_do (n s t : Int) (es : List Arc) (f : List Int) (O : List Sta) (N : List ByteArray) (V : List Sta) (k a b m : Int) (w : ByteArray) (hO : O.length ≤ 20) (hN : N.length ≤ 4) (hV : V.length = N.length) (hE : netErr n s t es = 0) : ACall Tryd.prog 8 [.p 1, .agg [(.i k), (.i a), (.i b), (.i m), (.str w)]] (Zbt0 n s t es f O N V) (fun ov oh => ∃ (n9 s9 t9 : Int) (es9 : List Arc) (f9 : List Int) (O9 : List Sta) (N9 : List ByteArray) (V9 : List Sta) (x9 e9 : Int), (StoR n s t es f O N V k a b m w n9 s9 t9 es9 f9 O9 N9 V9 x9 e9) ∧ ov = .tup [(false, [(.i x9)]), (false, [(.i e9)])] ∧ oh = (Zbt0 n9 s9 t9 es9 f9 O9 N9 V9)) := by
 refine acall_intro hT Tryd.func8 rfl (by kernel_rfl) rfl (by kernel_rfl) ?_
 have hok := netErr_ok hE
 have hlow := (MinCut.low hok).1
 have hz0 := hlow.1.1
 have hz1 := hlow.1.2.1
 have hp12 := pow_le12 (n := n.toNat) (by have := hok.n2; omega)
 have h1 := hok.n1
 have h2 := hok.n2
 have hle := hok.len
 have hzz : (okI (netErr n s t es) (parted n s t es).2.1) = (parted n s t es).2.1 := okI_ok _ hE
 have hz2 : 0 ≤ (okI (netErr n s t es) (parted n s t es).2.1) ∧ (okI (netErr n s t es) (parted n s t es).2.1) ≤ 65535 := by rw [hzz]; omega
 refine kq [] ⟨190, [(0, .p 1), (3, .p 103)], [(Zbt1 n s t es f O N V), (Zbt3 k a b m w), (9002, .recs (.stas O)), (9003, .flat (.strs N)), (9004, .recs (.stas V))]⟩ hT (by kernel_rfl) trivial ?_
 refine awp_seq (awp_any [] false [0, 3, 6, 7] [103, 106, 9002, 9003, 9004] 45 [(0, []), (1, []), (2, []), (3, []), (4, [(0 < 1)]), (5, []), (6, []), (7, []), (8, []), (9, [(0 < 1)]), (10, []), (11, [(0 < 1)]), (12, [])] ⟨190, [(0, .p 1), (3, .p 103), (6, .p 106), (Zbt9 f)], [(Zbt1 n s t es f O N V), (Zbt3 k a b m w), (Zbt8 n s t es), (9002, .recs (.stas O)), (9003, .flat (.strs N)), (9004, .recs (.stas V))]⟩ (by kernel_rfl) (by kernel_rfl) hT (by kernel_rfl) ⟨trivial, trivial, trivial, trivial, ⟨(by decide), trivial⟩, trivial, trivial, trivial, trivial, ⟨(by decide), trivial⟩, trivial, ⟨(by decide), trivial⟩, trivial, trivial⟩ ?_)
 refine awp_seq ?_
 refine kq [(0 < 1)] ⟨190, [(0, .p 1), (3, .p 103), (6, .p 106), (Zbt9 f), (42, .i k)], [(Zbt1 n s t es f O N V), (Zbt3 k a b m w), (Zbt8 n s t es), (9002, .recs (.stas O)), (9003, .flat (.strs N)), (9004, .recs (.stas V))]⟩ hT (by kernel_rfl) ⟨(by decide), trivial⟩ ?_
 refine awp_block ?_
 refine kq [] ⟨190, [(0, .p 1), (3, .p 103), (6, .p 106), (Zbt9 f), (42, .i k), (43, .one (.bool (decide (k = 1))))], [(Zbt1 n s t es f O N V), (Zbt3 k a b m w), (Zbt8 n s t es), (9002, .recs (.stas O)), (9003, .flat (.strs N)), (9004, .recs (.stas V))]⟩ hT (by kernel_rfl) trivial ?_
 refine awp_cond (b := (decide (k = 1))) (by kernel_rfl) (fun c3 => ?_) (fun c3 => ?_)
 ·
  try simp only [bs] at c3
  refine kq [(0 < 1), (0 < 1), (0 < 1), (0 < 1)] ⟨190, [(0, .p 1), (8, .p 108)], [(Zbt1 n s t es f O N V), (108, .box 1 4 [(.i m), (.i a), (.i b), .nils]), (9002, .recs (.stas O)), (9003, .flat (.strs N)), (9004, .recs (.stas V))]⟩ hT (by kernel_rfl) ⟨(by decide), (by decide), (by decide), (by decide), trivial⟩ ?_
  refine awp_weak (awk_boxcell 108 3 1 4 [(.i m), (.i a), (.i b), .nils] (.nils) ((.ro (.arcs []))) _ (by kernel_rfl) rfl (wkv_nil0 rfl)) ?_
  refine awp_seq (awp_calm3 [(3, ⟨[.agg (Zbt4 m a b)], .one (Zbt11 m a b), [], []⟩)] false [[], [], [], [2], [0, 1, 2, 3], [0, 1, 2, 3, 4], [0, 1, 2, 3, 4], [0, 1, 2, 3, 4, 5, 6], [0, 1, 2, 3, 4, 5, 6, 7]] 4 5 #[true, true, true, true, false, false, false, false, false] [52, 53, 55] [9002, 9003, 9004] [(0, []), (1, [(0 < 1)]), (2, [(0 < 1)]), (3, [(true = true → (AllP [] ∧ [.agg (Zbt4 m a b)] = ([.agg (Zbt4 m a b)] : List AV) ∧ ACall Tryd.prog 13 [.agg (Zbt4 m a b)] [] (fun ov oh => ov = .one (Zbt11 m a b) ∧ oh = [])))])] ⟨190, [(52, .p 1), (53, .agg (Zbt4 m a b)), (55, .one (Zbt11 m a b))], (Zbt0 n s t es f O N V)⟩ (by kernel_rfl) hT (by kernel_rfl) (by kernel_rfl) (by kernel_rfl) (by kernel_rfl) ⟨trivial, ⟨(by decide), trivial⟩, ⟨(by decide), trivial⟩, ⟨(fun _ => ⟨trivial, rfl, graph_CheckNet m a b []⟩), trivial⟩, trivial⟩ ?_)
  refine aany_call (n := 4) (k := 4) (L := #[true, true, true, true, true, false, false, false, false]) [(1, 1), (9002, 9002), (9003, 9003), (9004, 9004)] [(9002, 9002), (9003, 9003), (9004, 9004)] false ⟨true, [], 12, [.p 1, .agg (Zbt4 m a b), .one .nils, .one (Zbt11 m a b)], (Zbt0 n s t es f O N V)⟩ [.p 1, .agg (Zbt4 m a b), .one .nils, .one (Zbt11 m a b)] (sm := ⟨190, [(52, .p 1), (53, .agg (Zbt4 m a b)), (55, .one (Zbt11 m a b)), (56, .whn false (.one .any))], (Zbt0 n s t es f O N V)⟩) (by kernel_rfl) (by kernel_rfl) (by kernel_rfl) (by kernel_rfl) (by decide) (fun _ => trivial) rfl (fun _ => store_set0 n s t es f O N V m a b [] (netErr m a b []) (by omega)) (fun _ v Hr hv => ?_) (fun h => by cases h)
  obtain ⟨n5, s5, t5, es5, f5, O5, ho5, rfl, rfl⟩ := hv
  refine ⟨⟨190, [(52, .p 1), (53, .agg (Zbt4 m a b)), (55, .one (Zbt11 m a b)), (56, .tup [(false, [(.i 0)]), (false, [(Zbt11 m a b)])])], (Zbt0 n5 s5 t5 es5 f5 O5 N V)⟩, by kernel_rfl, ?_⟩
  refine aany_weak (awk_cut [56] [9002, 9003, 9004] _) ?_
  refine aany_end [] false [4, 5] [9002, 9003, 9004] 1 [(5, []), (6, []), (7, []), (8, [])] ⟨190, [(4, .i 0), (5, .one (Zbt11 m a b))], (Zbt0 n5 s5 t5 es5 f5 O5 N V)⟩ (by kernel_rfl) hT (by kernel_rfl) ⟨trivial, trivial, trivial, trivial, trivial⟩ ?_
  refine awp_ret ?_
  refine kRet.ret _ [9002, 9003, 9004] [] (.tup [(false, [(.i 0)]), (false, [(Zbt11 m a b)])]) (Zbt0 n5 s5 t5 es5 f5 O5 N V) (by kernel_rfl) trivial ?_
  exact ⟨n5, s5, t5, es5, f5, O5, N, V, 0, (netErr m a b []), (by exact .net (by omega) ho5), (by kernel_rfl), (by kernel_rfl)⟩
 ·
  try simp only [bs] at c3
  refine kq [] ⟨190, [(0, .p 1), (3, .p 103), (6, .p 106), (Zbt9 f), (42, .i k), (59, .one (.bool (decide (k = 2))))], [(Zbt1 n s t es f O N V), (Zbt3 k a b m w), (Zbt8 n s t es), (9002, .recs (.stas O)), (9003, .flat (.strs N)), (9004, .recs (.stas V))]⟩ hT (by kernel_rfl) trivial ?_
  refine awp_cond (b := (decide (k = 2))) (by kernel_rfl) (fun c6 => ?_) (fun c6 => ?_)
  ·
   try simp only [bs] at c6
   refine awp_seq (awp_region ?_)
   refine ko 9 [(0 < 1), (0 < 1), (0 < 1), (0 < 1)] ⟨190, [(0, .p 1), (62, .agg (Zbt2 n s t es)), (63, .one (.ro (.ints .i64 f))), (70, .agg (Zbt12 a b m))], (Zbt0 n s t es f O N V)⟩ hT (by kernel_rfl) (by kernel_rfl) ⟨(by decide), (by decide), (by decide), (by decide), trivial⟩ ?_
   refine aops_call [] [(9001, 171), (9002, 10171)] false ⟨true, [], 14, [.agg (Zbt2 n s t es), .one (.ro (.ints .i64 f)), .agg (Zbt12 a b m)], []⟩ [.agg (Zbt2 n s t es), .one (.ro (.ints .i64 f)), .agg (Zbt12 a b m)] (sm := ⟨190, [(0, .p 1), (62, .agg (Zbt2 n s t es)), (63, .one (.ro (.ints .i64 f))), (70, .agg (Zbt12 a b m)), (71, .whn false (.one .any))], (Zbt0 n s t es f O N V)⟩) (by kernel_rfl) (by kernel_rfl) (by decide) (fun _ => trivial) rfl (fun _ => rep_add n s t es f ⟨a, b, m⟩) (fun _ v Hr hv => ?_) (fun h => by cases h)
   obtain ⟨N7, S7, T7, A7, g7, v7, e7, hr7, rfl, rfl⟩ := hv
   refine ⟨⟨190, [(0, .p 1), (62, .agg (Zbt2 n s t es)), (63, .one (.ro (.ints .i64 f))), (70, .agg (Zbt12 a b m)), (71, .tup [(true, [(.i N7), (.i S7), (.i T7), (.w 171 A7.length)]), (false, [(.w 10171 g7.length)]), (false, [(.i v7)]), (false, [(.i e7)])])], [(Zbt1 n s t es f O N V), (171, .fa A7), (9002, .recs (.stas O)), (9003, .flat (.strs N)), (9004, .recs (.stas V)), (10171, .fi g7)]⟩, by kernel_rfl, ?_⟩
   refine ko 10 [(0 < 1)] ⟨190, [(0, .p 1), (9, .p 109), (10, .w 10171 g7.length), (12, .i e7)], [(Zbt1 n s t es f O N V), (109, .box 1 4 [(.i N7), (.i S7), (.i T7), (.w 171 A7.length)]), (171, .fa A7), (9002, .recs (.stas O)), (9003, .flat (.strs N)), (9004, .recs (.stas V)), (10171, .fi g7)]⟩ hT (by kernel_rfl) (by kernel_rfl) ⟨(by decide), trivial⟩ ?_
   refine aops_end_seq (by kernel_rfl) ?_
   refine awp_weak (awk_seal 10171 (s' := ⟨190, [(0, .p 1), (9, .p 109), (10, .one (.ro (.ints .i64 (List.take g7.length g7)))), (12, .i e7)], [(Zbt1 n s t es f O N V), (109, .box 1 4 [(.i N7), (.i S7), (.i T7), (.w 171 A7.length)]), (171, .fa A7), (9002, .recs (.stas O)), (9003, .flat (.strs N)), (9004, .recs (.stas V))]⟩) (by kernel_rfl)) ?_
   rw [show (List.take g7.length g7) = g7 from List.take_of_length_le (by first | omega | simp)]
   refine awp_weak (awk_seal 171 (s' := ⟨190, [(0, .p 1), (9, .p 109), (10, .one (.ro (.ints .i64 g7))), (12, .i e7)], [(Zbt1 n s t es f O N V), (109, .box 1 4 [(.i N7), (.i S7), (.i T7), (.ro (.arcs (List.take A7.length A7)))]), (9002, .recs (.stas O)), (9003, .flat (.strs N)), (9004, .recs (.stas V))]⟩) (by kernel_rfl)) ?_
   rw [show (List.take A7.length A7) = A7 from List.take_of_length_le (by first | omega | simp)]
   refine awp_seq (awp_region ?_)
   refine ko 4 [(0 < 1)] ⟨190, [(76, .p 1), (77, .agg (Zbt2 N7 S7 T7 A7)), (78, .one (.ro (.ints .i64 g7))), (79, .i e7)], (Zbt0 n s t es f O N V)⟩ hT (by kernel_rfl) (by kernel_rfl) ⟨(by decide), trivial⟩ ?_
   refine aops_call [(1, 1), (9002, 9002), (9003, 9003), (9004, 9004)] [(9002, 9002), (9003, 9003), (9004, 9004)] false ⟨true, [], 12, [.p 1, .agg (Zbt2 N7 S7 T7 A7), .one (.ro (.ints .i64 g7)), .i e7], (Zbt0 n s t es f O N V)⟩ [.p 1, .agg (Zbt2 N7 S7 T7 A7), .one (.ro (.ints .i64 g7)), .i e7] (sm := ⟨190, [(76, .p 1), (77, .agg (Zbt2 N7 S7 T7 A7)), (78, .one (.ro (.ints .i64 g7))), (79, .i e7), (80, .whn false (.one .any))], (Zbt0 n s t es f O N V)⟩) (by kernel_rfl) (by kernel_rfl) (by decide) (fun _ => trivial) rfl (fun _ => store_set n s t es f O N V N7 S7 T7 A7 g7 e7 (by omega)) (fun _ v Hr hv => ?_) (fun h => by cases h)
   obtain ⟨n8, s8, t8, es8, f8, O8, ho8, rfl, rfl⟩ := hv
   refine ⟨⟨190, [(76, .p 1), (77, .agg (Zbt2 N7 S7 T7 A7)), (78, .one (.ro (.ints .i64 g7))), (79, .i e7), (80, .tup [(false, [(.i 0)]), (false, [(.i e7)])])], (Zbt0 n8 s8 t8 es8 f8 O8 N V)⟩, by kernel_rfl, ?_⟩
   refine ko 4 [] ⟨190, (Zbt6 e7), (Zbt0 n8 s8 t8 es8 f8 O8 N V)⟩ hT (by kernel_rfl) (by kernel_rfl) trivial ?_
   refine aops_end_seq (by kernel_rfl) ?_
   refine awp_ret ?_
   refine kRet.ret _ [9002, 9003, 9004] [] (Zbt5 e7) (Zbt0 n8 s8 t8 es8 f8 O8 N V) (by kernel_rfl) trivial ?_
   exact ⟨n8, s8, t8, es8, f8, O8, N, V, 0, e7, (by exact .arc (by omega) hr7 ho8), (by kernel_rfl), (by kernel_rfl)⟩
  ·
   try simp only [bs] at c6
   refine kq [] ⟨190, [(0, .p 1), (3, .p 103), (6, .p 106), (Zbt9 f), (42, .i k), (83, .one (.bool (decide (k = 3))))], [(Zbt1 n s t es f O N V), (Zbt3 k a b m w), (Zbt8 n s t es), (9002, .recs (.stas O)), (9003, .flat (.strs N)), (9004, .recs (.stas V))]⟩ hT (by kernel_rfl) trivial ?_
   refine awp_cond (b := (decide (k = 3))) (by kernel_rfl) (fun c9 => ?_) (fun c9 => ?_)
   ·
    try simp only [bs] at c9
    refine awp_seq (awp_region ?_)
    refine ko 6 [(0 < 1), (0 < 1), (0 < 1)] ⟨190, [(0, .p 1), (86, .agg (Zbt2 n s t es)), (87, .one (.ro (.ints .i64 f))), (89, .i a), (91, .i m)], (Zbt0 n s t es f O N V)⟩ hT (by kernel_rfl) (by kernel_rfl) ⟨(by decide), (by decide), (by decide), trivial⟩ ?_
    refine aops_call [] [(9001, 192), (9002, 10192)] false ⟨true, [], 15, [.agg (Zbt2 n s t es), .one (.ro (.ints .i64 f)), .i a, .i m], []⟩ [.agg (Zbt2 n s t es), .one (.ro (.ints .i64 f)), .i a, .i m] (sm := ⟨190, [(0, .p 1), (86, .agg (Zbt2 n s t es)), (87, .one (.ro (.ints .i64 f))), (89, .i a), (91, .i m), (92, .whn false (.one .any))], (Zbt0 n s t es f O N V)⟩) (by kernel_rfl) (by kernel_rfl) (by decide) (fun _ => trivial) rfl (fun _ => rep_cap n s t es f a m) (fun _ v Hr hv => ?_) (fun h => by cases h)
    obtain ⟨N10, S10, T10, A10, g10, v10, e10, hr10, rfl, rfl⟩ := hv
    refine ⟨⟨190, [(0, .p 1), (86, .agg (Zbt2 n s t es)), (87, .one (.ro (.ints .i64 f))), (89, .i a), (91, .i m), (92, .tup [(true, [(.i N10), (.i S10), (.i T10), (.w 192 A10.length)]), (false, [(.w 10192 g10.length)]), (false, [(.i v10)]), (false, [(.i e10)])])], [(Zbt1 n s t es f O N V), (192, .fa A10), (9002, .recs (.stas O)), (9003, .flat (.strs N)), (9004, .recs (.stas V)), (10192, .fi g10)]⟩, by kernel_rfl, ?_⟩
    refine ko 10 [(0 < 1)] ⟨190, [(0, .p 1), (13, .p 113), (14, .w 10192 g10.length), (16, .i e10)], [(Zbt1 n s t es f O N V), (113, .box 1 4 [(.i N10), (.i S10), (.i T10), (.w 192 A10.length)]), (192, .fa A10), (9002, .recs (.stas O)), (9003, .flat (.strs N)), (9004, .recs (.stas V)), (10192, .fi g10)]⟩ hT (by kernel_rfl) (by kernel_rfl) ⟨(by decide), trivial⟩ ?_
    refine aops_end_seq (by kernel_rfl) ?_
    refine awp_weak (awk_seal 10192 (s' := ⟨190, [(0, .p 1), (13, .p 113), (14, .one (.ro (.ints .i64 (List.take g10.length g10)))), (16, .i e10)], [(Zbt1 n s t es f O N V), (113, .box 1 4 [(.i N10), (.i S10), (.i T10), (.w 192 A10.length)]), (192, .fa A10), (9002, .recs (.stas O)), (9003, .flat (.strs N)), (9004, .recs (.stas V))]⟩) (by kernel_rfl)) ?_
    rw [show (List.take g10.length g10) = g10 from List.take_of_length_le (by first | omega | simp)]
    refine awp_weak (awk_seal 192 (s' := ⟨190, [(0, .p 1), (13, .p 113), (14, .one (.ro (.ints .i64 g10))), (16, .i e10)], [(Zbt1 n s t es f O N V), (113, .box 1 4 [(.i N10), (.i S10), (.i T10), (.ro (.arcs (List.take A10.length A10)))]), (9002, .recs (.stas O)), (9003, .flat (.strs N)), (9004, .recs (.stas V))]⟩) (by kernel_rfl)) ?_
    rw [show (List.take A10.length A10) = A10 from List.take_of_length_le (by first | omega | simp)]
    refine awp_seq (awp_region ?_)
    refine ko 4 [(0 < 1)] ⟨190, [(97, .p 1), (98, .agg (Zbt2 N10 S10 T10 A10)), (99, .one (.ro (.ints .i64 g10))), (100, .i e10)], (Zbt0 n s t es f O N V)⟩ hT (by kernel_rfl) (by kernel_rfl) ⟨(by decide), trivial⟩ ?_
    refine aops_call [(1, 1), (9002, 9002), (9003, 9003), (9004, 9004)] [(9002, 9002), (9003, 9003), (9004, 9004)] false ⟨true, [], 12, [.p 1, .agg (Zbt2 N10 S10 T10 A10), .one (.ro (.ints .i64 g10)), .i e10], (Zbt0 n s t es f O N V)⟩ [.p 1, .agg (Zbt2 N10 S10 T10 A10), .one (.ro (.ints .i64 g10)), .i e10] (sm := ⟨190, [(97, .p 1), (98, .agg (Zbt2 N10 S10 T10 A10)), (99, .one (.ro (.ints .i64 g10))), (100, .i e10), (101, .whn false (.one .any))], (Zbt0 n s t es f O N V)⟩) (by kernel_rfl) (by kernel_rfl) (by decide) (fun _ => trivial) rfl (fun _ => store_set n s t es f O N V N10 S10 T10 A10 g10 e10 (by omega)) (fun _ v Hr hv => ?_) (fun h => by cases h)
    obtain ⟨n11, s11, t11, es11, f11, O11, ho11, rfl, rfl⟩ := hv
    refine ⟨⟨190, [(97, .p 1), (98, .agg (Zbt2 N10 S10 T10 A10)), (99, .one (.ro (.ints .i64 g10))), (100, .i e10), (101, .tup [(false, [(.i 0)]), (false, [(.i e10)])])], (Zbt0 n11 s11 t11 es11 f11 O11 N V)⟩, by kernel_rfl, ?_⟩
    refine ko 4 [] ⟨190, (Zbt6 e10), (Zbt0 n11 s11 t11 es11 f11 O11 N V)⟩ hT (by kernel_rfl) (by kernel_rfl) trivial ?_
    refine aops_end_seq (by kernel_rfl) ?_
    refine awp_ret ?_
    refine kRet.ret _ [9002, 9003, 9004] [] (Zbt5 e10) (Zbt0 n11 s11 t11 es11 f11 O11 N V) (by kernel_rfl) trivial ?_
    exact ⟨n11, s11, t11, es11, f11, O11, N, V, 0, e10, (by exact .cap (by omega) hr10 ho11), (by kernel_rfl), (by kernel_rfl)⟩
   ·
    try simp only [bs] at c9
    refine kq [] ⟨190, [(0, .p 1), (3, .p 103), (6, .p 106), (Zbt9 f), (42, .i k), (104, .one (.bool (decide (k = 4))))], [(Zbt1 n s t es f O N V), (Zbt3 k a b m w), (Zbt8 n s t es), (9002, .recs (.stas O)), (9003, .flat (.strs N)), (9004, .recs (.stas V))]⟩ hT (by kernel_rfl) trivial ?_
    refine awp_cond (b := (decide (k = 4))) (by kernel_rfl) (fun c12 => ?_) (fun c12 => ?_)
    ·
     try simp only [bs] at c12
     refine awp_seq (awp_region ?_)
     refine ko 4 [(0 < 1), (0 < 1)] ⟨190, [(0, .p 1), (107, .agg (Zbt2 n s t es)), (108, .one (.ro (.ints .i64 f))), (110, .i a)], (Zbt0 n s t es f O N V)⟩ hT (by kernel_rfl) (by kernel_rfl) ⟨(by decide), (by decide), trivial⟩ ?_
     refine aops_call [] [(9001, 211), (9002, 10211)] false ⟨true, [], 16, [.agg (Zbt2 n s t es), .one (.ro (.ints .i64 f)), .i a], []⟩ [.agg (Zbt2 n s t es), .one (.ro (.ints .i64 f)), .i a] (sm := ⟨190, [(0, .p 1), (107, .agg (Zbt2 n s t es)), (108, .one (.ro (.ints .i64 f))), (110, .i a), (111, .whn false (.one .any))], (Zbt0 n s t es f O N V)⟩) (by kernel_rfl) (by kernel_rfl) (by decide) (fun _ => trivial) rfl (fun _ => rep_drop n s t es f a) (fun _ v Hr hv => ?_) (fun h => by cases h)
     obtain ⟨N13, S13, T13, A13, g13, v13, e13, hr13, rfl, rfl⟩ := hv
     refine ⟨⟨190, [(0, .p 1), (107, .agg (Zbt2 n s t es)), (108, .one (.ro (.ints .i64 f))), (110, .i a), (111, .tup [(true, [(.i N13), (.i S13), (.i T13), (.w 211 A13.length)]), (false, [(.w 10211 g13.length)]), (false, [(.i v13)]), (false, [(.i e13)])])], [(Zbt1 n s t es f O N V), (211, .fa A13), (9002, .recs (.stas O)), (9003, .flat (.strs N)), (9004, .recs (.stas V)), (10211, .fi g13)]⟩, by kernel_rfl, ?_⟩
     refine ko 10 [(0 < 1)] ⟨190, [(0, .p 1), (17, .p 117), (18, .w 10211 g13.length), (20, .i e13)], [(Zbt1 n s t es f O N V), (117, .box 1 4 [(.i N13), (.i S13), (.i T13), (.w 211 A13.length)]), (211, .fa A13), (9002, .recs (.stas O)), (9003, .flat (.strs N)), (9004, .recs (.stas V)), (10211, .fi g13)]⟩ hT (by kernel_rfl) (by kernel_rfl) ⟨(by decide), trivial⟩ ?_
     refine aops_end_seq (by kernel_rfl) ?_
     refine awp_weak (awk_seal 10211 (s' := ⟨190, [(0, .p 1), (17, .p 117), (18, .one (.ro (.ints .i64 (List.take g13.length g13)))), (20, .i e13)], [(Zbt1 n s t es f O N V), (117, .box 1 4 [(.i N13), (.i S13), (.i T13), (.w 211 A13.length)]), (211, .fa A13), (9002, .recs (.stas O)), (9003, .flat (.strs N)), (9004, .recs (.stas V))]⟩) (by kernel_rfl)) ?_
     rw [show (List.take g13.length g13) = g13 from List.take_of_length_le (by first | omega | simp)]
     refine awp_weak (awk_seal 211 (s' := ⟨190, [(0, .p 1), (17, .p 117), (18, .one (.ro (.ints .i64 g13))), (20, .i e13)], [(Zbt1 n s t es f O N V), (117, .box 1 4 [(.i N13), (.i S13), (.i T13), (.ro (.arcs (List.take A13.length A13)))]), (9002, .recs (.stas O)), (9003, .flat (.strs N)), (9004, .recs (.stas V))]⟩) (by kernel_rfl)) ?_
     rw [show (List.take A13.length A13) = A13 from List.take_of_length_le (by first | omega | simp)]
     refine awp_seq (awp_region ?_)
     refine ko 4 [(0 < 1)] ⟨190, [(116, .p 1), (117, .agg (Zbt2 N13 S13 T13 A13)), (118, .one (.ro (.ints .i64 g13))), (119, .i e13)], (Zbt0 n s t es f O N V)⟩ hT (by kernel_rfl) (by kernel_rfl) ⟨(by decide), trivial⟩ ?_
     refine aops_call [(1, 1), (9002, 9002), (9003, 9003), (9004, 9004)] [(9002, 9002), (9003, 9003), (9004, 9004)] false ⟨true, [], 12, [.p 1, .agg (Zbt2 N13 S13 T13 A13), .one (.ro (.ints .i64 g13)), .i e13], (Zbt0 n s t es f O N V)⟩ [.p 1, .agg (Zbt2 N13 S13 T13 A13), .one (.ro (.ints .i64 g13)), .i e13] (sm := ⟨190, [(116, .p 1), (117, .agg (Zbt2 N13 S13 T13 A13)), (118, .one (.ro (.ints .i64 g13))), (119, .i e13), (120, .whn false (.one .any))], (Zbt0 n s t es f O N V)⟩) (by kernel_rfl) (by kernel_rfl) (by decide) (fun _ => trivial) rfl (fun _ => store_set n s t es f O N V N13 S13 T13 A13 g13 e13 (by omega)) (fun _ v Hr hv => ?_) (fun h => by cases h)
     obtain ⟨n14, s14, t14, es14, f14, O14, ho14, rfl, rfl⟩ := hv
     refine ⟨⟨190, [(116, .p 1), (117, .agg (Zbt2 N13 S13 T13 A13)), (118, .one (.ro (.ints .i64 g13))), (119, .i e13), (120, .tup [(false, [(.i 0)]), (false, [(.i e13)])])], (Zbt0 n14 s14 t14 es14 f14 O14 N V)⟩, by kernel_rfl, ?_⟩
     refine ko 4 [] ⟨190, (Zbt6 e13), (Zbt0 n14 s14 t14 es14 f14 O14 N V)⟩ hT (by kernel_rfl) (by kernel_rfl) trivial ?_
     refine aops_end_seq (by kernel_rfl) ?_
     refine awp_ret ?_
     refine kRet.ret _ [9002, 9003, 9004] [] (Zbt5 e13) (Zbt0 n14 s14 t14 es14 f14 O14 N V) (by kernel_rfl) trivial ?_
     exact ⟨n14, s14, t14, es14, f14, O14, N, V, 0, e13, (by exact .drop (by omega) hr13 ho14), (by kernel_rfl), (by kernel_rfl)⟩
    ·
     try simp only [bs] at c12
     refine kq [] ⟨190, [(0, .p 1), (3, .p 103), (6, .p 106), (Zbt9 f), (42, .i k), (123, .one (.bool (decide (k = 5))))], [(Zbt1 n s t es f O N V), (Zbt3 k a b m w), (Zbt8 n s t es), (9002, .recs (.stas O)), (9003, .flat (.strs N)), (9004, .recs (.stas V))]⟩ hT (by kernel_rfl) trivial ?_
     refine awp_cond (b := (decide (k = 5))) (by kernel_rfl) (fun c15 => ?_) (fun c15 => ?_)
     ·
      try simp only [bs] at c15
      refine awp_seq (awp_region ?_)
      refine ko 6 [(0 < 1), (0 < 1), (0 < 1)] ⟨190, [(0, .p 1), (126, .agg (Zbt2 n s t es)), (127, .one (.ro (.ints .i64 f))), (129, .i a), (131, .i b)], (Zbt0 n s t es f O N V)⟩ hT (by kernel_rfl) (by kernel_rfl) ⟨(by decide), (by decide), (by decide), trivial⟩ ?_
      refine aops_call [] [(9001, 232), (9002, 10232)] false ⟨true, [], 17, [.agg (Zbt2 n s t es), .one (.ro (.ints .i64 f)), .i a, .i b], []⟩ [.agg (Zbt2 n s t es), .one (.ro (.ints .i64 f)), .i a, .i b] (sm := ⟨190, [(0, .p 1), (126, .agg (Zbt2 n s t es)), (127, .one (.ro (.ints .i64 f))), (129, .i a), (131, .i b), (132, .whn false (.one .any))], (Zbt0 n s t es f O N V)⟩) (by kernel_rfl) (by kernel_rfl) (by decide) (fun _ => trivial) rfl (fun _ => rep_ends n s t es f a b) (fun _ v Hr hv => ?_) (fun h => by cases h)
      obtain ⟨N16, S16, T16, A16, g16, v16, e16, hr16, rfl, rfl⟩ := hv
      refine ⟨⟨190, [(0, .p 1), (126, .agg (Zbt2 n s t es)), (127, .one (.ro (.ints .i64 f))), (129, .i a), (131, .i b), (132, .tup [(true, [(.i N16), (.i S16), (.i T16), (.w 232 A16.length)]), (false, [(.w 10232 g16.length)]), (false, [(.i v16)]), (false, [(.i e16)])])], [(Zbt1 n s t es f O N V), (232, .fa A16), (9002, .recs (.stas O)), (9003, .flat (.strs N)), (9004, .recs (.stas V)), (10232, .fi g16)]⟩, by kernel_rfl, ?_⟩
      refine ko 10 [(0 < 1)] ⟨190, [(0, .p 1), (21, .p 121), (22, .w 10232 g16.length), (24, .i e16)], [(Zbt1 n s t es f O N V), (121, .box 1 4 [(.i N16), (.i S16), (.i T16), (.w 232 A16.length)]), (232, .fa A16), (9002, .recs (.stas O)), (9003, .flat (.strs N)), (9004, .recs (.stas V)), (10232, .fi g16)]⟩ hT (by kernel_rfl) (by kernel_rfl) ⟨(by decide), trivial⟩ ?_
      refine aops_end_seq (by kernel_rfl) ?_
      refine awp_weak (awk_seal 10232 (s' := ⟨190, [(0, .p 1), (21, .p 121), (22, .one (.ro (.ints .i64 (List.take g16.length g16)))), (24, .i e16)], [(Zbt1 n s t es f O N V), (121, .box 1 4 [(.i N16), (.i S16), (.i T16), (.w 232 A16.length)]), (232, .fa A16), (9002, .recs (.stas O)), (9003, .flat (.strs N)), (9004, .recs (.stas V))]⟩) (by kernel_rfl)) ?_
      rw [show (List.take g16.length g16) = g16 from List.take_of_length_le (by first | omega | simp)]
      refine awp_weak (awk_seal 232 (s' := ⟨190, [(0, .p 1), (21, .p 121), (22, .one (.ro (.ints .i64 g16))), (24, .i e16)], [(Zbt1 n s t es f O N V), (121, .box 1 4 [(.i N16), (.i S16), (.i T16), (.ro (.arcs (List.take A16.length A16)))]), (9002, .recs (.stas O)), (9003, .flat (.strs N)), (9004, .recs (.stas V))]⟩) (by kernel_rfl)) ?_
      rw [show (List.take A16.length A16) = A16 from List.take_of_length_le (by first | omega | simp)]
      refine awp_seq (awp_region ?_)
      refine ko 4 [(0 < 1)] ⟨190, [(137, .p 1), (138, .agg (Zbt2 N16 S16 T16 A16)), (139, .one (.ro (.ints .i64 g16))), (140, .i e16)], (Zbt0 n s t es f O N V)⟩ hT (by kernel_rfl) (by kernel_rfl) ⟨(by decide), trivial⟩ ?_
      refine aops_call [(1, 1), (9002, 9002), (9003, 9003), (9004, 9004)] [(9002, 9002), (9003, 9003), (9004, 9004)] false ⟨true, [], 12, [.p 1, .agg (Zbt2 N16 S16 T16 A16), .one (.ro (.ints .i64 g16)), .i e16], (Zbt0 n s t es f O N V)⟩ [.p 1, .agg (Zbt2 N16 S16 T16 A16), .one (.ro (.ints .i64 g16)), .i e16] (sm := ⟨190, [(137, .p 1), (138, .agg (Zbt2 N16 S16 T16 A16)), (139, .one (.ro (.ints .i64 g16))), (140, .i e16), (141, .whn false (.one .any))], (Zbt0 n s t es f O N V)⟩) (by kernel_rfl) (by kernel_rfl) (by decide) (fun _ => trivial) rfl (fun _ => store_set n s t es f O N V N16 S16 T16 A16 g16 e16 (by omega)) (fun _ v Hr hv => ?_) (fun h => by cases h)
      obtain ⟨n17, s17, t17, es17, f17, O17, ho17, rfl, rfl⟩ := hv
      refine ⟨⟨190, [(137, .p 1), (138, .agg (Zbt2 N16 S16 T16 A16)), (139, .one (.ro (.ints .i64 g16))), (140, .i e16), (141, .tup [(false, [(.i 0)]), (false, [(.i e16)])])], (Zbt0 n17 s17 t17 es17 f17 O17 N V)⟩, by kernel_rfl, ?_⟩
      refine ko 4 [] ⟨190, (Zbt6 e16), (Zbt0 n17 s17 t17 es17 f17 O17 N V)⟩ hT (by kernel_rfl) (by kernel_rfl) trivial ?_
      refine aops_end_seq (by kernel_rfl) ?_
      refine awp_ret ?_
      refine kRet.ret _ [9002, 9003, 9004] [] (Zbt5 e16) (Zbt0 n17 s17 t17 es17 f17 O17 N V) (by kernel_rfl) trivial ?_
      exact ⟨n17, s17, t17, es17, f17, O17, N, V, 0, e16, (by exact .ends (by omega) hr16 ho17), (by kernel_rfl), (by kernel_rfl)⟩
     ·
      try simp only [bs] at c15
      refine kq [] ⟨190, [(0, .p 1), (3, .p 103), (6, .p 106), (42, .i k), (144, .one (.bool (decide (k = 6))))], [(Zbt1 n s t es f O N V), (Zbt3 k a b m w), (Zbt8 n s t es), (9002, .recs (.stas O)), (9003, .flat (.strs N)), (9004, .recs (.stas V))]⟩ hT (by kernel_rfl) trivial ?_
      refine awp_cond (b := (decide (k = 6))) (by kernel_rfl) (fun c18 => ?_) (fun c18 => ?_)
      ·
       try simp only [bs] at c18
       refine awp_seq (awp_region ?_)
       refine ko 1 [] ⟨190, [(146, .p 1)], (Zbt0 n s t es f O N V)⟩ hT (by kernel_rfl) (by kernel_rfl) trivial ?_
       refine aops_call [(1, 1), (9002, 9002), (9003, 9003), (9004, 9004)] [(9002, 9002), (9003, 9003), (9004, 9004)] false ⟨true, [], 18, [.p 1], (Zbt0 n s t es f O N V)⟩ [.p 1] (sm := ⟨190, [(146, .p 1), (147, .whn false (.one .any))], (Zbt0 n s t es f O N V)⟩) (by kernel_rfl) (by kernel_rfl) (by decide) (fun _ => trivial) rfl (fun _ => store_undo n s t es f O N V (by omega)) (fun _ v Hr hv => ?_) (fun h => by cases h)
       obtain ⟨n19, s19, t19, es19, f19, O19, e19, ho19, rfl, rfl⟩ := hv
       refine ⟨⟨190, [(146, .p 1), (147, .tup [(false, [(.i 0)]), (false, [(.i e19)])])], (Zbt0 n19 s19 t19 es19 f19 O19 N V)⟩, by kernel_rfl, ?_⟩
       refine ko 4 [] ⟨190, (Zbt6 e19), (Zbt0 n19 s19 t19 es19 f19 O19 N V)⟩ hT (by kernel_rfl) (by kernel_rfl) trivial ?_
       refine aops_end_seq (by kernel_rfl) ?_
       refine awp_ret ?_
       refine kRet.ret _ [9002, 9003, 9004] [] (Zbt5 e19) (Zbt0 n19 s19 t19 es19 f19 O19 N V) (by kernel_rfl) trivial ?_
       exact ⟨n19, s19, t19, es19, f19, O19, N, V, 0, e19, (by exact .undo (by omega) ho19), (by kernel_rfl), (by kernel_rfl)⟩
      ·
       try simp only [bs] at c18
       refine kq [] ⟨190, [(0, .p 1), (3, .p 103), (6, .p 106), (42, .i k), (150, .one (.bool (decide (k = 7))))], [(Zbt1 n s t es f O N V), (Zbt3 k a b m w), (Zbt8 n s t es), (9002, .recs (.stas O)), (9003, .flat (.strs N)), (9004, .recs (.stas V))]⟩ hT (by kernel_rfl) trivial ?_
       refine awp_cond (b := (decide (k = 7))) (by kernel_rfl) (fun c20 => ?_) (fun c20 => ?_)
       ·
        try simp only [bs] at c20
        refine awp_seq (awp_region ?_)
        refine ko 3 [(0 < 1)] ⟨190, [(152, .p 1), (154, .one (.str w))], (Zbt0 n s t es f O N V)⟩ hT (by kernel_rfl) (by kernel_rfl) ⟨(by decide), trivial⟩ ?_
        refine aops_call [(1, 1), (9002, 9002), (9003, 9003), (9004, 9004)] [(9002, 9002), (9003, 9003), (9004, 9004)] false ⟨true, [], 19, [.p 1, .one (.str w)], (Zbt0 n s t es f O N V)⟩ [.p 1, .one (.str w)] (sm := ⟨190, [(152, .p 1), (154, .one (.str w)), (155, .whn false (.one .any))], (Zbt0 n s t es f O N V)⟩) (by kernel_rfl) (by kernel_rfl) (by decide) (fun _ => trivial) rfl (fun _ => store_save n s t es f O N V w (by omega) (by omega)) (fun _ v Hr hv => ?_) (fun h => by cases h)
        obtain ⟨N21, V21, e21, ho21, rfl, rfl⟩ := hv
        refine ⟨⟨190, [(152, .p 1), (154, .one (.str w)), (155, .tup [(false, [(.i 0)]), (false, [(.i e21)])])], (Zbt0 n s t es f O N21 V21)⟩, by kernel_rfl, ?_⟩
        refine ko 4 [] ⟨190, (Zbt6 e21), (Zbt0 n s t es f O N21 V21)⟩ hT (by kernel_rfl) (by kernel_rfl) trivial ?_
        refine aops_end_seq (by kernel_rfl) ?_
        refine awp_ret ?_
        refine kRet.ret _ [9002, 9003, 9004] [] (Zbt5 e21) (Zbt0 n s t es f O N21 V21) (by kernel_rfl) trivial ?_
        exact ⟨n, s, t, es, f, O, N21, V21, 0, e21, (by exact .save (by omega) ho21), (by kernel_rfl), (by kernel_rfl)⟩
       ·
        try simp only [bs] at c20
        refine kq [] ⟨190, [(0, .p 1), (3, .p 103), (6, .p 106), (42, .i k), (158, .one (.bool (decide (k = 8))))], [(Zbt1 n s t es f O N V), (Zbt3 k a b m w), (Zbt8 n s t es), (9002, .recs (.stas O)), (9003, .flat (.strs N)), (9004, .recs (.stas V))]⟩ hT (by kernel_rfl) trivial ?_
        refine awp_cond (b := (decide (k = 8))) (by kernel_rfl) (fun c22 => ?_) (fun c22 => ?_)
        ·
         try simp only [bs] at c22
         refine awp_seq (awp_region ?_)
         refine ko 3 [(0 < 1)] ⟨190, [(160, .p 1), (162, .one (.str w))], (Zbt0 n s t es f O N V)⟩ hT (by kernel_rfl) (by kernel_rfl) ⟨(by decide), trivial⟩ ?_
         refine aops_call [(1, 1), (9002, 9002), (9003, 9003), (9004, 9004)] [(9002, 9002), (9003, 9003), (9004, 9004)] false ⟨true, [], 20, [.p 1, .one (.str w)], (Zbt0 n s t es f O N V)⟩ [.p 1, .one (.str w)] (sm := ⟨190, [(160, .p 1), (162, .one (.str w)), (163, .whn false (.one .any))], (Zbt0 n s t es f O N V)⟩) (by kernel_rfl) (by kernel_rfl) (by decide) (fun _ => trivial) rfl (fun _ => store_load n s t es f O N V w (by omega) (by omega) (by omega)) (fun _ v Hr hv => ?_) (fun h => by cases h)
         obtain ⟨n23, s23, t23, es23, f23, O23, e23, ho23, rfl, rfl⟩ := hv
         refine ⟨⟨190, [(160, .p 1), (162, .one (.str w)), (163, .tup [(false, [(.i 0)]), (false, [(.i e23)])])], (Zbt0 n23 s23 t23 es23 f23 O23 N V)⟩, by kernel_rfl, ?_⟩
         refine ko 4 [] ⟨190, (Zbt6 e23), (Zbt0 n23 s23 t23 es23 f23 O23 N V)⟩ hT (by kernel_rfl) (by kernel_rfl) trivial ?_
         refine aops_end_seq (by kernel_rfl) ?_
         refine awp_ret ?_
         refine kRet.ret _ [9002, 9003, 9004] [] (Zbt5 e23) (Zbt0 n23 s23 t23 es23 f23 O23 N V) (by kernel_rfl) trivial ?_
         exact ⟨n23, s23, t23, es23, f23, O23, N, V, 0, e23, (by exact .load (by omega) ho23), (by kernel_rfl), (by kernel_rfl)⟩
        ·
         try simp only [bs] at c22
         refine kq [] ⟨190, [(6, .p 106), (42, .i k), (166, .one (.bool (decide (k = 9))))], [(Zbt1 n s t es f O N V), (Zbt8 n s t es), (9002, .recs (.stas O)), (9003, .flat (.strs N)), (9004, .recs (.stas V))]⟩ hT (by kernel_rfl) trivial ?_
         refine awp_cond (b := (decide (k = 9))) (by kernel_rfl) (fun c24 => ?_) (fun c24 => ?_)
         ·
          try simp only [bs] at c24
          refine awp_seq (awp_region ?_)
          refine ko 1 [(0 < 1)] ⟨190, [(169, .agg (Zbt2 n s t es))], (Zbt0 n s t es f O N V)⟩ hT (by kernel_rfl) (by kernel_rfl) ⟨(by decide), trivial⟩ ?_
          refine aops_pure false ⟨true, [], 21, [.agg (Zbt2 n s t es)], []⟩ [.agg (Zbt2 n s t es)] (.tup [(false, [(Zbt10 n s t es)]), (false, [(Zbt7 n s t es)]), (false, [(.i (netErr n s t es))])]) ⟨190, [(169, .agg (Zbt2 n s t es)), (170, .tup [(false, [(Zbt10 n s t es)]), (false, [(Zbt7 n s t es)]), (false, [(.i (netErr n s t es))])])], (Zbt0 n s t es f O N V)⟩ (by kernel_rfl) (by kernel_rfl) (fun _ => trivial) rfl (fun _ => cut_least n s t es) ?_
          refine ko 7 [] ⟨190, [(26, .one (Zbt7 n s t es))], (Zbt0 n s t es f O N V)⟩ hT (by kernel_rfl) (by kernel_rfl) trivial ?_
          refine aops_end_seq (by kernel_rfl) ?_
          refine kq [] ⟨190, [(4, .one (Zbt7 n s t es)), (5, .i 0)], (Zbt0 n s t es f O N V)⟩ hT (by kernel_rfl) trivial ?_
          refine awp_ret ?_
          refine kRet.ret _ [9002, 9003, 9004] [] (.tup [(false, [(Zbt7 n s t es)]), (false, [(.i 0)])]) (Zbt0 n s t es f O N V) (by kernel_rfl) trivial ?_
          exact ⟨n, s, t, es, f, O, N, V, (okI (netErr n s t es) (parted n s t es).1), 0, (by rw [okI_ok _ hE]; exact .value (by omega)), (by kernel_rfl), (by kernel_rfl)⟩
         ·
          try simp only [bs] at c24
          refine kq [] ⟨190, [(6, .p 106), (42, .i k), (175, .one (.bool (decide (k = 10))))], [(Zbt1 n s t es f O N V), (Zbt8 n s t es), (9002, .recs (.stas O)), (9003, .flat (.strs N)), (9004, .recs (.stas V))]⟩ hT (by kernel_rfl) trivial ?_
          refine awp_cond (b := (decide (k = 10))) (by kernel_rfl) (fun c27 => ?_) (fun c27 => ?_)
          ·
           try simp only [bs] at c27
           refine awp_seq (awp_region ?_)
           refine ko 1 [(0 < 1)] ⟨190, [(178, .agg (Zbt2 n s t es))], (Zbt0 n s t es f O N V)⟩ hT (by kernel_rfl) (by kernel_rfl) ⟨(by decide), trivial⟩ ?_
           refine aops_pure false ⟨true, [], 21, [.agg (Zbt2 n s t es)], []⟩ [.agg (Zbt2 n s t es)] (.tup [(false, [(Zbt10 n s t es)]), (false, [(Zbt7 n s t es)]), (false, [(.i (netErr n s t es))])]) ⟨190, [(178, .agg (Zbt2 n s t es)), (179, .tup [(false, [(Zbt10 n s t es)]), (false, [(Zbt7 n s t es)]), (false, [(.i (netErr n s t es))])])], (Zbt0 n s t es f O N V)⟩ (by kernel_rfl) (by kernel_rfl) (fun _ => trivial) rfl (fun _ => cut_least n s t es) ?_
           refine ko 7 [] ⟨190, [(28, .one (Zbt10 n s t es))], (Zbt0 n s t es f O N V)⟩ hT (by kernel_rfl) (by kernel_rfl) trivial ?_
           refine aops_end_seq (by kernel_rfl) ?_
           refine kq [(-9223372036854775808 ≤ (okI (netErr n s t es) (parted n s t es).2.1) ∧ (okI (netErr n s t es) (parted n s t es).2.1) ≤ 9223372036854775807)] ⟨190, [(4, .i (okI (netErr n s t es) (parted n s t es).2.1)), (5, .i 0)], (Zbt0 n s t es f O N V)⟩ hT (by kernel_rfl) ⟨(by omega), trivial⟩ ?_
           refine awp_ret ?_
           refine kRet.ret _ [9002, 9003, 9004] [] (.tup [(false, [(.i (okI (netErr n s t es) (parted n s t es).2.1))]), (false, [(.i 0)])]) (Zbt0 n s t es f O N V) (by kernel_rfl) trivial ?_
           exact ⟨n, s, t, es, f, O, N, V, (okI (netErr n s t es) (parted n s t es).2.1), 0, (by rw [okI_ok _ hE]; exact .side (by omega)), (by kernel_rfl), (by kernel_rfl)⟩
          ·
           try simp only [bs] at c27
           refine kq [] ⟨190, [(6, .p 106), (185, .one (.bool (decide (k = 11))))], [(Zbt1 n s t es f O N V), (Zbt8 n s t es), (9002, .recs (.stas O)), (9003, .flat (.strs N)), (9004, .recs (.stas V))]⟩ hT (by kernel_rfl) trivial ?_
           refine awp_cond (b := (decide (k = 11))) (by kernel_rfl) (fun c30 => ?_) (fun c30 => ?_)
           ·
            try simp only [bs] at c30
            refine kq [(0 < 1)] ⟨190, [(4, .i ((es.length : Nat) : Int)), (5, .i 0)], (Zbt0 n s t es f O N V)⟩ hT (by kernel_rfl) ⟨(by decide), trivial⟩ ?_
            refine awp_ret ?_
            refine kRet.ret _ [9002, 9003, 9004] [] (.tup [(false, [(.i ((es.length : Nat) : Int))]), (false, [(.i 0)])]) (Zbt0 n s t es f O N V) (by kernel_rfl) trivial ?_
            exact ⟨n, s, t, es, f, O, N, V, ((es.length : Nat) : Int), 0, (by exact .arcs (by omega)), (by kernel_rfl), (by kernel_rfl)⟩
           ·
            try simp only [bs] at c30
            refine awp_skip ?_
            refine kq [] ⟨190, [(4, .i 0), (5, .i 1)], (Zbt0 n s t es f O N V)⟩ hT (by kernel_rfl) trivial ?_
            refine awp_ret ?_
            refine kRet.ret _ [9002, 9003, 9004] [] (.tup [(false, [(.i 0)]), (false, [(.i 1)])]) (Zbt0 n s t es f O N V) (by kernel_rfl) trivial ?_
            exact ⟨n, s, t, es, f, O, N, V, 0, 1, (by exact .none_ (by omega)), (by kernel_rfl), (by kernel_rfl)⟩
end Go.Ab
set_option maxRecDepth 100000
namespace Go.Ab
open Go Go.Proofs
abbrev Zbu0 (a0 : Int) (a1 : Int) (a2 : Int) (a3 : List Arc) (a4 : List Int) (a5 : List Sta) (a6 : List ByteArray) (a7 : List Sta) := ((1, .box 1 8 [(.i a0), (.i a1), (.i a2), (.ro (.arcs a3)), (.ro (.ints .i64 a4)), (.w 9002 a5.length), (.w 9003 a6.length), (.w 9004 a7.length)]) : Nat × Obj)
abbrev Zbu1 := ((102, .box 1 4 [(.i 0), (.i 0), (.i 0), .nils]) : Nat × Obj)
abbrev Zbu2 (a0 : Int) (a1 : Int) (a2 : Int) (a3 : List Arc) := ([(.i a0), (.i a1), (.i a2), (.ro (.arcs a3))] : List V1)
theorem store_net (n s t : Int) (es : List Arc) (f : List Int) (O : List Sta) (N : List ByteArray) (V : List Sta) (hl : es.length ≤ 60) : ACall Tryd.prog 7 [.p 1] [(Zbu0 n s t es f O N V), (9002, .recs (.stas O)), (9003, .flat (.strs N)), (9004, .recs (.stas V))] (fun ov oh => ov = .agg (Zbu2 n s t es) ∧ oh = [(Zbu0 n s t es f O N V), (9002, .recs (.stas O)), (9003, .flat (.strs N)), (9004, .recs (.stas V))]) := by
 refine acall_intro hT Tryd.func7 rfl (by kernel_rfl) rfl (by kernel_rfl) ?_
 refine kq [] ⟨14, [(0, .p 1), (2, .p 102)], [(Zbu0 n s t es f O N V), Zbu1, (9002, .recs (.stas O)), (9003, .flat (.strs N)), (9004, .recs (.stas V))]⟩ hT (by kernel_rfl) trivial ?_
 refine kq [(0 < 1), (0 < 1)] ⟨14, [(2, .p 102), (3, .p 103)], [(Zbu0 n s t es f O N V), Zbu1, (103, .box 1 4 (Zbu2 n s t es)), (9002, .recs (.stas O)), (9003, .flat (.strs N)), (9004, .recs (.stas V))]⟩ hT (by kernel_rfl) ⟨(by decide), (by decide), trivial⟩ ?_
 refine awp_seq (awp_region ?_)
 refine ko 2 [(0 < 1)] ⟨14, [(2, .p 102), (3, .p 103), (10, .one (.ro (.arcs es)))], [(Zbu0 n s t es f O N V), Zbu1, (103, .box 1 4 (Zbu2 n s t es)), (9002, .recs (.stas O)), (9003, .flat (.strs N)), (9004, .recs (.stas V))]⟩ hT (by kernel_rfl) (by kernel_rfl) ⟨(by decide), trivial⟩ ?_
 refine aops_call [] [(9001, 111)] false ⟨true, [], 11, [.one (.ro (.arcs es))], []⟩ [.one (.ro (.arcs es))] (sm := ⟨14, [(2, .p 102), (3, .p 103), (10, .one (.ro (.arcs es))), (11, .whn false (.one .any))], [(Zbu0 n s t es f O N V), Zbu1, (103, .box 1 4 (Zbu2 n s t es)), (9002, .recs (.stas O)), (9003, .flat (.strs N)), (9004, .recs (.stas V))]⟩) (by kernel_rfl) (by kernel_rfl) (by decide) (fun _ => trivial) rfl (fun _ => clone_arcs es (by first | omega | (simp; omega))) (fun _ v Hr hv => ?_) (fun h => by cases h)
 obtain ⟨rfl, rfl⟩ := hv
 refine ⟨⟨14, [(2, .p 102), (3, .p 103), (10, .one (.ro (.arcs es))), (11, .w 111 es.length)], [(Zbu0 n s t es f O N V), Zbu1, (103, .box 1 4 (Zbu2 n s t es)), (111, .fa es), (9002, .recs (.stas O)), (9003, .flat (.strs N)), (9004, .recs (.stas V))]⟩, by kernel_rfl, ?_⟩
 refine ko 2 [(0 < 1)] ⟨14, [(2, .p 102), (3, .p 103)], [(Zbu0 n s t es f O N V), Zbu1, (103, .box 1 4 [(.i n), (.i s), (.i t), (.w 111 es.length)]), (111, .fa es), (9002, .recs (.stas O)), (9003, .flat (.strs N)), (9004, .recs (.stas V))]⟩ hT (by kernel_rfl) (by kernel_rfl) ⟨(by decide), trivial⟩ ?_
 refine aops_end_seq (by kernel_rfl) ?_
 refine kq [(0 < 1), (0 < 1)] ⟨14, [(2, .p 102)], [(Zbu0 n s t es f O N V), (102, .box 1 4 [(.i n), (.i s), (.i t), (.w 111 es.length)]), (111, .fa es), (9002, .recs (.stas O)), (9003, .flat (.strs N)), (9004, .recs (.stas V))]⟩ hT (by kernel_rfl) ⟨(by decide), (by decide), trivial⟩ ?_
 refine awp_weak (awk_seal 111 (s' := ⟨14, [(2, .p 102)], [(Zbu0 n s t es f O N V), (102, .box 1 4 [(.i n), (.i s), (.i t), (.ro (.arcs (List.take es.length es)))]), (9002, .recs (.stas O)), (9003, .flat (.strs N)), (9004, .recs (.stas V))]⟩) (by kernel_rfl)) ?_
 rw [show (List.take es.length es) = es from List.take_of_length_le (by first | omega | simp)]
 refine awp_ret ?_
 refine kRet.ret _ [9002, 9003, 9004] [(0 < 1)] (.agg (Zbu2 n s t es)) [(Zbu0 n s t es f O N V), (9002, .recs (.stas O)), (9003, .flat (.strs N)), (9004, .recs (.stas V))] (by kernel_rfl) ⟨(by decide), trivial⟩ ?_
 exact ⟨(by kernel_rfl), (by kernel_rfl)⟩
end Go.Ab
set_option maxRecDepth 100000
namespace Go.Ab
open Go Go.Proofs
abbrev Zbx0 := ([(100, .box 1 6 [(.i 0), (.i 0), (.i 0), .nils, .nils, .any])] : List (Nat × Obj))
abbrev Zbx1 := ((1, .agg [(.i 2), (.i 0), (.i 1), .nils]) : Nat × AV)
abbrev Zbx2 := ([(.i 2), (.i 0), (.i 1), (.ro (.arcs [])), (.rs (.nets [])), (.dm [])] : List V1)
theorem ref_newStore  : ACall Tryd.prog 5 [] [] (fun ov oh => ov = .agg Zbx2 ∧ oh = []) := by
 refine acall_intro hT Tryd.func5 rfl (by kernel_rfl) rfl (by kernel_rfl) ?_
 refine kq [] ⟨4, [(0, .p 100)], Zbx0⟩ hT (by kernel_rfl) trivial ?_
 refine gwp_start ?_
 refine gwp_seq (gwp_region ?_)
 refine gops_run 1 [0, 1] [100] [] ⟨4, [(0, .p 100), Zbx1], Zbx0⟩ hT (by kernel_rfl) (by kernel_rfl) trivial ?_
 refine gops_newmap (d := 2) rfl rfl rfl rfl (by kernel_rfl) ?_
 intro mb
 refine gops_cut [0, 1, 2] [100] ⟨4, [(0, .p 100), Zbx1, (2, .one (.mapv mb))], Zbx0⟩ (by kernel_rfl) ?_
 refine gops_seal (d := 2) (by kernel_rfl) ?_
 refine gops_cut [0, 1, 2] [100] ⟨4, [(0, .p 100), Zbx1, (2, .one (.dm []))], Zbx0⟩ (by kernel_rfl) ?_
 refine gops_run 2 [0] [100] [(0 < 1)] ⟨4, [(0, .p 100)], [(100, .box 1 6 [(.i 2), (.i 0), (.i 1), .nils, .nils, (.dm [])])]⟩ hT (by kernel_rfl) (by kernel_rfl) ⟨(by decide), trivial⟩ ?_
 refine gops_end (by kernel_rfl) ?_
 refine gwp_lift ?_
 refine awp_weak (awk_boxcell 100 3 1 6 [(.i 2), (.i 0), (.i 1), .nils, .nils, (.dm [])] (.nils) ((.ro (.arcs []))) _ (by kernel_rfl) rfl (wkv_nil0 rfl)) ?_
 refine awp_weak (awk_boxcell 100 4 1 6 [(.i 2), (.i 0), (.i 1), (.ro (.arcs [])), .nils, (.dm [])] (.nils) ((.rs (.nets []))) _ (by kernel_rfl) rfl (wkv_nil1 rfl)) ?_
 refine awp_ret ?_
 refine kRet.ret _ [] [(0 < 1)] (.agg Zbx2) [] (by kernel_rfl) ⟨(by decide), trivial⟩ ?_
 exact ⟨rfl, rfl⟩
end Go.Ab
set_option maxRecDepth 100000
namespace Go.Ab
open Go Go.Proofs
abbrev Zby0 (a0 : ByteArray) := ((List.range 256).map fun i => (.bool (List.getD (ascSet (bts a0)) i false)) : List V1)
abbrev Zby1 := ([(102, .flat (.bools (List.replicate 256 false)))] : List (Nat × Obj))
abbrev Zby3 (a0) := ((4, .i (a0 : Int)) : Nat × AV)
abbrev Zby2 (a0 : ByteArray) (a1) := ([(0, .one (.str a0)), (2, .p 102), (Zby3 a1), (9, .one (.bool (decide ((a1 : Int) < (((ByteArray.size a0) : Nat) : Int)))))] : List (Nat × AV))
theorem ascii_contains (L : List Bool) (c : Int) (hL : L.length = 256) (h0 : 0 ≤ c) (h1 : c ≤ 255) : ACall Tryd.prog 64 [.p 1, .one (.int .u8 c)] [(1, .flat (.bools L))] (fun ov oh => ov = .one (.bool (List.getD L c.toNat false)) ∧ oh = [(1, .flat (.bools L))]) := by
 refine acall_intro hT Tryd.func64 rfl (by kernel_rfl) rfl (by kernel_rfl) ?_
 refine kq [] ⟨10, [(0, .p 1), (1, .one (.int .u8 c))], [(1, .flat (.bools L))]⟩ hT (by kernel_rfl) trivial ?_
 refine kq [((0 : Int) ≤ c), (c < 256), ((Int.toNat c) < L.length)] ⟨10, [(4, .one (.bool (List.getD L (Int.toNat c) false)))], [(1, .flat (.bools L))]⟩ hT (by kernel_rfl) ⟨(by omega), (by omega), (by omega), trivial⟩ ?_
 refine awp_ret ?_
 refine kRet.ret _ [] [] (.one (.bool (List.getD L (Int.toNat c) false))) [(1, .flat (.bools L))] (by kernel_rfl) trivial ?_
 exact ⟨(by kernel_rfl), (by kernel_rfl)⟩
theorem makeASCII (w : ByteArray) (hw : w.size ≤ 100) (ha : ∀ j, j < w.size → 0 ≤ (bts w).getD j 0 ∧ (bts w).getD j 0 < 128) : ACall Tryd.prog 53 [.one (.str w)] [] (fun ov oh => ov = .tup [(true, (Zby0 w)), (false, [(.bool true)])] ∧ oh = []) := by
 refine acall_intro hT Tryd.func53 rfl (by kernel_rfl) rfl (by kernel_rfl) ?_
 have hbl := bts_length w
 refine kq [] ⟨21, [(0, .one (.str w)), (2, .p 102)], Zby1⟩ hT (by kernel_rfl) trivial ?_
 refine awp_seq ?_
 refine kq [] ⟨21, [(0, .one (.str w)), (2, .p 102), (4, .i 0)], Zby1⟩ hT (by kernel_rfl) trivial ?_
 refine awp_block ?_
 refine awp_loop (I := fun κ σ => ∃ (k : Nat) (L : List Bool), ((k ≤ w.size) ∧ (L = ascSet ((bts w).take k)) ∧ (L.length = 256) ∧ w.size - k = κ) ∧ σ = ⟨21, [(0, .one (.str w)), (2, .p 102), (Zby3 k)], [(102, .flat (.bools L))]⟩) _ ⟨0, (List.replicate 256 false), ⟨(by omega), (by rfl), (by exact List.length_replicate), rfl⟩, (by kernel_rfl)⟩ ?_
 rintro κ _ ⟨k, L, ⟨hk, hL, hLl, rfl⟩, rfl⟩
 refine awp_seq ?_
 refine kq [] ⟨21, (Zby2 w k), [(102, .flat (.bools L))]⟩ hT (by kernel_rfl) trivial ?_
 refine awp_cond (b := (decide ((k : Int) < (((ByteArray.size w) : Nat) : Int)))) (by kernel_rfl) (fun c2 => ?_) (fun c2 => ?_)
 ·
  try simp only [bs] at c2
  have hak := ha k (by omega)
  refine awp_skip ?_
  refine awp_seq ?_
  refine awp_block ?_
  refine kq [((0 : Int) ≤ (k : Int)), ((k : Int) < (((ByteArray.size w) : Nat) : Int))] ⟨21, [(0, .one (.str w)), (2, .p 102), (Zby3 k), (5, .one (.int .u8 (List.getD (bts w) k 0)))], [(102, .flat (.bools L))]⟩ hT (by kernel_rfl) ⟨(by omega), (by omega), trivial⟩ ?_
  refine awp_seq ?_
  refine kq [] ⟨21, [(0, .one (.str w)), (2, .p 102), (Zby3 k), (5, .one (.int .u8 (List.getD (bts w) k 0))), (16, .one (.bool (decide ((128 : Int) ≤ (List.getD (bts w) k 0)))))], [(102, .flat (.bools L))]⟩ hT (by kernel_rfl) trivial ?_
  refine awp_cond (b := (decide ((128 : Int) ≤ (List.getD (bts w) k 0)))) (by kernel_rfl) (fun c5 => ?_) (fun c5 => ?_)
  ·
   try simp only [bs] at c5
   exfalso; omega
  ·
   try simp only [bs] at c5
   refine awp_skip ?_
   refine kr [((0 : Int) ≤ (List.getD (bts w) k 0)), ((List.getD (bts w) k 0) < 256), ((Int.toNat (List.getD (bts w) k 0)) < L.length)] ⟨21, [(0, .one (.str w)), (2, .p 102), (Zby3 k)], [(102, .flat (.bools (List.set L (Int.toNat (List.getD (bts w) k 0)) true)))]⟩ hT (by kernel_rfl) ⟨(by omega), (by omega), (by omega), trivial⟩ ?_
   refine kr [(-9223372036854775808 ≤ (((k + 1) : Nat) : Int) ∧ (((k + 1) : Nat) : Int) ≤ 9223372036854775807)] ⟨21, [(0, .one (.str w)), (2, .p 102), (4, .i (((k + 1) : Nat) : Int))], [(102, .flat (.bools (List.set L (Int.toNat (List.getD (bts w) k 0)) true)))]⟩ hT (by kernel_rfl) ⟨(by omega), trivial⟩ ?_
   refine loop_end _ ?_ ⟨(k + 1), (List.set L (Int.toNat (List.getD (bts w) k 0)) true), ⟨(by omega), (by rw [ascSet_snoc (by omega), ← hL]), (by rw [List.length_set]; exact hLl), rfl⟩, (by kernel_rfl)⟩
   omega
 ·
  try simp only [bs] at c2
  have hLe : L = ascSet (bts w) := by rw [hL, List.take_of_length_le (by omega)]
  refine awp_exit ?_
  rw [show L = (ascSet (bts w)) from hLe]
  refine awp_weak (awk_shape 102 2 (.flat (.bools (ascSet (bts w)))) (.box 1 256 (Zby0 w)) _ (by kernel_rfl) (by kernel_rfl) (by decide) (fun h => absurd (show (List.length (ascSet (bts w))) = 0 from h) (by rw [(ascSet_length (bts w))]; decide)) (show 1 * 256 = (List.length (ascSet (bts w))) * 1 from by rw [(ascSet_length (bts w))]) (shape_one (ascSet_length (bts w)) (by kernel_rfl))) ?_
  refine kv ⟨21, (Zby2 w k), [(102, .box 1 256 (Zby0 w))]⟩ (by kernel_rfl) ?_
  refine kq [(0 < 1), (0 < 1)] ⟨21, [(2, .p 102), (3, .one (.bool true))], [(102, .box 1 256 (Zby0 w))]⟩ hT (by kernel_rfl) ⟨(by decide), (by decide), trivial⟩ ?_
  refine awp_ret ?_
  refine kRet.ret _ [] [(0 < 1)] (.tup [(true, (Zby0 w)), (false, [(.bool true)])]) [] (by kernel_rfl) ⟨(by decide), trivial⟩ ?_
  exact ⟨rfl, rfl⟩
end Go.Ab
set_option maxRecDepth 100000
namespace Go.Ab
open Go Go.Proofs
abbrev Zbz0 (a0 : ByteArray) := ((.int .u8 (List.getD (bts a0) (Int.toNat ((((ByteArray.size a0) : Nat) : Int) - 1)) 0)) : V1)
abbrev Zbz1 (a0 : ByteArray) := ([(0, .one (.str a0)), (1, .p 1), (7, .one (.bool (decide ((0 : Int) < (((ByteArray.size a0) : Nat) : Int)))))] : List (Nat × AV))
abbrev Zbz2 (a0 : ByteArray) := ([(0, .one (.str a0)), (1, .p 1)] : List (Nat × AV))
abbrev Zbz3 (a0 : ByteArray) := ((.int .u8 (List.getD (bts a0) 0 0)) : V1)
theorem trim_left (w : ByteArray) (A : List Bool) (hA : A.length = 256) : ACall Tryd.prog 54 [.one (.str w), .p 1] [(1, .flat (.bools A))] (fun ov oh => ∃ (u : ByteArray), (bts u = (bts w).dropWhile (inS A)) ∧ ov = .one (.str u) ∧ oh = [(1, .flat (.bools A))]) := by
 refine acall_intro hT Tryd.func54 rfl (by kernel_rfl) rfl (by kernel_rfl) ?_
 refine kq [] ⟨16, (Zbz2 w), [(1, .flat (.bools A))]⟩ hT (by kernel_rfl) trivial ?_
 refine awp_seq ?_
 refine awp_block ?_
 refine awp_loop (I := fun κ σ => ∃ (z : ByteArray), (((bts z).dropWhile (inS A) = (bts w).dropWhile (inS A)) ∧ z.size = κ) ∧ σ = ⟨16, (Zbz2 z), [(1, .flat (.bools A))]⟩) _ ⟨w, ⟨(by rfl), rfl⟩, (by kernel_rfl)⟩ ?_
 rintro κ _ ⟨z, ⟨hz, rfl⟩, rfl⟩
 have hvl := bts_length z
 have hv0 := bts_rng z 0
 refine awp_seq ?_
 refine kq [] ⟨16, (Zbz1 z), [(1, .flat (.bools A))]⟩ hT (by kernel_rfl) trivial ?_
 refine awp_cond (b := (decide ((0 : Int) < (((ByteArray.size z) : Nat) : Int)))) (by kernel_rfl) (fun c1 => ?_) (fun c1 => ?_)
 ·
  try simp only [bs] at c1
  refine awp_skip ?_
  refine awp_block ?_
  refine awp_seq ?_
  refine awp_seq (awp_region ?_)
  refine ko 3 [((0 : Int) ≤ (0 : Int)), ((0 : Int) < (((ByteArray.size z) : Nat) : Int))] ⟨16, [(0, .one (.str z)), (1, .p 1), (8, .p 1), (10, .one (Zbz3 z))], [(1, .flat (.bools A))]⟩ hT (by kernel_rfl) (by kernel_rfl) ⟨(by omega), (by omega), trivial⟩ ?_
  refine aops_call [(1, 1)] [] false ⟨true, [], 64, [.p 1, .one (Zbz3 z)], [(1, .flat (.bools A))]⟩ [.p 1, .one (Zbz3 z)] (sm := ⟨16, [(0, .one (.str z)), (1, .p 1), (8, .p 1), (10, .one (Zbz3 z)), (11, .whn false (.one .any))], [(1, .flat (.bools A))]⟩) (by kernel_rfl) (by kernel_rfl) (by decide) (fun _ => trivial) rfl (fun _ => ascii_contains A (List.getD (bts z) 0 0) (by assumption) (by omega) (by omega)) (fun _ v Hr hv => ?_) (fun h => by cases h)
  obtain ⟨rfl, rfl⟩ := hv
  refine ⟨⟨16, [(0, .one (.str z)), (1, .p 1), (8, .p 1), (10, .one (Zbz3 z)), (11, .one (.bool (List.getD A (Int.toNat (List.getD (bts z) 0 0)) false)))], [(1, .flat (.bools A))]⟩, by kernel_rfl, ?_⟩
  refine ko 1 [] ⟨16, [(0, .one (.str z)), (1, .p 1), (12, .one (.bool (!(List.getD A (Int.toNat (List.getD (bts z) 0 0)) false))))], [(1, .flat (.bools A))]⟩ hT (by kernel_rfl) (by kernel_rfl) trivial ?_
  refine aops_end_seq (by kernel_rfl) ?_
  refine awp_cond (b := (!(List.getD A (Int.toNat (List.getD (bts z) 0 0)) false))) (by kernel_rfl) (fun c2 => ?_) (fun c2 => ?_)
  ·
   try simp only [bs] at c2
   have hfin : bts z = (bts w).dropWhile (inS A) := by rw [← hz]; exact (left_no (by omega) (by simpa [inS] using c2)).symm
   refine awp_exit ?_
   refine kq [] ⟨16, [(4, .one (.str z))], [(1, .flat (.bools A))]⟩ hT (by kernel_rfl) trivial ?_
   refine awp_ret ?_
   refine kRet.ret _ [] [] (.one (.str z)) [(1, .flat (.bools A))] (by kernel_rfl) trivial ?_
   exact ⟨z, (by exact hfin), (by kernel_rfl), (by kernel_rfl)⟩
  ·
   try simp only [bs] at c2
   have hvn : (bts (ByteArray.extract z 1 (ByteArray.size z))).dropWhile (inS A) = (bts w).dropWhile (inS A) := by rw [bts_extract, ← bts_length, List.take_length, left_yes (by omega) (by simpa [inS] using c2)]; exact hz
   have hsz : (ByteArray.extract z 1 (ByteArray.size z)).size = z.size - 1 := by rw [ByteArray.size_extract]; omega
   refine awp_skip ?_
   refine kr [((0 : Int) ≤ 1), ((1 : Int) ≤ (((ByteArray.size z) : Nat) : Int)), ((((ByteArray.size z) : Nat) : Int) ≤ (((ByteArray.size z) : Nat) : Int))] ⟨16, [(0, .one (.str (ByteArray.extract z 1 (ByteArray.size z)))), (1, .p 1)], [(1, .flat (.bools A))]⟩ hT (by kernel_rfl) ⟨(by omega), (by omega), (by omega), trivial⟩ ?_
   refine loop_end _ ?_ ⟨(ByteArray.extract z 1 (ByteArray.size z)), ⟨(by exact hvn), rfl⟩, (by kernel_rfl)⟩
   omega
 ·
  try simp only [bs] at c1
  have hfin : bts z = (bts w).dropWhile (inS A) := by rw [← hz, show bts z = [] from bts_nil.2 (by omega)]; rfl
  refine awp_exit ?_
  refine kq [] ⟨16, [(4, .one (.str z))], [(1, .flat (.bools A))]⟩ hT (by kernel_rfl) trivial ?_
  refine awp_ret ?_
  refine kRet.ret _ [] [] (.one (.str z)) [(1, .flat (.bools A))] (by kernel_rfl) trivial ?_
  exact ⟨z, (by exact hfin), (by kernel_rfl), (by kernel_rfl)⟩
theorem trim_right (w : ByteArray) (A : List Bool) (hA : A.length = 256) (hw : w.size ≤ 100) : ACall Tryd.prog 55 [.one (.str w), .p 1] [(1, .flat (.bools A))] (fun ov oh => ∃ (u : ByteArray), ((bts u).reverse = (bts w).reverse.dropWhile (inS A)) ∧ ov = .one (.str u) ∧ oh = [(1, .flat (.bools A))]) := by
 refine acall_intro hT Tryd.func55 rfl (by kernel_rfl) rfl (by kernel_rfl) ?_
 refine kq [] ⟨22, (Zbz2 w), [(1, .flat (.bools A))]⟩ hT (by kernel_rfl) trivial ?_
 refine awp_seq ?_
 refine awp_block ?_
 refine awp_loop (I := fun κ σ => ∃ (z : ByteArray), (((bts z).reverse.dropWhile (inS A) = (bts w).reverse.dropWhile (inS A)) ∧ (z.size ≤ 100) ∧ z.size = κ) ∧ σ = ⟨22, (Zbz2 z), [(1, .flat (.bools A))]⟩) _ ⟨w, ⟨(by rfl), (by omega), rfl⟩, (by kernel_rfl)⟩ ?_
 rintro κ _ ⟨z, ⟨hz, hzw, rfl⟩, rfl⟩
 have hvl := bts_length z
 have hzt : (((z.size : Nat) : Int) - 1).toNat = z.size - 1 := by omega
 have hv0 := bts_rng z (((z.size : Nat) : Int) - 1).toNat
 refine awp_seq ?_
 refine kq [] ⟨22, (Zbz1 z), [(1, .flat (.bools A))]⟩ hT (by kernel_rfl) trivial ?_
 refine awp_cond (b := (decide ((0 : Int) < (((ByteArray.size z) : Nat) : Int)))) (by kernel_rfl) (fun c1 => ?_) (fun c1 => ?_)
 ·
  try simp only [bs] at c1
  refine awp_skip ?_
  refine awp_block ?_
  refine awp_seq ?_
  refine awp_seq (awp_region ?_)
  refine ko 6 [(-9223372036854775808 ≤ ((((ByteArray.size z) : Nat) : Int) - 1) ∧ ((((ByteArray.size z) : Nat) : Int) - 1) ≤ 9223372036854775807), ((0 : Int) ≤ ((((ByteArray.size z) : Nat) : Int) - 1)), (((((ByteArray.size z) : Nat) : Int) - 1) < (((ByteArray.size z) : Nat) : Int))] ⟨22, [(0, .one (.str z)), (1, .p 1), (8, .p 1), (13, .one (Zbz0 z))], [(1, .flat (.bools A))]⟩ hT (by kernel_rfl) (by kernel_rfl) ⟨(by omega), (by omega), (by omega), trivial⟩ ?_
  refine aops_call [(1, 1)] [] false ⟨true, [], 64, [.p 1, .one (Zbz0 z)], [(1, .flat (.bools A))]⟩ [.p 1, .one (Zbz0 z)] (sm := ⟨22, [(0, .one (.str z)), (1, .p 1), (8, .p 1), (13, .one (Zbz0 z)), (14, .whn false (.one .any))], [(1, .flat (.bools A))]⟩) (by kernel_rfl) (by kernel_rfl) (by decide) (fun _ => trivial) rfl (fun _ => ascii_contains A (List.getD (bts z) (Int.toNat ((((ByteArray.size z) : Nat) : Int) - 1)) 0) (by assumption) (by omega) (by omega)) (fun _ v Hr hv => ?_) (fun h => by cases h)
  obtain ⟨rfl, rfl⟩ := hv
  refine ⟨⟨22, [(0, .one (.str z)), (1, .p 1), (8, .p 1), (13, .one (Zbz0 z)), (14, .one (.bool (List.getD A (Int.toNat (List.getD (bts z) (Int.toNat ((((ByteArray.size z) : Nat) : Int) - 1)) 0)) false)))], [(1, .flat (.bools A))]⟩, by kernel_rfl, ?_⟩
  refine ko 1 [] ⟨22, [(0, .one (.str z)), (1, .p 1), (15, .one (.bool (!(List.getD A (Int.toNat (List.getD (bts z) (Int.toNat ((((ByteArray.size z) : Nat) : Int) - 1)) 0)) false))))], [(1, .flat (.bools A))]⟩ hT (by kernel_rfl) (by kernel_rfl) trivial ?_
  refine aops_end_seq (by kernel_rfl) ?_
  refine awp_cond (b := (!(List.getD A (Int.toNat (List.getD (bts z) (Int.toNat ((((ByteArray.size z) : Nat) : Int) - 1)) 0)) false))) (by kernel_rfl) (fun c2 => ?_) (fun c2 => ?_)
  ·
   try simp only [bs] at c2
   rw [hzt] at c2
   have hfin : (bts z).reverse = (bts w).reverse.dropWhile (inS A) := by rw [← hz]; exact (right_no (by omega) (by rw [hvl]; simpa [inS] using c2)).symm
   refine awp_exit ?_
   refine kq [] ⟨22, [(4, .one (.str z))], [(1, .flat (.bools A))]⟩ hT (by kernel_rfl) trivial ?_
   refine awp_ret ?_
   refine kRet.ret _ [] [] (.one (.str z)) [(1, .flat (.bools A))] (by kernel_rfl) trivial ?_
   exact ⟨z, (by exact hfin), (by kernel_rfl), (by kernel_rfl)⟩
  ·
   try simp only [bs] at c2
   rw [hzt] at c2
   have hvn : (bts (ByteArray.extract z 0 (ByteArray.size z - 1))).reverse.dropWhile (inS A) = (bts w).reverse.dropWhile (inS A) := by rw [bts_extract, List.drop_zero, ← hvl, right_yes (by omega) (by rw [hvl]; simpa [inS] using c2)]; exact hz
   have hsz : (ByteArray.extract z 0 (ByteArray.size z - 1)).size = z.size - 1 := by rw [ByteArray.size_extract]; omega
   refine awp_skip ?_
   refine kr [(-9223372036854775808 ≤ ((((ByteArray.size z) : Nat) : Int) - 1) ∧ ((((ByteArray.size z) : Nat) : Int) - 1) ≤ 9223372036854775807), ((0 : Int) ≤ 0), ((0 : Int) ≤ ((((ByteArray.size z) : Nat) : Int) - 1)), (((((ByteArray.size z) : Nat) : Int) - 1) ≤ (((ByteArray.size z) : Nat) : Int))] ⟨22, [(0, .one (.str (ByteArray.extract z 0 (Int.toNat ((((ByteArray.size z) : Nat) : Int) - 1))))), (1, .p 1)], [(1, .flat (.bools A))]⟩ hT (by kernel_rfl) ⟨(by omega), (by omega), (by omega), (by omega), trivial⟩ ?_
   refine loop_end _ ?_ ⟨(ByteArray.extract z 0 (Int.toNat ((((ByteArray.size z) : Nat) : Int) - 1))), ⟨(by rw [hzt]; exact hvn), (by rw [hzt]; omega), rfl⟩, (by kernel_rfl)⟩
   rw [hzt]; omega
 ·
  try simp only [bs] at c1
  have hfin : (bts z).reverse = (bts w).reverse.dropWhile (inS A) := by rw [← hz, show bts z = [] from bts_nil.2 (by omega)]; rfl
  refine awp_exit ?_
  refine kq [] ⟨22, [(4, .one (.str z))], [(1, .flat (.bools A))]⟩ hT (by kernel_rfl) trivial ?_
  refine awp_ret ?_
  refine kRet.ret _ [] [] (.one (.str z)) [(1, .flat (.bools A))] (by kernel_rfl) trivial ?_
  exact ⟨z, (by exact hfin), (by kernel_rfl), (by kernel_rfl)⟩
end Go.Ab
set_option maxRecDepth 100000
namespace Go.Ab
open Go Go.Proofs
abbrev ZbAG (g : Bool) : Prop := g = true → g = true
abbrev ZbAT (g : Bool) : Prop := g = true → (g = true → g = true)
abbrev ZbAb0 := ((decide ((((ByteArray.size lettersW) : Nat) : Int) = 1)) : Bool)
abbrev ZbA0 := ((List.range 256).map fun i => (.bool (List.getD (ascSet (bts lettersW)) i false)) : List V1)
abbrev ZbA1 := (List.replicate 256 (.bool false) : List V1)
abbrev ZbA2 := ([(105, .flat (.bools (ascSet (bts lettersW))))] : List (Nat × Obj))
abbrev ZbA3 (a0 : ByteArray) := ([(0, .one (.str a0)), (1, .one (.str lettersW)), (5, .p 105), (32, .agg ZbA0), (33, .one (.bool true))] : List (Nat × AV))
theorem trim_all (w : ByteArray) (h1 : 1 ≤ w.size) (h8 : w.size ≤ 8) : ACall Tryd.prog 40 [.one (.str w), .one (.str lettersW)] [] (fun ov oh => ov = .one (.str (trimF w)) ∧ oh = []) := by
 refine acall_intro hT Tryd.func40 rfl (by kernel_rfl) rfl (by kernel_rfl) ?_
 refine kq [] ⟨43, [(0, .one (.str w)), (1, .one (.str lettersW))], []⟩ hT (by kernel_rfl) trivial ?_
 refine awp_seq ?_
 refine kq [(ZbAT (!(w == (⟨#[]⟩ : ByteArray)))), (ZbAG (!(w == (⟨#[]⟩ : ByteArray))))] ⟨43, [(0, .one (.str w)), (1, .one (.str lettersW)), (12, .one (.bool ((w == (⟨#[]⟩ : ByteArray)) || (lettersW == (⟨#[]⟩ : ByteArray)))))], []⟩ hT (by kernel_rfl) ⟨(fun _ h => h), id, trivial⟩ ?_
 refine awp_cond (b := ((w == (⟨#[]⟩ : ByteArray)) || (lettersW == (⟨#[]⟩ : ByteArray)))) (by kernel_rfl) (fun c1 => ?_) (fun c1 => ?_)
 ·
  try simp only [bs] at c1
  exfalso; exact trim_none h1 c1
 ·
  try simp only [bs] at c1
  refine awp_skip ?_
  refine awp_seq ?_
  refine kq [(ZbAT ZbAb0), (ZbAb0 = true → ((0 : Int) ≤ (0 : Int))), (ZbAb0 = true → ((0 : Int) < (((ByteArray.size lettersW) : Nat) : Int))), (ZbAT ZbAb0), (ZbAG ZbAb0)] ⟨43, [(0, .one (.str w)), (1, .one (.str lettersW)), (21, .one (.bool ((decide ((((ByteArray.size lettersW) : Nat) : Int) = 1)) && (decide ((List.getD (bts lettersW) 0 0) < 128)))))], []⟩ hT (by kernel_rfl) ⟨(fun _ h => h), (by intro hg; simp only [bs, ZbAb0] at hg; omega), (by intro hg; simp only [bs, ZbAb0] at hg; omega), (fun _ h => h), id, trivial⟩ ?_
  refine awp_cond (b := ((decide ((((ByteArray.size lettersW) : Nat) : Int) = 1)) && (decide ((List.getD (bts lettersW) 0 0) < 128)))) (by kernel_rfl) (fun c3 => ?_) (fun c3 => ?_)
  ·
   try simp only [bs] at c3
   exfalso; exact absurd c3 (by decide)
  ·
   try simp only [bs] at c3
   refine awp_skip ?_
   refine awp_seq ?_
   refine awp_seq (awp_region ?_)
   refine ko 1 [] ⟨43, [(0, .one (.str w)), (1, .one (.str lettersW)), (30, .one (.str lettersW))], []⟩ hT (by kernel_rfl) (by kernel_rfl) trivial ?_
   refine aops_pure false ⟨true, [], 53, [.one (.str lettersW)], []⟩ [.one (.str lettersW)] (.tup [(true, ZbA0), (false, [(.bool true)])]) ⟨43, [(0, .one (.str w)), (1, .one (.str lettersW)), (30, .one (.str lettersW)), (31, .tup [(true, ZbA0), (false, [(.bool true)])])], []⟩ (by kernel_rfl) (by kernel_rfl) (fun _ => trivial) rfl (fun _ => makeASCII lettersW (by decide) letters_ok) ?_
   refine ko 4 [] ⟨43, (ZbA3 w), [(105, .flat (.bools [false, false, false, false, false, false, false, false, false, false, false, false, false, false, false, false, false, false, false, false, false, false, false, false, false, false, false, false, false, false, false, false, false, false, false, false, false, false, false, false, false, false, false, false, false, false, false, false, false, false, false, false, false, false, false, false, false, false, false, false, false, false, false, false, false, false, false, false, false, false, false, false, false, false, false, false, false, false, false, false, false, false, false, false, false, false, false, false, false, false, false, false, false, false, false, false, false, false, false, false, false, false, false, false, false, false, false, false, false, false, false, false, false, false, false, false, false, false, false, false, false, false, false, false, false, false, false, false, false, false, false, false, false, false, false, false, false, false, false, false, false, false, false, false, false, false, false, false, false, false, false, false, false, false, false, false, false, false, false, false, false, false, false, false, false, false, false, false, false, false, false, false, false, false, false, false, false, false, false, false, false, false, false, false, false, false, false, false, false, false, false, false, false, false, false, false, false, false, false, false, false, false, false, false, false, false, false, false, false, false, false, false, false, false, false, false, false, false, false, false, false, false, false, false, false, false, false, false, false, false, false, false, false, false, false, false, false, false, false, false, false, false, false, false, false, false, false, false, false, false, false, false, false, false, false, false]))]⟩ hT (by kernel_rfl) (by kernel_rfl) trivial ?_
   refine aops_weak (awk_shape 105 5 (.flat (.bools [false, false, false, false, false, false, false, false, false, false, false, false, false, false, false, false, false, false, false, false, false, false, false, false, false, false, false, false, false, false, false, false, false, false, false, false, false, false, false, false, false, false, false, false, false, false, false, false, false, false, false, false, false, false, false, false, false, false, false, false, false, false, false, false, false, false, false, false, false, false, false, false, false, false, false, false, false, false, false, false, false, false, false, false, false, false, false, false, false, false, false, false, false, false, false, false, false, false, false, false, false, false, false, false, false, false, false, false, false, false, false, false, false, false, false, false, false, false, false, false, false, false, false, false, false, false, false, false, false, false, false, false, false, false, false, false, false, false, false, false, false, false, false, false, false, false, false, false, false, false, false, false, false, false, false, false, false, false, false, false, false, false, false, false, false, false, false, false, false, false, false, false, false, false, false, false, false, false, false, false, false, false, false, false, false, false, false, false, false, false, false, false, false, false, false, false, false, false, false, false, false, false, false, false, false, false, false, false, false, false, false, false, false, false, false, false, false, false, false, false, false, false, false, false, false, false, false, false, false, false, false, false, false, false, false, false, false, false, false, false, false, false, false, false, false, false, false, false, false, false, false, false, false, false, false, false])) (.box 1 256 ZbA1) _ (by kernel_rfl) (by kernel_rfl) (by decide) (fun h => absurd (show (256 : Nat) = 0 from h) (by decide)) rfl (shape_one (by kernel_rfl) (by kernel_rfl))) ?_
   refine ku ⟨43, (ZbA3 w), [(105, .box 1 256 ZbA1)]⟩ (by kernel_rfl) ?_
   refine ko 2 [(0 < 1)] ⟨43, [(0, .one (.str w)), (1, .one (.str lettersW)), (5, .p 105), (6, .one (.bool true))], [(105, .box 1 256 ZbA0)]⟩ hT (by kernel_rfl) (by kernel_rfl) ⟨(by decide), trivial⟩ ?_
   refine aops_end_seq (by kernel_rfl) ?_
   refine kq [] ⟨43, [(0, .one (.str w)), (1, .one (.str lettersW)), (5, .p 105), (34, .one (.bool true))], [(105, .box 1 256 ZbA0)]⟩ hT (by kernel_rfl) trivial ?_
   refine awp_cond (b := true) (by kernel_rfl) (fun _ => ?_) (fun h => by cases h)
   refine awp_weak (awk_shape 105 5 (.box 1 256 ZbA0) (.flat (.bools (ascSet (bts lettersW)))) _ (by kernel_rfl) (by kernel_rfl) (by decide) (fun h => absurd (show (1 : Nat) = 0 from h) (by decide)) (show (List.length (ascSet (bts lettersW))) * 1 = 1 * 256 from by rw [(ascSet_length (bts lettersW))]) (shape_many (ascSet_length (bts lettersW)) (by kernel_rfl))) ?_
   refine kv ⟨43, [(0, .one (.str w)), (1, .one (.str lettersW)), (5, .p 105), (34, .one (.bool true))], ZbA2⟩ (by kernel_rfl) ?_
   refine awp_seq (awp_region ?_)
   refine ko 1 [] ⟨43, [(5, .p 105), (35, .one (.str w))], ZbA2⟩ hT (by kernel_rfl) (by kernel_rfl) trivial ?_
   refine aops_call [(1, 105)] [] false ⟨true, [], 55, [.one (.str w), .p 1], [(1, .flat (.bools (ascSet (bts lettersW))))]⟩ [.one (.str w), .p 1] (sm := ⟨43, [(5, .p 105), (35, .one (.str w)), (36, .whn false (.one .any))], ZbA2⟩) (by kernel_rfl) (by kernel_rfl) (by decide) (fun _ => trivial) rfl (fun _ => trim_right w (ascSet (bts lettersW)) (ascSet_length _) (by omega)) (fun _ v Hr hv => ?_) (fun h => by cases h)
   obtain ⟨ur, hur, rfl, rfl⟩ := hv
   refine ⟨⟨43, [(5, .p 105), (35, .one (.str w)), (36, .one (.str ur))], ZbA2⟩, by kernel_rfl, ?_⟩
   refine aops_call [(1, 105)] [] false ⟨true, [], 54, [.one (.str ur), .p 1], [(1, .flat (.bools (ascSet (bts lettersW))))]⟩ [.one (.str ur), .p 1] (sm := ⟨43, [(5, .p 105), (35, .one (.str w)), (36, .one (.str ur)), (37, .whn false (.one .any))], ZbA2⟩) (by kernel_rfl) (by kernel_rfl) (by decide) (fun _ => trivial) rfl (fun _ => trim_left ur (ascSet (bts lettersW)) (ascSet_length _)) (fun _ v Hr hv => ?_) (fun h => by cases h)
   obtain ⟨ul, hul, rfl, rfl⟩ := hv
   refine ⟨⟨43, [(5, .p 105), (35, .one (.str w)), (36, .one (.str ur)), (37, .one (.str ul))], ZbA2⟩, by kernel_rfl, ?_⟩
   refine ko 1 [] ⟨43, [(4, .one (.str ul))], []⟩ hT (by kernel_rfl) (by kernel_rfl) trivial ?_
   refine aops_end_seq (by kernel_rfl) ?_
   refine awp_ret ?_
   refine kRet.ret _ [] [] (.one (.str ul)) [] (by kernel_rfl) trivial ?_
   exact ⟨congrArg (fun x1 => (.one (.str x1) : AV)) (show ul = (trimF w) from by exact trimF_is hur hul), rfl⟩
end Go.Ab
set_option maxRecDepth 100000
namespace Go.Ab
open Go Go.Proofs
theorem clone_nets (O : List Sta) (h : O.length ≤ 1000) : ACall Tryd.prog 43 [.one (.rs (.nets O))] [] (fun ov oh => ov = .w 9001 O.length ∧ oh = [(9001, .recs (.nets O))]) := by
 refine acall_intro hT Tryd.func43 rfl (by kernel_rfl) rfl (by kernel_rfl) ?_
 refine kq [] ⟨8, [(0, .one (.rs (.nets O)))], []⟩ hT (by kernel_rfl) trivial ?_
 refine awp_seq ?_
 refine awp_seq (awp_region ?_)
 refine ko 1 [] ⟨8, [(0, .one (.rs (.nets O))), (3, .one (.rs (.nets O)))], []⟩ hT (by kernel_rfl) (by kernel_rfl) trivial ?_
 refine aops_isnil (v := (.rs (.nets O))) false hT rfl rfl rfl rfl (by kernel_rfl) (show T 28 = some _ from rfl) rfl (by kernel_rfl) rfl ?_
 intro nb1 hnb1
 replace hnb1 : nb1 = true → O.length = 0 := hnb1
 refine ku ⟨8, [(0, .one (.rs (.nets O))), (3, .one (.rs (.nets O))), (4, .one (.bool nb1))], []⟩ (by kernel_rfl) ?_
 refine ku ⟨8, [(0, .one (.rs (.nets O))), (4, .one (.bool nb1))], []⟩ (by kernel_rfl) ?_
 refine aops_end_seq (by kernel_rfl) ?_
 refine awp_cond (b := nb1) (by kernel_rfl) (fun c1 => ?_) (fun c1 => ?_)
 ·
  refine kq [] ⟨8, [(2, .one .nils)], []⟩ hT (by kernel_rfl) trivial ?_
  refine awp_weak (awk_empty 5002 (.recs (.nets [])) rfl (by decide) _) ?_
  refine awp_weak (awk_slot 2 (.one .nils) (.w 5002 0) _ (by kernel_rfl) (.one (wkv_nils (o := .recs (.nets [])) (by kernel_rfl)))) ?_
  refine awp_weak (awk_ren 5002 9001 (s' := ⟨8, [(2, .w 9001 0)], [(9001, .recs (.nets []))]⟩) (by kernel_rfl)) ?_
  refine awp_ret ?_
  refine kRet.ret _ [9001] [] (.w 9001 0) [(9001, .recs (.nets []))] (by kernel_rfl) trivial ?_
  exact ⟨(by rw [List.eq_nil_of_length_eq_zero (hnb1 c1)]; rfl), (by rw [List.eq_nil_of_length_eq_zero (hnb1 c1)])⟩
 ·
  refine awp_skip ?_
  refine kq [(0 = 0), ((0 + O.length) * 48 ≤ 140737488355328), ((0 + O.length) ≤ 9223372036854775807)] ⟨8, [(2, .w 105 (0 + O.length))], [(105, .recs (.nets O))]⟩ hT (by kernel_rfl) ⟨(by decide), (by omega), (by omega), trivial⟩ ?_
  refine awp_weak (awk_ren 105 9001 (s' := ⟨8, [(2, .w 9001 (0 + O.length))], [(9001, .recs (.nets O))]⟩) (by kernel_rfl)) ?_
  refine awp_ret ?_
  refine kRet.ret _ [9001] [] (.w 9001 (0 + O.length)) [(9001, .recs (.nets O))] (by kernel_rfl) trivial ?_
  exact ⟨(by rw [Nat.zero_add]), (by kernel_rfl)⟩
end Go.Ab
set_option maxRecDepth 100000
namespace Go.Ab
open Go Go.Proofs
abbrev ZbC0 (a0 : Int) (a1 : Int) (a2 : Int) (a3 : List Arc) (a4 : List Sta) (a5 : List (ByteArray × Sta)) := ([(.i a0), (.i a1), (.i a2), (.ro (.arcs a3)), (.rw 107 (Int.toNat (max (0 : Int) ((((a4.length + 1) : Nat) : Int) - 20))) ((a4.length + 1) - (Int.toNat (max (0 : Int) ((((a4.length + 1) : Nat) : Int) - 20))))), (.dm a5)] : List V1)
abbrev ZbC1 := ((104, .box 1 6 [(.i 0), (.i 0), (.i 0), .nils, .nils, .any]) : Nat × Obj)
abbrev ZbC2 (a0 : Int) (a1 : Int) (a2 : Int) (a3 : List Arc) (a4 : List Sta) (a5 : Int) (a6 : Int) (a7 : Int) (a8 : List Arc) (a9 : List (ByteArray × Sta)) := ([(.i a0), (.i a1), (.i a2), (.ro (.arcs a3)), (.rs (.nets (List.drop (Int.toNat (max (0 : Int) ((((a4.length + 1) : Nat) : Int) - 20))) (List.take (nadd (Int.toNat (max (0 : Int) ((((a4.length + 1) : Nat) : Int) - 20))) ((a4.length + 1) - (Int.toNat (max (0 : Int) ((((a4.length + 1) : Nat) : Int) - 20))))) (a4 ++ [⟨a5, a6, a7, a8, []⟩]))))), (.dm a9)] : List V1)
abbrev ZbC3 := ([(2, .p 102), (3, .p 103), (4, .p 104)] : List (Nat × AV))
abbrev ZbC4 (a0 : Int) (a1 : Int) (a2 : Int) (a3 : List Arc) := ([(.i a0), (.i a1), (.i a2), (.ro (.arcs a3))] : List V1)
theorem ref_changed (n s t : Int) (es : List Arc) (O : List Sta) (S : List (ByteArray × Sta)) (n2 s2 t2 : Int) (es2 : List Arc) (hO : O.length ≤ 20) : ACall Tryd.prog 25 [.agg [(.i n), (.i s), (.i t), (.ro (.arcs es)), (.rs (.nets O)), (.dm S)], .agg (ZbC4 n2 s2 t2 es2)] [] (fun ov oh => ov = .agg [(.i n2), (.i s2), (.i t2), (.ro (.arcs es2)), (.rs (.nets (List.drop (O.length + 1 - 20) (O ++ [⟨n, s, t, es, []⟩])))), (.dm S)] ∧ oh = []) := by
 refine acall_intro hT Tryd.func25 rfl (by kernel_rfl) rfl (by kernel_rfl) ?_
 refine kq [] ⟨25, ZbC3, [(102, .box 1 6 [(.i n), (.i s), (.i t), (.ro (.arcs es)), (.rs (.nets O)), (.dm S)]), (103, .box 1 4 (ZbC4 n2 s2 t2 es2)), ZbC1]⟩ hT (by kernel_rfl) trivial ?_
 refine awp_seq (awp_calm2 [(2, ⟨[.one (.rs (.nets O))], .w 9001 O.length, [(9001, .recs (.nets O))], [(9001, 107)]⟩)] false [[], [0], [0, 1], [], [3], [3, 4], [0, 1, 2, 3, 4, 5], [0, 1, 2, 3, 4, 5, 6], [0, 1, 2, 3, 4, 5, 6, 7]] 6 [2, 3, 4] [102, 103, 104, 107] [(0, []), (1, [(0 < 1)]), (2, [(AllP [] ∧ [.one (.rs (.nets O))] = ([.one (.rs (.nets O))] : List AV) ∧ ACall Tryd.prog 43 [.one (.rs (.nets O))] [] (fun ov oh => ov = .w 9001 O.length ∧ oh = [(9001, .recs (.nets O))]))]), (3, []), (4, [(0 < 1)]), (5, [])] [(6, [(O.length = O.length), ((O.length + 1) * 48 ≤ 140737488355328), ((O.length + 1) ≤ 9223372036854775807)]), (7, []), (8, [(0 < 1)])] 1 ⟨25, ZbC3, [(102, .box 1 6 [(.i n), (.i s), (.i t), (.ro (.arcs es)), (.w 107 (O.length + 1)), (.dm S)]), (103, .box 1 4 (ZbC4 n2 s2 t2 es2)), ZbC1, (107, .recs (.nets (O ++ [⟨n, s, t, es, []⟩])))]⟩ (by kernel_rfl) (by kernel_rfl) hT (by kernel_rfl) (by kernel_rfl) ⟨trivial, ⟨(by decide), trivial⟩, ⟨⟨trivial, rfl, clone_nets O (by omega)⟩, trivial⟩, trivial, ⟨(by decide), trivial⟩, trivial, trivial⟩ ⟨⟨(by omega), (by omega), (by omega), trivial⟩, trivial, ⟨(by decide), trivial⟩, trivial⟩ ?_)
 refine awp_seq (awp_region ?_)
 refine ko 10 [(0 < 1), (0 < 1), (-9223372036854775808 ≤ ((((O.length + 1) : Nat) : Int) - 20) ∧ ((((O.length + 1) : Nat) : Int) - 20) ≤ 9223372036854775807), ((0 : Int) ≤ (max (0 : Int) ((((O.length + 1) : Nat) : Int) - 20))), ((max (0 : Int) ((((O.length + 1) : Nat) : Int) - 20)) ≤ (((O.length + 1) : Nat) : Int)), ((((O.length + 1) : Nat) : Int) ≤ (((O.length + 1) : Nat) : Int)), (0 < 1)] ⟨25, ZbC3, [(102, .box 1 6 (ZbC0 n s t es O S)), (103, .box 1 4 (ZbC4 n2 s2 t2 es2)), ZbC1, (107, .recs (.nets (O ++ [⟨n, s, t, es, []⟩])))]⟩ hT (by kernel_rfl) (by kernel_rfl) ⟨(by decide), (by decide), (by omega), (by omega), (by omega), (by omega), (by decide), trivial⟩ ?_
 refine aops_end_seq (by kernel_rfl) ?_
 refine kq [(0 < 1), (0 < 1)] ⟨25, [(2, .p 102), (4, .p 104)], [(102, .box 1 6 (ZbC0 n2 s2 t2 es2 O S)), ZbC1, (107, .recs (.nets (O ++ [⟨n, s, t, es, []⟩])))]⟩ hT (by kernel_rfl) ⟨(by decide), (by decide), trivial⟩ ?_
 refine kq [(0 < 1), (0 < 1)] ⟨25, [(4, .p 104)], [(104, .box 1 6 (ZbC0 n2 s2 t2 es2 O S)), (107, .recs (.nets (O ++ [⟨n, s, t, es, []⟩])))]⟩ hT (by kernel_rfl) ⟨(by decide), (by decide), trivial⟩ ?_
 refine awp_weak (awk_seal 107 (s' := ⟨25, [(4, .p 104)], [(104, .box 1 6 (ZbC2 n2 s2 t2 es2 O n s t es S))]⟩) (by kernel_rfl)) ?_
 refine awp_ret ?_
 refine kRet.ret _ [] [(0 < 1)] (.agg (ZbC2 n2 s2 t2 es2 O n s t es S)) [] (by kernel_rfl) ⟨(by decide), trivial⟩ ?_
 exact ⟨congrArg (fun x1 => (.agg [(.i n2), (.i s2), (.i t2), (.ro (.arcs es2)), (.rs (.nets x1)), (.dm S)] : AV)) (show (List.drop (Int.toNat (max (0 : Int) ((((O.length + 1) : Nat) : Int) - 20))) (List.take (nadd (Int.toNat (max (0 : Int) ((((O.length + 1) : Nat) : Int) - 20))) ((O.length + 1) - (Int.toNat (max (0 : Int) ((((O.length + 1) : Nat) : Int) - 20))))) (O ++ [⟨n, s, t, es, []⟩]))) = (List.drop (O.length + 1 - 20) (O ++ [⟨n, s, t, es, []⟩])) from by rw [nadd_eq, List.take_of_length_le (by simp; omega)]; congr 1; omega), rfl⟩
end Go.Ab
