/- Parts of the proof, without conditions. -/
import Derived.Test.YtlmbjjbcdgckfaaDoorKk
import Derived.Test.YtlmbjjbcdgckfaaDoorTab
import Derived.Test.YtlmbjjbcdgckfaaDoorQ8
import Derived.Test.YtlmbjjbcdgckfaaDoorQ3
import Derived.Test.YtlmbjjbcdgckfaaDoorQ1
import Derived.Test.YtlmbjjbcdgckfaaDoorQ2
import Derived.Test.YtlmbjjbcdgckfaaDoorQ4
import Derived.Test.YtlmbjjbcdgckfaaDoorQ7
set_option maxRecDepth 100000
namespace Go.Ab
open Go Go.Proofs
abbrev ZbDG (g : Bool) : Prop := g = true → g = true
abbrev ZbDL (g : Bool) : Prop := g = true → (0 < 1)
abbrev ZbDT (g : Bool) : Prop := g = true → (g = true → g = true)
abbrev ZbDb0 (a0 : ByteArray) := ((!((decide ((((ByteArray.size a0) : Nat) : Int) < 1)) || (decide ((8 : Int) < (((ByteArray.size a0) : Nat) : Int))))) : Bool)
abbrev ZbDb1 (a0 : ByteArray) := ((!(decide ((((ByteArray.size a0) : Nat) : Int) < 1))) : Bool)
abbrev ZbD3 := ((104, .box 1 6 [(.i 0), (.i 0), (.i 0), .nils, .nils, .any]) : Nat × Obj)
abbrev ZbD8 (a0 : Int) (a1 : Int) (a2 : Int) (a3 : Int) (a4 : ByteArray) := ((103, .box 1 5 [(.i a0), (.i a1), (.i a2), (.i a3), (.str a4)]) : Nat × Obj)
abbrev ZbD1 (a0 : Int) (a1 : Int) (a2 : Int) (a3 : List Arc) (a4 : List Sta) (a5 : List (ByteArray × Sta)) := ([(.i a0), (.i a1), (.i a2), (.ro (.arcs a3)), (.rs (.nets a4)), (.dm a5)] : List V1)
abbrev ZbD12 (a0 : Int) (a1 : Int) (a2 : Int) (a3 : List Arc) (a4 : List Sta) (a5 : List (ByteArray × Sta)) := ((102, .box 1 6 (ZbD1 a0 a1 a2 a3 a4 a5)) : Nat × Obj)
abbrev ZbD0 (a0 : Int) (a1 : Int) (a2 : Int) (a3 : List Arc) (a4 : List Sta) (a5 : List (ByteArray × Sta)) (a6 : Int) (a7 : Int) (a8 : Int) (a9 : Int) (a10 : ByteArray) := ([(ZbD12 a0 a1 a2 a3 a4 a5), (ZbD8 a6 a7 a8 a9 a10), ZbD3] : List (Nat × Obj))
abbrev ZbD2 (a0 : ByteArray) (a1 : List (ByteArray × Sta)) := ([(.i ((Option.getD (findE a0 a1) default).n)), (.i ((Option.getD (findE a0 a1) default).s)), (.i ((Option.getD (findE a0 a1) default).t)), (.ro (.arcs ((Option.getD (findE a0 a1) default).es)))] : List V1)
abbrev ZbD4 (a0 : List Sta) (a1 : List (ByteArray × Sta)) := ([(.i ((List.getD a0 (Int.toNat (((a0.length : Nat) : Int) - 1)) default).n)), (.i ((List.getD a0 (Int.toNat (((a0.length : Nat) : Int) - 1)) default).s)), (.i ((List.getD a0 (Int.toNat (((a0.length : Nat) : Int) - 1)) default).t)), (.ro (.arcs ((List.getD a0 (Int.toNat (((a0.length : Nat) : Int) - 1)) default).es))), (.rs (.nets (List.take (Int.toNat (((a0.length : Nat) : Int) - 1)) a0))), (.dm a1)] : List V1)
abbrev ZbD5 (a0 : ByteArray) (a1 : List (ByteArray × Sta)) (a2 : List Sta) (a3 : Int) (a4 : Int) (a5 : Int) (a6 : List Arc) := ([(.i ((Option.getD (findE a0 a1) default).n)), (.i ((Option.getD (findE a0 a1) default).s)), (.i ((Option.getD (findE a0 a1) default).t)), (.ro (.arcs ((Option.getD (findE a0 a1) default).es))), (.rs (.nets (List.drop (a2.length + 1 - 20) (a2 ++ [⟨a3, a4, a5, a6, []⟩])))), (.dm a1)] : List V1)
abbrev ZbD6 (a0 : Int) (a1 : Int) (a2 : Int) (a3 : List Arc) := ([(.i a0), (.i a1), (.i a2), (.ro (.arcs a3))] : List V1)
abbrev ZbD7 (a0) (a1) := ([(2, .p 102), (3, .p 103), (4, .p 104), (9, .one (.mapv a0)), (96, .one (.itv a1))] : List (Nat × AV))
abbrev ZbD9 := ((.str (⟨#[97, 98, 99, 100, 101, 102, 103, 104, 105, 106, 107, 108, 109, 110, 111, 112, 113, 114, 115, 116, 117, 118, 119, 120, 121, 122]⟩ : ByteArray)) : V1)
abbrev ZbD10 := ([(4, .p 104), (5, .i 0), (6, .i 0)] : List (Nat × AV))
abbrev ZbD11 (a0 : ByteArray) := ((57, .whn (!((decide ((((ByteArray.size a0) : Nat) : Int) < 1)) || (decide ((8 : Int) < (((ByteArray.size a0) : Nat) : Int))))) (.one (.str a0))) : Nat × AV)
abbrev ZbD13 (a0 : ByteArray) := ((55, .one (.bool ((decide ((((ByteArray.size a0) : Nat) : Int) < 1)) || (decide ((8 : Int) < (((ByteArray.size a0) : Nat) : Int)))))) : Nat × AV)
abbrev ZbD14 (a0 : Int) (a1 : Int) (a2 : Int) (a3 : List Arc) (a4 : List Sta) (a5 : ByteArray) (a6 : List (ByteArray × Sta)) (a7 : List Nat) := ([(.i a0), (.i a1), (.i a2), (.ro (.arcs a3)), (.rs (.nets a4)), (.dm (saveL a5 ⟨a0, a1, a2, a3, []⟩ a6 a7))] : List V1)
theorem ref_otherOf (n s t : Int) (es : List Arc) (O : List Sta) (S : List (ByteArray × Sta)) (k a b m : Int) (w : ByteArray) (hO : O.length ≤ 20) (hE : netErr n s t es = 0) (hSn : (S.map (·.1)).Nodup) : ACall Tryd.prog 24 [.agg (ZbD1 n s t es O S), .agg [(.i k), (.i a), (.i b), (.i m), (.str w)]] [] (fun ov oh => ∃ (n9 s9 t9 : Int) (es9 : List Arc) (O9 : List Sta) (S9 : List (ByteArray × Sta)) (x9 e9 : Int), (OtherR n s t es O S k w n9 s9 t9 es9 O9 S9 x9 e9) ∧ ov = .tup [(true, (ZbD1 n9 s9 t9 es9 O9 S9)), (false, [(.i x9)]), (false, [(.i e9)])] ∧ oh = []) := by
 refine acall_intro hT Tryd.func24 rfl (by kernel_rfl) rfl (by kernel_rfl) ?_
 have hok := netErr_ok hE
 have hlow := (MinCut.low hok).1
 have hz0 := hlow.1.1
 have hz1 := hlow.1.2.1
 have hp12 := pow_le12 (n := n.toNat) (by have := hok.n2; omega)
 have h1 := hok.n1
 have h2 := hok.n2
 have hle := hok.len
 refine kq [] ⟨138, [(2, .p 102), (3, .p 103), (4, .p 104)], (ZbD0 n s t es O S k a b m w)⟩ hT (by kernel_rfl) trivial ?_
 refine awp_seq ?_
 refine kq [(0 < 1)] ⟨138, [(2, .p 102), (3, .p 103), (4, .p 104), (16, .i k)], (ZbD0 n s t es O S k a b m w)⟩ hT (by kernel_rfl) ⟨(by decide), trivial⟩ ?_
 refine awp_block ?_
 refine kq [] ⟨138, [(2, .p 102), (3, .p 103), (4, .p 104), (16, .i k), (17, .one (.bool (decide (k = 6))))], (ZbD0 n s t es O S k a b m w)⟩ hT (by kernel_rfl) trivial ?_
 refine awp_cond (b := (decide (k = 6))) (by kernel_rfl) (fun c2 => ?_) (fun c2 => ?_)
 ·
  try simp only [bs] at c2
  refine awp_seq ?_
  refine kq [(0 < 1)] ⟨138, [(2, .p 102), (4, .p 104), (22, .one (.bool (decide (((O.length : Nat) : Int) = 0))))], [(ZbD12 n s t es O S), ZbD3]⟩ hT (by kernel_rfl) ⟨(by decide), trivial⟩ ?_
  refine awp_cond (b := (decide (((O.length : Nat) : Int) = 0))) (by kernel_rfl) (fun c3 => ?_) (fun c3 => ?_)
  ·
   try simp only [bs] at c3
   refine kq [(0 < 1), (0 < 1)] ⟨138, [(4, .p 104), (5, .i 0), (6, .i 5)], [(104, .box 1 6 (ZbD1 n s t es O S))]⟩ hT (by kernel_rfl) ⟨(by decide), (by decide), trivial⟩ ?_
   refine awp_ret ?_
   refine kRet.ret _ [] [(0 < 1)] (.tup [(true, (ZbD1 n s t es O S)), (false, [(.i 0)]), (false, [(.i 5)])]) [] (by kernel_rfl) ⟨(by decide), trivial⟩ ?_
   exact ⟨n, s, t, es, O, S, 0, 5, (by exact .undo0 (by omega) (by omega)), (by kernel_rfl), (by kernel_rfl)⟩
  ·
   try simp only [bs] at c3
   refine awp_skip ?_
   refine awp_seq (awp_any [] false [2, 4] [102, 104] 120 [(0, []), (1, [(0 < 1)]), (2, []), (3, [(0 < 1)]), (4, []), (5, [(-9223372036854775808 ≤ (((O.length : Nat) : Int) - 1) ∧ (((O.length : Nat) : Int) - 1) ≤ 9223372036854775807)]), (6, [((0 : Int) ≤ (((O.length : Nat) : Int) - 1)), ((((O.length : Nat) : Int) - 1) < ((O.length : Nat) : Int))]), (7, []), (8, []), (9, [(0 < 1)]), (10, []), (11, [(0 < 1)]), (12, []), (13, [(-9223372036854775808 ≤ (((O.length : Nat) : Int) - 1) ∧ (((O.length : Nat) : Int) - 1) ≤ 9223372036854775807)]), (14, [((0 : Int) ≤ 0), ((0 : Int) ≤ (((O.length : Nat) : Int) - 1)), ((((O.length : Nat) : Int) - 1) ≤ ((O.length : Nat) : Int))]), (15, []), (16, [(0 < 1)]), (17, []), (18, [(0 < 1)])] ⟨138, [(2, .p 102), (4, .p 104)], [(102, .box 1 6 (ZbD4 O S)), ZbD3]⟩ (by kernel_rfl) (by kernel_rfl) hT (by kernel_rfl) ⟨trivial, ⟨(by decide), trivial⟩, trivial, ⟨(by decide), trivial⟩, trivial, ⟨(by omega), trivial⟩, ⟨(by omega), (by omega), trivial⟩, trivial, trivial, ⟨(by decide), trivial⟩, trivial, ⟨(by decide), trivial⟩, trivial, ⟨(by omega), trivial⟩, ⟨(by omega), (by omega), (by omega), trivial⟩, trivial, ⟨(by decide), trivial⟩, trivial, ⟨(by decide), trivial⟩, trivial⟩ ?_)
   refine kq [(0 < 1), (0 < 1)] ⟨138, ZbD10, [(104, .box 1 6 (ZbD4 O S))]⟩ hT (by kernel_rfl) ⟨(by decide), (by decide), trivial⟩ ?_
   refine awp_ret ?_
   refine kRet.ret _ [] [(0 < 1)] (.tup [(true, (ZbD4 O S)), (false, [(.i 0)]), (false, [(.i 0)])]) [] (by kernel_rfl) ⟨(by decide), trivial⟩ ?_
   exact ⟨((List.getD O (Int.toNat (((O.length : Nat) : Int) - 1)) default).n), ((List.getD O (Int.toNat (((O.length : Nat) : Int) - 1)) default).s), ((List.getD O (Int.toNat (((O.length : Nat) : Int) - 1)) default).t), ((List.getD O (Int.toNat (((O.length : Nat) : Int) - 1)) default).es), (List.take (Int.toNat (((O.length : Nat) : Int) - 1)) O), S, 0, 0, (by rw [show (((O.length : Nat) : Int) - 1).toNat = O.length - 1 by omega]; exact .undo (by omega) (by omega)), (by kernel_rfl), (by kernel_rfl)⟩
 ·
  try simp only [bs] at c2
  refine awp_seq ?_
  refine kq [] ⟨138, [(2, .p 102), (3, .p 103), (4, .p 104), (16, .i k), (42, .one (.bool (decide (k = 7))))], (ZbD0 n s t es O S k a b m w)⟩ hT (by kernel_rfl) trivial ?_
  refine awp_cond_join_tail (b := (decide (k = 7))) (fun bb => ⟨138, [(2, .p 102), (3, .p 103), (4, .p 104), (16, .i k), (42, .one (.bool (cond bb (decide (k = 7)) (decide (k = 8)))))], (ZbD0 n s t es O S k a b m w)⟩) (by kernel_rfl) (fun c7 => ?_) (fun c7 => ?_) ?_
  ·
   try simp only [bs] at c7
   have hk78y : k = 7 ∨ k = 8 := by first | omega | (by_cases q : k = 7; exact .inl q; simp [q] at c7; omega)
   refine awp_skip ?_
   exact jend (by kernel_rfl)
  ·
   try simp only [bs] at c7
   try (have hk78n : k ≠ 7 ∧ k ≠ 8 := by (by_cases q : k = 7 <;> simp [q] at c7 <;> omega))
   refine kr [] ⟨138, [(2, .p 102), (3, .p 103), (4, .p 104), (16, .i k), (42, .one (.bool (decide (k = 8))))], (ZbD0 n s t es O S k a b m w)⟩ hT (by kernel_rfl) trivial ?_
   exact jend (by kernel_rfl)
  refine awp_cond (b := (cond (decide (k = 7)) (decide (k = 7)) (decide (k = 8)))) (by kernel_rfl) (fun c7 => ?_) (fun c7 => ?_)
  ·
   try simp only [bs] at c7
   have hk78y : k = 7 ∨ k = 8 := by first | omega | (by_cases q : k = 7; exact .inl q; simp [q] at c7; omega)
   refine awp_seq ?_
   refine awp_seq (awp_region ?_)
   refine ko 13 [(0 < 1), (ZbDT (ZbDb1 w)), (ZbDL (ZbDb1 w)), (ZbDT (ZbDb1 w)), (ZbDT (ZbDb1 w)), (ZbDG (ZbDb1 w)), (ZbDT (ZbDb0 w)), (ZbDL (ZbDb0 w))] ⟨138, [(2, .p 102), (3, .p 103), (4, .p 104), (ZbD13 w), (ZbD11 w)], (ZbD0 n s t es O S k a b m w)⟩ hT (by kernel_rfl) (by kernel_rfl) ⟨(by decide), (fun _ h => h), (fun _ => by decide), (fun _ h => h), (fun _ h => h), id, (fun _ h => h), (fun _ => by decide), trivial⟩ ?_
   refine aops_pure false ⟨(!((decide ((((ByteArray.size w) : Nat) : Int) < 1)) || (decide ((8 : Int) < (((ByteArray.size w) : Nat) : Int))))), [(ZbDG (!((decide ((((ByteArray.size w) : Nat) : Int) < 1)) || (decide ((8 : Int) < (((ByteArray.size w) : Nat) : Int))))))], 40, [.one (.str w), .one ZbD9], []⟩ [.one (.str w), .one ZbD9] (.one (.str (trimF w))) ⟨138, [(2, .p 102), (3, .p 103), (4, .p 104), (ZbD13 w), (ZbD11 w), (58, .whn (!((decide ((((ByteArray.size w) : Nat) : Int) < 1)) || (decide ((8 : Int) < (((ByteArray.size w) : Nat) : Int))))) (.one (.str (trimF w))))], (ZbD0 n s t es O S k a b m w)⟩ (by kernel_rfl) (by kernel_rfl) (fun _ => ⟨id, trivial⟩) rfl (fun hg => trim_all w (by first | omega | (simp at hg; omega)) (by first | omega | (simp at hg; omega))) ?_
   refine ko 2 [(ZbDT (ZbDb0 w)), (ZbDG (ZbDb0 w))] ⟨138, [(2, .p 102), (3, .p 103), (4, .p 104), (60, .one (.bool (((decide ((((ByteArray.size w) : Nat) : Int) < 1)) || (decide ((8 : Int) < (((ByteArray.size w) : Nat) : Int)))) || ((trimF w) != (⟨#[]⟩ : ByteArray)))))], (ZbD0 n s t es O S k a b m w)⟩ hT (by kernel_rfl) (by kernel_rfl) ⟨(fun _ h => h), id, trivial⟩ ?_
   refine aops_end_seq (by kernel_rfl) ?_
   refine awp_cond (b := (((decide ((((ByteArray.size w) : Nat) : Int) < 1)) || (decide ((8 : Int) < (((ByteArray.size w) : Nat) : Int)))) || ((trimF w) != (⟨#[]⟩ : ByteArray)))) (by kernel_rfl) (fun c9 => ?_) (fun c9 => ?_)
   ·
    try simp only [bs] at c9
    have hnb := name_bad (w := w) (by rcases c9 with q | q; exact .inl (by omega); exact .inr q)
    have hk78 : k = 7 ∨ k = 8 := by omega
    refine kq [(0 < 1), (0 < 1)] ⟨138, [(4, .p 104), (5, .i 0), (6, .i 3)], [(104, .box 1 6 (ZbD1 n s t es O S))]⟩ hT (by kernel_rfl) ⟨(by decide), (by decide), trivial⟩ ?_
    refine awp_ret ?_
    refine kRet.ret _ [] [(0 < 1)] (.tup [(true, (ZbD1 n s t es O S)), (false, [(.i 0)]), (false, [(.i 3)])]) [] (by kernel_rfl) ⟨(by decide), trivial⟩ ?_
    exact ⟨n, s, t, es, O, S, 0, 3, (by exact .bad hk78 hnb), (by kernel_rfl), (by kernel_rfl)⟩
   ·
    try simp only [bs] at c9
    have hng := name_good (w := w) (by have := c9.1; omega) (by rw [c9.2]; decide)
    refine awp_skip ?_
    refine awp_seq (awp_region ?_)
    refine ko 4 [(0 < 1), (0 < 1)] ⟨138, [(2, .p 102), (3, .p 103), (4, .p 104), (64, .one (.dm S)), (66, .one (.str w))], (ZbD0 n s t es O S k a b m w)⟩ hT (by kernel_rfl) (by kernel_rfl) ⟨(by decide), (by decide), trivial⟩ ?_
    refine aops_lookup (d := 67) (L := S) (key := w) hT rfl rfl rfl rfl (by kernel_rfl) Tryd.underlying29 Tryd.underlying9 (show T 27 = some _ from rfl) (by kernel_rfl) rfl (by kernel_rfl) (by kernel_rfl) ?_
    refine ku ⟨138, [(2, .p 102), (3, .p 103), (4, .p 104), (64, .one (.dm S)), (66, .one (.str w)), (67, .tup [(true, (ZbD2 w S)), (false, [(.bool (Option.isSome (findE w S)))])])], (ZbD0 n s t es O S k a b m w)⟩ (by kernel_rfl) ?_
    refine ko 6 [(0 < 1)] ⟨138, [(2, .p 102), (3, .p 103), (4, .p 104), (7, .p 107), (8, .one (.bool (Option.isSome (findE w S))))], [(ZbD12 n s t es O S), (ZbD8 k a b m w), ZbD3, (107, .box 1 4 (ZbD2 w S))]⟩ hT (by kernel_rfl) (by kernel_rfl) ⟨(by decide), trivial⟩ ?_
    refine aops_end_seq (by kernel_rfl) ?_
    refine awp_seq ?_
    refine kq [(0 < 1)] ⟨138, [(2, .p 102), (3, .p 103), (4, .p 104), (7, .p 107), (8, .one (.bool (Option.isSome (findE w S)))), (72, .one (.bool (decide (k = 8))))], [(ZbD12 n s t es O S), (ZbD8 k a b m w), ZbD3, (107, .box 1 4 (ZbD2 w S))]⟩ hT (by kernel_rfl) ⟨(by decide), trivial⟩ ?_
    refine awp_cond (b := (decide (k = 8))) (by kernel_rfl) (fun c12 => ?_) (fun c12 => ?_)
    ·
     try simp only [bs] at c12
     refine awp_seq ?_
     refine kq [] ⟨138, [(2, .p 102), (4, .p 104), (7, .p 107), (74, .one (.bool (!(Option.isSome (findE w S)))))], [(ZbD12 n s t es O S), ZbD3, (107, .box 1 4 (ZbD2 w S))]⟩ hT (by kernel_rfl) trivial ?_
     refine awp_cond (b := (!(Option.isSome (findE w S)))) (by kernel_rfl) (fun c13 => ?_) (fun c13 => ?_)
     ·
      try simp only [bs] at c13
      refine kq [(0 < 1), (0 < 1)] ⟨138, [(4, .p 104), (5, .i 0), (6, .i 5)], [(104, .box 1 6 (ZbD1 n s t es O S))]⟩ hT (by kernel_rfl) ⟨(by decide), (by decide), trivial⟩ ?_
      refine awp_ret ?_
      refine kRet.ret _ [] [(0 < 1)] (.tup [(true, (ZbD1 n s t es O S)), (false, [(.i 0)]), (false, [(.i 5)])]) [] (by kernel_rfl) ⟨(by decide), trivial⟩ ?_
      exact ⟨n, s, t, es, O, S, 0, 5, (by exact .load0 (by omega) hng (by simpa using c13)), (by kernel_rfl), (by kernel_rfl)⟩
     ·
      try simp only [bs] at c13
      refine awp_skip ?_
      refine awp_seq (awp_region ?_)
      refine ko 2 [(0 < 1), (0 < 1)] ⟨138, [(4, .p 104), (76, .agg (ZbD1 n s t es O S)), (77, .agg (ZbD2 w S))], [ZbD3]⟩ hT (by kernel_rfl) (by kernel_rfl) ⟨(by decide), (by decide), trivial⟩ ?_
      refine aops_pure false ⟨true, [], 25, [.agg (ZbD1 n s t es O S), .agg (ZbD2 w S)], []⟩ [.agg (ZbD1 n s t es O S), .agg (ZbD2 w S)] (.agg (ZbD5 w S O n s t es)) ⟨138, [(4, .p 104), (76, .agg (ZbD1 n s t es O S)), (77, .agg (ZbD2 w S)), (78, .agg (ZbD5 w S O n s t es))], [ZbD3]⟩ (by kernel_rfl) (by kernel_rfl) (fun _ => trivial) rfl (fun _ => ref_changed n s t es O S ((Option.getD (findE w S) default).n) ((Option.getD (findE w S) default).s) ((Option.getD (findE w S) default).t) ((Option.getD (findE w S) default).es) (by omega)) ?_
      refine ko 3 [(0 < 1)] ⟨138, ZbD10, [(104, .box 1 6 (ZbD5 w S O n s t es))]⟩ hT (by kernel_rfl) (by kernel_rfl) ⟨(by decide), trivial⟩ ?_
      refine aops_end_seq (by kernel_rfl) ?_
      refine awp_ret ?_
      refine kRet.ret _ [] [(0 < 1)] (.tup [(true, (ZbD5 w S O n s t es)), (false, [(.i 0)]), (false, [(.i 0)])]) [] (by kernel_rfl) ⟨(by decide), trivial⟩ ?_
      exact ⟨((Option.getD (findE w S) default).n), ((Option.getD (findE w S) default).s), ((Option.getD (findE w S) default).t), ((Option.getD (findE w S) default).es), (List.drop (O.length + 1 - 20) (O ++ [⟨n, s, t, es, []⟩])), S, 0, 0, (by exact .load (by omega) hng (by simpa using c13)), (by kernel_rfl), (by kernel_rfl)⟩
    ·
     try simp only [bs] at c12
     refine awp_skip ?_
     refine awp_seq ?_
     refine awp_seq (awp_region ?_)
     refine ko 5 [(ZbDT (!(Option.isSome (findE w S)))), (ZbDL (!(Option.isSome (findE w S))))] ⟨138, [(2, .p 102), (3, .p 103), (4, .p 104), (81, .one (.bool (!(Option.isSome (findE w S))))), (83, .whn (!(Option.isSome (findE w S))) (.one (.dm S)))], (ZbD0 n s t es O S k a b m w)⟩ hT (by kernel_rfl) (by kernel_rfl) ⟨(fun _ h => h), (fun _ => by decide), trivial⟩ ?_
     refine aops_maplen_g (d := 84) (g := (!(Option.isSome (findE w S)))) (L := S) rfl rfl rfl rfl rfl rfl (by kernel_rfl) (by kernel_rfl) Tryd.underlying29 (by kernel_rfl) ?_
     refine ku ⟨138, [(2, .p 102), (3, .p 103), (4, .p 104), (81, .one (.bool (!(Option.isSome (findE w S))))), (83, .whn (!(Option.isSome (findE w S))) (.one (.dm S))), (84, .whn (!(Option.isSome (findE w S))) (.i ((S.length : Nat) : Int)))], (ZbD0 n s t es O S k a b m w)⟩ (by kernel_rfl) ?_
     refine ko 2 [(ZbDT (!(Option.isSome (findE w S)))), (ZbDG (!(Option.isSome (findE w S))))] ⟨138, [(2, .p 102), (3, .p 103), (4, .p 104), (86, .one (.bool ((!(Option.isSome (findE w S))) && (decide ((4 : Int) ≤ ((S.length : Nat) : Int))))))], (ZbD0 n s t es O S k a b m w)⟩ hT (by kernel_rfl) (by kernel_rfl) ⟨(fun _ h => h), id, trivial⟩ ?_
     refine aops_end_seq (by kernel_rfl) ?_
     refine awp_cond (b := ((!(Option.isSome (findE w S))) && (decide ((4 : Int) ≤ ((S.length : Nat) : Int))))) (by kernel_rfl) (fun c16 => ?_) (fun c16 => ?_)
     ·
      try simp only [bs] at c16
      have hfn : (findE w S).isSome = false := by simpa using c16.1
      have hf4 : 4 ≤ S.length := by have := c16.2; omega
      refine kq [(0 < 1), (0 < 1)] ⟨138, [(4, .p 104), (5, .i 0), (6, .i 11)], [(104, .box 1 6 (ZbD1 n s t es O S))]⟩ hT (by kernel_rfl) ⟨(by decide), (by decide), trivial⟩ ?_
      refine awp_ret ?_
      refine kRet.ret _ [] [(0 < 1)] (.tup [(true, (ZbD1 n s t es O S)), (false, [(.i 0)]), (false, [(.i 11)])]) [] (by kernel_rfl) ⟨(by decide), trivial⟩ ?_
      exact ⟨n, s, t, es, O, S, 0, 11, (by exact .full (by omega) hng hfn hf4), (by kernel_rfl), (by kernel_rfl)⟩
     ·
      try simp only [bs] at c16
      have hsv : (findE w S).isSome = true ∨ S.length < 4 := by cases hh : (findE w S).isSome; right; simp [hh] at c16; omega; left; rfl
      refine awp_skip ?_
      refine gwp_start ?_
      refine gwp_seq (gwp_region ?_)
      refine gops_newmap (d := 88) rfl rfl rfl rfl (by kernel_rfl) ?_
      intro mb
      refine gops_cut [2, 3, 4, 88] [102, 103, 104] ⟨138, [(2, .p 102), (3, .p 103), (4, .p 104), (88, .one (.mapv mb))], (ZbD0 n s t es O S k a b m w)⟩ (by kernel_rfl) ?_
      refine gops_run 4 [2, 3, 4, 88, 90, 92] [102, 103, 104] [(0 < 1), (0 < 1)] ⟨138, [(2, .p 102), (3, .p 103), (4, .p 104), (88, .one (.mapv mb)), (90, .one (.str w)), (92, .agg (ZbD6 n s t es))], (ZbD0 n s t es O S k a b m w)⟩ hT (by kernel_rfl) (by kernel_rfl) ⟨(by decide), (by decide), trivial⟩ ?_
      refine gops_insert (key := w) (p := ⟨n, s, t, es, []⟩) rfl (.inr rfl) rfl rfl Tryd.underlying29 Tryd.underlying9 (by kernel_rfl) (by kernel_rfl) (by kernel_rfl) (by rfl) ?_
      refine gops_run 2 [2, 3, 4, 9] [102, 103, 104] [] ⟨138, [(2, .p 102), (3, .p 103), (4, .p 104), (9, .one (.mapv mb))], (ZbD0 n s t es O S k a b m w)⟩ hT (by kernel_rfl) (by kernel_rfl) trivial ?_
      refine gops_end (by kernel_rfl) ?_
      refine gwp_seq ?_
      refine gwp_seq (gwp_region ?_)
      refine gops_run 2 [2, 3, 4, 9, 95] [102, 103, 104] [(0 < 1)] ⟨138, [(2, .p 102), (3, .p 103), (4, .p 104), (9, .one (.mapv mb)), (95, .one (.dm S))], (ZbD0 n s t es O S k a b m w)⟩ hT (by kernel_rfl) (by kernel_rfl) ⟨(by decide), trivial⟩ ?_
      refine gops_range (d := 96) (L := S) rfl rfl rfl rfl (by kernel_rfl) Tryd.underlying29 (by kernel_rfl) ?_
      intro ri
      refine gops_cut [2, 3, 4, 9, 96] [102, 103, 104] ⟨138, (ZbD7 mb ri), (ZbD0 n s t es O S k a b m w)⟩ (by kernel_rfl) ?_
      refine gops_end (by kernel_rfl) ?_
      refine gwp_block ?_
      refine gwp_loop (I := fun κ D σ => ∃ (seen : List Nat), ((∀ i ∈ seen, i < S.length) ∧ (seen.Nodup) ∧ S.length - seen.length = κ) ∧ D = ⟨some (mb, (saveL w ⟨n, s, t, es, []⟩ S seen)), some (ri, S, seen)⟩ ∧ σ = ⟨138, (ZbD7 mb ri), (ZbD0 n s t es O S k a b m w)⟩) _ ⟨[], ⟨(by intro i hi; cases hi), (by exact List.nodup_nil), rfl⟩, (by rfl), (by kernel_rfl)⟩ ?_
      rintro κ _ _ ⟨seen, ⟨hsl, hsn, rfl⟩, rfl, rfl⟩
      refine gwp_seq (gwp_region ?_)
      refine gops_next (d := 97) rfl rfl rfl rfl (by kernel_rfl) (by kernel_rfl) (fun hall => ?_) (fun ix hix hnix => ?_)
      ·
       refine gops_cut [2, 3, 4, 9, 96, 97] [102, 103, 104] ⟨138, [(2, .p 102), (3, .p 103), (4, .p 104), (9, .one (.mapv mb)), (96, .one (.itv ri)), (97, .tup [(false, [(.bool false)])])], (ZbD0 n s t es O S k a b m w)⟩ (by kernel_rfl) ?_
       refine gops_run 1 [2, 3, 4, 9, 96, 98] [102, 103, 104] [] ⟨138, [(2, .p 102), (3, .p 103), (4, .p 104), (9, .one (.mapv mb)), (96, .one (.itv ri)), (98, .one (.bool false))], (ZbD0 n s t es O S k a b m w)⟩ hT (by kernel_rfl) (by kernel_rfl) trivial ?_
       refine gops_end (by kernel_rfl) ?_
       refine gwp_seq_lift ?_
       refine awp_cond (b := false) (by kernel_rfl) (fun h => by cases h) (fun _ => ?_)
       refine awp_exit ?_
       refine gwp_seal (d := 9) (by kernel_rfl) ?_
       refine gwp_cut [2, 3, 4, 9, 96, 98] [102, 103, 104] ⟨138, [(2, .p 102), (3, .p 103), (4, .p 104), (9, .one (.dm (saveL w ⟨n, s, t, es, []⟩ S seen))), (96, .one (.itv ri)), (98, .one (.bool false))], (ZbD0 n s t es O S k a b m w)⟩ (by kernel_rfl) ?_
       refine gwp_seq_lift ?_
       refine kr [(0 < 1)] ⟨138, [(2, .p 102), (4, .p 104)], [(102, .box 1 6 (ZbD14 n s t es O w S seen)), ZbD3]⟩ hT (by kernel_rfl) ⟨(by decide), trivial⟩ ?_
       refine gwp_seq_lift ?_
       refine kr [(0 < 1), (0 < 1)] ⟨138, ZbD10, [(104, .box 1 6 (ZbD14 n s t es O w S seen))]⟩ hT (by kernel_rfl) ⟨(by decide), (by decide), trivial⟩ ?_
       refine gwp_lift ?_
       refine awp_ret ?_
       refine kRet.ret _ [] [(0 < 1)] (.tup [(true, (ZbD14 n s t es O w S seen)), (false, [(.i 0)]), (false, [(.i 0)])]) [] (by kernel_rfl) ⟨(by decide), trivial⟩ ?_
       exact ⟨n, s, t, es, O, (saveL w ⟨n, s, t, es, []⟩ S seen), 0, 0, (by exact .save seen (by omega) hng hsv hsn hsl hall), (by kernel_rfl), (by kernel_rfl)⟩
      ·
       have hsl2 : ∀ i ∈ seen ++ [ix], i < S.length := by intro i hi; rcases List.mem_append.1 hi with q | q; exact hsl i q; rw [List.mem_singleton.1 q]; exact hix
       have hsn2 : (seen ++ [ix]).Nodup := List.nodup_append.2 ⟨hsn, List.nodup_cons.2 ⟨by simp, List.nodup_nil⟩, fun a ha b hb => by rw [List.mem_singleton.1 hb]; exact fun e => hnix (e ▸ ha)⟩
       refine gops_cut [2, 3, 4, 9, 96, 97] [102, 103, 104] ⟨138, [(2, .p 102), (3, .p 103), (4, .p 104), (9, .one (.mapv mb)), (96, .one (.itv ri)), (97, .tup [(false, [(.bool true)]), (false, [(.str ((List.getD S ix default).1))]), (true, [(.i ((List.getD S ix default).2.n)), (.i ((List.getD S ix default).2.s)), (.i ((List.getD S ix default).2.t)), (.ro (.arcs ((List.getD S ix default).2.es)))])])], (ZbD0 n s t es O S k a b m w)⟩ (by kernel_rfl) ?_
       refine gops_run 1 [2, 3, 4, 9, 96, 98] [102, 103, 104] [] ⟨138, [(2, .p 102), (3, .p 103), (4, .p 104), (9, .one (.mapv mb)), (96, .one (.itv ri)), (98, .one (.bool true))], (ZbD0 n s t es O S k a b m w)⟩ hT (by kernel_rfl) (by kernel_rfl) trivial ?_
       refine gops_end (by kernel_rfl) ?_
       refine gwp_seq_lift ?_
       refine awp_cond (b := true) (by kernel_rfl) (fun _ => ?_) (fun h => by cases h)
       refine awp_skip ?_
       refine gwp_block ?_
       refine gwp_seq (gwp_region ?_)
       refine gops_entry (d := 99) (i := ix) rfl rfl rfl rfl (by kernel_rfl) (by kernel_rfl) (by omega) ?_
       refine gops_cut [2, 3, 4, 9, 96, 99] [102, 103, 104] ⟨138, [(2, .p 102), (3, .p 103), (4, .p 104), (9, .one (.mapv mb)), (96, .one (.itv ri)), (99, .tup [(false, [(.str ((List.getD S ix default).1))]), (true, [(.i ((List.getD S ix default).2.n)), (.i ((List.getD S ix default).2.s)), (.i ((List.getD S ix default).2.t)), (.ro (.arcs ((List.getD S ix default).2.es)))])])], (ZbD0 n s t es O S k a b m w)⟩ (by kernel_rfl) ?_
       refine gops_run 5 [2, 3, 4, 9, 10, 11, 96] [102, 103, 104, 111] [(0 < 1)] ⟨138, [(2, .p 102), (3, .p 103), (4, .p 104), (9, .one (.mapv mb)), (10, .one (.str ((List.getD S ix default).1))), (11, .p 111), (96, .one (.itv ri))], [(ZbD12 n s t es O S), (ZbD8 k a b m w), ZbD3, (111, .box 1 4 [(.i ((List.getD S ix default).2.n)), (.i ((List.getD S ix default).2.s)), (.i ((List.getD S ix default).2.t)), (.ro (.arcs ((List.getD S ix default).2.es)))])]⟩ hT (by kernel_rfl) (by kernel_rfl) ⟨(by decide), trivial⟩ ?_
       refine gops_end (by kernel_rfl) ?_
       refine gwp_seq_lift ?_
       refine kr [(0 < 1)] ⟨138, [(2, .p 102), (3, .p 103), (4, .p 104), (9, .one (.mapv mb)), (10, .one (.str ((List.getD S ix default).1))), (11, .p 111), (96, .one (.itv ri)), (105, .one (.bool ((List.getD S ix default).1 != w)))], [(ZbD12 n s t es O S), (ZbD8 k a b m w), ZbD3, (111, .box 1 4 [(.i ((List.getD S ix default).2.n)), (.i ((List.getD S ix default).2.s)), (.i ((List.getD S ix default).2.t)), (.ro (.arcs ((List.getD S ix default).2.es)))])]⟩ hT (by kernel_rfl) ⟨(by decide), trivial⟩ ?_
       refine gwp_cond (b := ((List.getD S ix default).1 != w)) (by kernel_rfl) (fun c22 => ?_) (fun c22 => ?_)
       ·
        try simp only [bs] at c22
        refine gwp_region ?_
        refine gops_run 3 [2, 3, 4, 9, 96, 106, 107, 108] [102, 103, 104] [(0 < 1)] ⟨138, [(2, .p 102), (3, .p 103), (4, .p 104), (9, .one (.mapv mb)), (96, .one (.itv ri)), (106, .one (.mapv mb)), (107, .one (.str ((List.getD S ix default).1))), (108, .agg [(.i ((List.getD S ix default).2.n)), (.i ((List.getD S ix default).2.s)), (.i ((List.getD S ix default).2.t)), (.ro (.arcs ((List.getD S ix default).2.es)))])], (ZbD0 n s t es O S k a b m w)⟩ hT (by kernel_rfl) (by kernel_rfl) ⟨(by decide), trivial⟩ ?_
        refine gops_insert (key := ((List.getD S ix default).1)) (p := ⟨(List.getD S ix default).2.n, (List.getD S ix default).2.s, (List.getD S ix default).2.t, (List.getD S ix default).2.es, []⟩) rfl (.inl rfl) rfl rfl Tryd.underlying29 Tryd.underlying9 (by kernel_rfl) (by kernel_rfl) (by kernel_rfl) (by exact saveL_new hSn hsl hix hnix c22) ?_
        refine gops_cut [2, 3, 4, 9, 96] [102, 103, 104] ⟨138, (ZbD7 mb ri), (ZbD0 n s t es O S k a b m w)⟩ (by kernel_rfl) ?_
        refine gops_end (by kernel_rfl) ?_
        refine gloop_end _ ?_ ⟨(seen ++ [ix]), ⟨(by exact hsl2), (by exact hsn2), rfl⟩, (by first | rw [saveL_yes c22] | rw [saveL_no (by simpa using c22)]), (by kernel_rfl)⟩
        have hb9 := nodup_below hsn2 hsl2; simp at hb9 ⊢; omega
       ·
        try simp only [bs] at c22
        refine gwp_lift ?_
        refine kv ⟨138, (ZbD7 mb ri), (ZbD0 n s t es O S k a b m w)⟩ (by kernel_rfl) ?_
        refine awp_skip ?_
        refine gloop_end _ ?_ ⟨(seen ++ [ix]), ⟨(by exact hsl2), (by exact hsn2), rfl⟩, (by first | rw [saveL_yes c22] | rw [saveL_no (by simpa using c22)]), (by kernel_rfl)⟩
        have hb9 := nodup_below hsn2 hsl2; simp at hb9 ⊢; omega
  ·
   try simp only [bs] at c7
   try (have hk78n : k ≠ 7 ∧ k ≠ 8 := by (by_cases q : k = 7 <;> simp [q] at c7 <;> omega))
   refine kq [] ⟨138, [(2, .p 102), (4, .p 104), (16, .i k), (112, .one (.bool (decide (k = 9))))], [(ZbD12 n s t es O S), ZbD3]⟩ hT (by kernel_rfl) trivial ?_
   refine awp_cond (b := (decide (k = 9))) (by kernel_rfl) (fun c26 => ?_) (fun c26 => ?_)
   ·
    try simp only [bs] at c26
    refine awp_seq (awp_calm2 [(3, ⟨[.agg (ZbD6 n s t es)], .i ((parted n s t es).1), [], []⟩)] false [[], [], [1], [1, 2], [0, 1, 2, 3], [0, 1, 2, 3, 4], [0, 1, 2, 3, 4, 5]] 4 [4, 5, 6] [104] [(0, [(0 < 1)]), (1, []), (2, [(0 < 1)]), (3, [(true = true → (AllP [] ∧ [.agg (ZbD6 n s t es)] = ([.agg (ZbD6 n s t es)] : List AV) ∧ ACall Tryd.prog 41 [.agg (ZbD6 n s t es)] [] (fun ov oh => ov = .i ((parted n s t es).1) ∧ oh = [])))])] [(4, [(0 < 1)]), (5, []), (6, [])] 1 ⟨138, [(4, .p 104), (5, .i ((parted n s t es).1)), (6, .i 0)], [(104, .box 1 6 (ZbD1 n s t es O S))]⟩ (by kernel_rfl) (by kernel_rfl) hT (by kernel_rfl) (by kernel_rfl) ⟨⟨(by decide), trivial⟩, trivial, ⟨(by decide), trivial⟩, ⟨(fun _ => ⟨trivial, rfl, ref_value n s t es (by assumption)⟩), trivial⟩, trivial⟩ ⟨⟨(by decide), trivial⟩, trivial, trivial, trivial⟩ ?_)
    refine awp_ret ?_
    refine kRet.ret _ [] [(0 < 1)] (.tup [(true, (ZbD1 n s t es O S)), (false, [(.i ((parted n s t es).1))]), (false, [(.i 0)])]) [] (by kernel_rfl) ⟨(by decide), trivial⟩ ?_
    exact ⟨n, s, t, es, O, S, ((parted n s t es).1), 0, (by exact .value (by omega)), (by kernel_rfl), (by kernel_rfl)⟩
   ·
    try simp only [bs] at c26
    refine kq [] ⟨138, [(2, .p 102), (4, .p 104), (16, .i k), (118, .one (.bool (decide (k = 10))))], [(ZbD12 n s t es O S), ZbD3]⟩ hT (by kernel_rfl) trivial ?_
    refine awp_cond (b := (decide (k = 10))) (by kernel_rfl) (fun c28 => ?_) (fun c28 => ?_)
    ·
     try simp only [bs] at c28
     refine awp_seq (awp_region ?_)
     refine ko 2 [(0 < 1)] ⟨138, [(2, .p 102), (4, .p 104), (122, .agg (ZbD6 n s t es))], [(ZbD12 n s t es O S), ZbD3]⟩ hT (by kernel_rfl) (by kernel_rfl) ⟨(by decide), trivial⟩ ?_
     refine aops_pure false ⟨true, [], 42, [.agg (ZbD6 n s t es)], []⟩ [.agg (ZbD6 n s t es)] (.tup [(false, [(.i ((parted n s t es).1))]), (false, [(.int .u16 ((parted n s t es).2.1))]), (false, [(.int .u16 ((parted n s t es).2.2))])]) ⟨138, [(2, .p 102), (4, .p 104), (122, .agg (ZbD6 n s t es)), (123, .tup [(false, [(.i ((parted n s t es).1))]), (false, [(.int .u16 ((parted n s t es).2.1))]), (false, [(.int .u16 ((parted n s t es).2.2))])])], [(ZbD12 n s t es O S), ZbD3]⟩ (by kernel_rfl) (by kernel_rfl) (fun _ => trivial) rfl (fun _ => ref_parted n s t es (by assumption)) ?_
     refine ko 7 [] ⟨138, [(2, .p 102), (4, .p 104), (13, .one (.int .u16 ((parted n s t es).2.1)))], [(ZbD12 n s t es O S), ZbD3]⟩ hT (by kernel_rfl) (by kernel_rfl) trivial ?_
     refine aops_end_seq (by kernel_rfl) ?_
     refine kq [(0 < 1), (-9223372036854775808 ≤ (parted n s t es).2.1 ∧ (parted n s t es).2.1 ≤ 9223372036854775807), (0 < 1)] ⟨138, [(4, .p 104), (5, .i ((parted n s t es).2.1)), (6, .i 0)], [(104, .box 1 6 (ZbD1 n s t es O S))]⟩ hT (by kernel_rfl) ⟨(by decide), (by omega), (by decide), trivial⟩ ?_
     refine awp_ret ?_
     refine kRet.ret _ [] [(0 < 1)] (.tup [(true, (ZbD1 n s t es O S)), (false, [(.i ((parted n s t es).2.1))]), (false, [(.i 0)])]) [] (by kernel_rfl) ⟨(by decide), trivial⟩ ?_
     exact ⟨n, s, t, es, O, S, ((parted n s t es).2.1), 0, (by exact .side (by omega)), (by kernel_rfl), (by kernel_rfl)⟩
    ·
     try simp only [bs] at c28
     refine kq [] ⟨138, [(2, .p 102), (4, .p 104), (130, .one (.bool (decide (k = 11))))], [(ZbD12 n s t es O S), ZbD3]⟩ hT (by kernel_rfl) trivial ?_
     refine awp_cond (b := (decide (k = 11))) (by kernel_rfl) (fun c31 => ?_) (fun c31 => ?_)
     ·
      try simp only [bs] at c31
      refine awp_seq (awp_any [] false [4, 5, 6] [104] 3 [(0, [(0 < 1)]), (1, []), (2, []), (3, [(0 < 1)]), (4, []), (5, [(0 < 1)]), (6, []), (7, [])] ⟨138, [(4, .p 104), (5, .i ((es.length : Nat) : Int)), (6, .i 0)], [(104, .box 1 6 (ZbD1 n s t es O S))]⟩ (by kernel_rfl) (by kernel_rfl) hT (by kernel_rfl) ⟨⟨(by decide), trivial⟩, trivial, trivial, ⟨(by decide), trivial⟩, trivial, ⟨(by decide), trivial⟩, trivial, trivial, trivial⟩ ?_)
      refine awp_ret ?_
      refine kRet.ret _ [] [(0 < 1)] (.tup [(true, (ZbD1 n s t es O S)), (false, [(.i ((es.length : Nat) : Int))]), (false, [(.i 0)])]) [] (by kernel_rfl) ⟨(by decide), trivial⟩ ?_
      exact ⟨n, s, t, es, O, S, ((es.length : Nat) : Int), 0, (by exact .arcs (by omega)), (by kernel_rfl), (by kernel_rfl)⟩
     ·
      try simp only [bs] at c31
      refine awp_skip ?_
      refine kq [(0 < 1), (0 < 1)] ⟨138, [(4, .p 104), (5, .i 0), (6, .i 1)], [(104, .box 1 6 (ZbD1 n s t es O S))]⟩ hT (by kernel_rfl) ⟨(by decide), (by decide), trivial⟩ ?_
      refine awp_ret ?_
      refine kRet.ret _ [] [(0 < 1)] (.tup [(true, (ZbD1 n s t es O S)), (false, [(.i 0)]), (false, [(.i 1)])]) [] (by kernel_rfl) ⟨(by decide), trivial⟩ ?_
      exact ⟨n, s, t, es, O, S, 0, 1, (by exact .none_ (by omega)), (by kernel_rfl), (by kernel_rfl)⟩
end Go.Ab
set_option maxRecDepth 100000
namespace Go.Ab
open Go Go.Proofs
abbrev ZbEG (g : Bool) : Prop := g = true → g = true
abbrev ZbEL (g : Bool) : Prop := g = true → (0 < 1)
abbrev ZbET (g : Bool) : Prop := g = true → (g = true → g = true)
abbrev ZbEb0 (a0 : Int) := ((!(decide (a0 < 0))) : Bool)
abbrev ZbE0 (a0 : Int) (a1 : Int) (a2 : Int) (a3 : List Arc) (a4 : List Sta) (a5 : List (ByteArray × Sta)) := ([(.i a0), (.i a1), (.i a2), (.ro (.arcs a3)), (.rs (.nets a4)), (.dm a5)] : List V1)
abbrev ZbE1 := ((104, .box 1 6 [(.i 0), (.i 0), (.i 0), .nils, .nils, .any]) : Nat × Obj)
abbrev ZbE4 (a0 : Int) (a1 : Int) (a2 : Int) (a3 : Int) (a4 : ByteArray) := ([(.i a0), (.i a1), (.i a2), (.i a3), (.str a4)] : List V1)
abbrev ZbE5 (a0 : Int) (a1 : Int) (a2 : Int) (a3 : List Arc) (a4 : List Sta) (a5 : List (ByteArray × Sta)) := ((102, .box 1 6 (ZbE0 a0 a1 a2 a3 a4 a5)) : Nat × Obj)
abbrev ZbE6 (a0 : Int) (a1 : Int) (a2 : Int) (a3 : List Arc) := ((107, .box 1 4 [(.i a0), (.i a1), (.i a2), (.w 113 a3.length)]) : Nat × Obj)
abbrev ZbE2 (a0 : Int) (a1 : Int) (a2 : Int) (a3 : List Arc) (a4 : List Sta) (a5 : List (ByteArray × Sta)) (a6 : Int) (a7 : Int) (a8 : Int) (a9 : Int) (a10 : ByteArray) := ([(ZbE5 a0 a1 a2 a3 a4 a5), (103, .box 1 5 (ZbE4 a6 a7 a8 a9 a10)), ZbE1, (ZbE6 a0 a1 a2 a3), (113, .fa a3)] : List (Nat × Obj))
abbrev ZbE3 (a0 : Int) (a1 : Int) (a2 : Int) (a3 : List Arc) := ([(.i a0), (.i a1), (.i a2), (.ro (.arcs a3))] : List V1)
abbrev ZbE7 (a0 : Int) (a1 : Int) (a2 : Int) (a3 : List Arc) (a4 : Int) (a5 : Int) (a6 : Int) := ([(.i a0), (.i a1), (.i a2), (.ro (.arcs (a3 ++ [⟨a4, a5, a6⟩])))] : List V1)
abbrev ZbE8 (a0 : Int) (a1 : Int) (a2 : Int) := ([(.i a0), (.i a1), (.i a2), (.ro (.arcs []))] : List V1)
abbrev ZbE9 (a0 : Int) (a1 : Int) (a2 : Int) (a3 : List Arc) (a4 : List Sta) (a5 : Int) (a6 : Int) (a7 : Int) (a8 : List Arc) (a9 : List (ByteArray × Sta)) := ([(.i a0), (.i a1), (.i a2), (.ro (.arcs a3)), (.rs (.nets (List.drop (a4.length + 1 - 20) (a4 ++ [⟨a5, a6, a7, a8, []⟩])))), (.dm a9)] : List V1)
abbrev ZbE10 := ([(2, .p 102), (4, .p 104), (7, .p 107)] : List (Nat × AV))
abbrev ZbE11 := ([(2, .p 102), (4, .p 104), (7, .p 107), (8, .i 0)] : List (Nat × AV))
abbrev ZbE12 (a0 : Int) := ([(2, .p 102), (3, .p 103), (4, .p 104), (7, .p 107), (8, .i 0), (86, .one (.bool ((decide (a0 < 0)) || (decide ((10000 : Int) < a0)))))] : List (Nat × AV))
abbrev ZbE13 (a0 : Int) (a1 : List Arc) := ([(2, .p 102), (3, .p 103), (4, .p 104), (7, .p 107), (8, .i 0), (61, .one (.bool ((decide (a0 < 0)) || (decide (((a1.length : Nat) : Int) ≤ a0)))))] : List (Nat × AV))
abbrev ZbE14 (a0 : Int) (a1 : Int) (a2 : Int) (a3 : List Arc) := ((107, .box 1 4 (ZbE3 a0 a1 a2 a3)) : Nat × Obj)
abbrev ZbE15 (a0 : Int) := ([(2, .p 102), (3, .p 103), (4, .p 104), (7, .p 107), (95, .one (.bool (decide (a0 = 5))))] : List (Nat × AV))
abbrev ZbE16 := ([(2, .p 102), (3, .p 103), (4, .p 104), (7, .p 107)] : List (Nat × AV))
theorem ref_DoOf (n s t : Int) (es : List Arc) (O : List Sta) (S : List (ByteArray × Sta)) (k a b m : Int) (w : ByteArray) (hO : O.length ≤ 20) (hE : netErr n s t es = 0) (hSn : (S.map (·.1)).Nodup) : ACall Tryd.prog 9 [.agg (ZbE0 n s t es O S), .agg (ZbE4 k a b m w)] [] (fun ov oh => ∃ (n9 s9 t9 : Int) (es9 : List Arc) (O9 : List Sta) (S9 : List (ByteArray × Sta)) (x9 e9 : Int), (RefR n s t es O S k a b m w n9 s9 t9 es9 O9 S9 x9 e9) ∧ ov = .tup [(true, (ZbE0 n9 s9 t9 es9 O9 S9)), (false, [(.i x9)]), (false, [(.i e9)])] ∧ oh = []) := by
 refine acall_intro hT Tryd.func9 rfl (by kernel_rfl) rfl (by kernel_rfl) ?_
 have hok := netErr_ok hE
 have hle := hok.len
 refine kq [] ⟨112, [(2, .p 102), (3, .p 103), (4, .p 104)], [(ZbE5 n s t es O S), (103, .box 1 5 (ZbE4 k a b m w)), ZbE1]⟩ hT (by kernel_rfl) trivial ?_
 refine kq [(0 < 1), (0 < 1)] ⟨112, ZbE16, [(ZbE5 n s t es O S), (103, .box 1 5 (ZbE4 k a b m w)), ZbE1, (ZbE14 n s t es)]⟩ hT (by kernel_rfl) ⟨(by decide), (by decide), trivial⟩ ?_
 refine awp_seq (awp_region ?_)
 refine ko 2 [(0 < 1)] ⟨112, [(2, .p 102), (3, .p 103), (4, .p 104), (7, .p 107), (12, .one (.ro (.arcs es)))], [(ZbE5 n s t es O S), (103, .box 1 5 (ZbE4 k a b m w)), ZbE1, (ZbE14 n s t es)]⟩ hT (by kernel_rfl) (by kernel_rfl) ⟨(by decide), trivial⟩ ?_
 refine aops_call [] [(9001, 113)] false ⟨true, [], 11, [.one (.ro (.arcs es))], []⟩ [.one (.ro (.arcs es))] (sm := ⟨112, [(2, .p 102), (3, .p 103), (4, .p 104), (7, .p 107), (12, .one (.ro (.arcs es))), (13, .whn false (.one .any))], [(ZbE5 n s t es O S), (103, .box 1 5 (ZbE4 k a b m w)), ZbE1, (ZbE14 n s t es)]⟩) (by kernel_rfl) (by kernel_rfl) (by decide) (fun _ => trivial) rfl (fun _ => clone_arcs es (by first | omega | (simp; omega))) (fun _ v Hr hv => ?_) (fun h => by cases h)
 obtain ⟨rfl, rfl⟩ := hv
 refine ⟨⟨112, [(2, .p 102), (3, .p 103), (4, .p 104), (7, .p 107), (12, .one (.ro (.arcs es))), (13, .w 113 es.length)], [(ZbE5 n s t es O S), (103, .box 1 5 (ZbE4 k a b m w)), ZbE1, (ZbE14 n s t es), (113, .fa es)]⟩, by kernel_rfl, ?_⟩
 refine ko 2 [(0 < 1)] ⟨112, ZbE16, (ZbE2 n s t es O S k a b m w)⟩ hT (by kernel_rfl) (by kernel_rfl) ⟨(by decide), trivial⟩ ?_
 refine aops_end_seq (by kernel_rfl) ?_
 refine kq [] ⟨112, [(2, .p 102), (3, .p 103), (4, .p 104), (7, .p 107), (8, .i 0)], (ZbE2 n s t es O S k a b m w)⟩ hT (by kernel_rfl) trivial ?_
 refine awp_seq ?_
 refine kq [(0 < 1)] ⟨112, [(2, .p 102), (3, .p 103), (4, .p 104), (7, .p 107), (8, .i 0), (16, .i k)], (ZbE2 n s t es O S k a b m w)⟩ hT (by kernel_rfl) ⟨(by decide), trivial⟩ ?_
 refine awp_join_tail (fun σ => ∃ (n8 s8 t8 e8 : Int) (E8 : List Arc), (ChgR n s t es k a b m n8 s8 t8 E8 e8) ∧ σ = ⟨112, [(2, .p 102), (4, .p 104), (7, .p 107), (8, .i e8)], [(ZbE5 n s t es O S), ZbE1, (ZbE14 n8 s8 t8 E8)]⟩) ?_ ?_
 ·
  refine awp_block ?_
  refine kq [] ⟨112, [(2, .p 102), (3, .p 103), (4, .p 104), (7, .p 107), (8, .i 0), (16, .i k), (23, .one (.bool (decide (k = 1))))], (ZbE2 n s t es O S k a b m w)⟩ hT (by kernel_rfl) trivial ?_
  refine awp_cond (b := (decide (k = 1))) (by kernel_rfl) (fun c6 => ?_) (fun c6 => ?_)
  ·
   try simp only [bs] at c6
   refine kq [(0 < 1), (0 < 1), (0 < 1), (0 < 1)] ⟨112, ZbE10, [(ZbE5 n s t es O S), ZbE1, (107, .box 1 4 [(.i m), (.i a), (.i b), .nils])]⟩ hT (by kernel_rfl) ⟨(by decide), (by decide), (by decide), (by decide), trivial⟩ ?_
   refine awp_weak (awk_boxcell 107 3 1 4 [(.i m), (.i a), (.i b), .nils] (.nils) ((.ro (.arcs []))) _ (by kernel_rfl) rfl (wkv_nil0 rfl)) ?_
   refine awp_region ?_
   refine ko 1 [(0 < 1)] ⟨112, [(2, .p 102), (4, .p 104), (7, .p 107), (32, .agg (ZbE8 m a b))], [(ZbE5 n s t es O S), ZbE1, (107, .box 1 4 (ZbE8 m a b))]⟩ hT (by kernel_rfl) (by kernel_rfl) ⟨(by decide), trivial⟩ ?_
   refine aops_pure false ⟨true, [], 22, [.agg (ZbE8 m a b)], []⟩ [.agg (ZbE8 m a b)] (.i (netErr m a b [])) ⟨112, [(2, .p 102), (4, .p 104), (7, .p 107), (32, .agg (ZbE8 m a b)), (33, .i (netErr m a b []))], [(ZbE5 n s t es O S), ZbE1, (107, .box 1 4 (ZbE8 m a b))]⟩ (by kernel_rfl) (by kernel_rfl) (fun _ => trivial) rfl (fun _ => ref_NetErr m a b []) ?_
   refine ko 1 [] ⟨112, [(2, .p 102), (4, .p 104), (7, .p 107), (8, .i (netErr m a b []))], [(ZbE5 n s t es O S), ZbE1, (107, .box 1 4 (ZbE8 m a b))]⟩ hT (by kernel_rfl) (by kernel_rfl) trivial ?_
   refine aops_end (by kernel_rfl) ?_
   exact jend ⟨m, a, b, (netErr m a b []), [], (by exact .net (by omega)), (by kernel_rfl)⟩
  ·
   try simp only [bs] at c6
   refine kq [] ⟨112, [(2, .p 102), (3, .p 103), (4, .p 104), (7, .p 107), (8, .i 0), (16, .i k), (34, .one (.bool (decide (k = 2))))], (ZbE2 n s t es O S k a b m w)⟩ hT (by kernel_rfl) trivial ?_
   refine awp_cond (b := (decide (k = 2))) (by kernel_rfl) (fun c9 => ?_) (fun c9 => ?_)
   ·
    try simp only [bs] at c9
    refine awp_seq (awp_region ?_)
    refine ko 13 [(0 < 1), (0 < 1), (0 < 1), (0 < 1), (es.length = es.length), ((es.length + 1) * 24 ≤ 140737488355328), ((es.length + 1) ≤ 9223372036854775807), (0 < 1)] ⟨112, ZbE10, [(ZbE5 n s t es O S), ZbE1, (107, .box 1 4 [(.i n), (.i s), (.i t), (.w 113 (es.length + 1))]), (113, .fa (es ++ [⟨a, b, m⟩]))]⟩ hT (by kernel_rfl) (by kernel_rfl) ⟨(by decide), (by decide), (by decide), (by decide), (by omega), (by omega), (by omega), (by decide), trivial⟩ ?_
    refine aops_end_seq (by kernel_rfl) ?_
    refine awp_weak (awk_seal 113 (s' := ⟨112, ZbE10, [(ZbE5 n s t es O S), ZbE1, (107, .box 1 4 [(.i n), (.i s), (.i t), (.ro (.arcs (List.take (es.length + 1) (es ++ [⟨a, b, m⟩]))))])]⟩) (by kernel_rfl)) ?_
    rw [show (List.take (es.length + 1) (es ++ [⟨a, b, m⟩])) = (es ++ [⟨a, b, m⟩]) from List.take_of_length_le (by first | omega | simp)]
    refine awp_region ?_
    refine ko 1 [(0 < 1)] ⟨112, [(2, .p 102), (4, .p 104), (7, .p 107), (48, .agg (ZbE7 n s t es a b m))], [(ZbE5 n s t es O S), ZbE1, (107, .box 1 4 (ZbE7 n s t es a b m))]⟩ hT (by kernel_rfl) (by kernel_rfl) ⟨(by decide), trivial⟩ ?_
    refine aops_pure false ⟨true, [], 22, [.agg (ZbE7 n s t es a b m)], []⟩ [.agg (ZbE7 n s t es a b m)] (.i (netErr n s t (es ++ [⟨a, b, m⟩]))) ⟨112, [(2, .p 102), (4, .p 104), (7, .p 107), (48, .agg (ZbE7 n s t es a b m)), (49, .i (netErr n s t (es ++ [⟨a, b, m⟩])))], [(ZbE5 n s t es O S), ZbE1, (107, .box 1 4 (ZbE7 n s t es a b m))]⟩ (by kernel_rfl) (by kernel_rfl) (fun _ => trivial) rfl (fun _ => ref_NetErr n s t (es ++ [⟨a, b, m⟩])) ?_
    refine ko 1 [] ⟨112, [(2, .p 102), (4, .p 104), (7, .p 107), (8, .i (netErr n s t (es ++ [⟨a, b, m⟩])))], [(ZbE5 n s t es O S), ZbE1, (107, .box 1 4 (ZbE7 n s t es a b m))]⟩ hT (by kernel_rfl) (by kernel_rfl) trivial ?_
    refine aops_end (by kernel_rfl) ?_
    exact jend ⟨n, s, t, (netErr n s t (es ++ [⟨a, b, m⟩])), (es ++ [⟨a, b, m⟩]), (by exact .arc (by omega)), (by kernel_rfl)⟩
   ·
    try simp only [bs] at c9
    refine awp_seq ?_
    refine kq [] ⟨112, [(2, .p 102), (3, .p 103), (4, .p 104), (7, .p 107), (8, .i 0), (16, .i k), (50, .one (.bool (decide (k = 3))))], (ZbE2 n s t es O S k a b m w)⟩ hT (by kernel_rfl) trivial ?_
    refine awp_cond_join_tail (b := (decide (k = 3))) (fun bb => ⟨112, [(2, .p 102), (3, .p 103), (4, .p 104), (7, .p 107), (8, .i 0), (16, .i k), (50, .one (.bool (cond bb (decide (k = 3)) (decide (k = 4)))))], (ZbE2 n s t es O S k a b m w)⟩) (by kernel_rfl) (fun c12 => ?_) (fun c12 => ?_) ?_
    ·
     try simp only [bs] at c12
     have hk34 : k = 3 ∨ k = 4 := by first | omega | (by_cases q : k = 3; exact .inl q; simp [q] at c12; omega)
     refine awp_skip ?_
     exact jend (by kernel_rfl)
    ·
     try simp only [bs] at c12
     try (have hk34n : k ≠ 3 ∧ k ≠ 4 := by first | omega | (by_cases q : k = 3 <;> simp [q] at c12 <;> omega))
     refine kr [] ⟨112, [(2, .p 102), (3, .p 103), (4, .p 104), (7, .p 107), (8, .i 0), (16, .i k), (50, .one (.bool (decide (k = 4))))], (ZbE2 n s t es O S k a b m w)⟩ hT (by kernel_rfl) trivial ?_
     exact jend (by kernel_rfl)
    refine awp_cond (b := (cond (decide (k = 3)) (decide (k = 3)) (decide (k = 4)))) (by kernel_rfl) (fun c12 => ?_) (fun c12 => ?_)
    ·
     try simp only [bs] at c12
     have hk34 : k = 3 ∨ k = 4 := by first | omega | (by_cases q : k = 3; exact .inl q; simp [q] at c12; omega)
     refine awp_block ?_
     refine kq [(0 < 1), (ZbET (ZbEb0 a)), (ZbEL (ZbEb0 a)), (ZbET (ZbEb0 a)), (ZbEL (ZbEb0 a)), (ZbET (ZbEb0 a)), (ZbET (ZbEb0 a)), (ZbET (ZbEb0 a)), (ZbEG (ZbEb0 a))] ⟨112, (ZbE13 a es), (ZbE2 n s t es O S k a b m w)⟩ hT (by kernel_rfl) ⟨(by decide), (fun _ h => h), (fun _ => by decide), (fun _ h => h), (fun _ => by decide), (fun _ h => h), (fun _ h => h), (fun _ h => h), id, trivial⟩ ?_
     refine awp_cond (b := ((decide (a < 0)) || (decide (((es.length : Nat) : Int) ≤ a)))) (by kernel_rfl) (fun c15 => ?_) (fun c15 => ?_)
     ·
      try simp only [bs] at c15
      refine awp_weak (awk_seal 113 (s' := ⟨112, (ZbE13 a es), [(ZbE5 n s t es O S), (103, .box 1 5 (ZbE4 k a b m w)), ZbE1, (107, .box 1 4 [(.i n), (.i s), (.i t), (.ro (.arcs (List.take es.length es)))])]⟩) (by kernel_rfl)) ?_
      rw [show (List.take es.length es) = es from List.take_of_length_le (by first | omega | simp)]
      refine kr [] ⟨112, [(2, .p 102), (4, .p 104), (7, .p 107), (8, .i 5)], [(ZbE5 n s t es O S), ZbE1, (ZbE14 n s t es)]⟩ hT (by kernel_rfl) trivial ?_
      exact jend ⟨n, s, t, 5, es, (by exact .none_ (by omega) (by omega)), (by kernel_rfl)⟩
     ·
      try simp only [bs] at c15
      have hdl := delA_len (es := es) (i := Int.toNat a) (by omega)
      obtain ⟨E3, hE3⟩ : ∃ x, (List.take (es.length - 1) (delA es (Int.toNat a))) = x := ⟨_, rfl⟩
      have hE3l : es.length - 1 = E3.length := by rw [← hE3, List.length_take]; omega
      have hE4 : E3 = dropAt es a.toNat := by rw [← hE3, delA_take (by omega)]
      refine kq [(0 < 1)] ⟨112, [(2, .p 102), (3, .p 103), (4, .p 104), (7, .p 107), (8, .i 0), (73, .one (.bool (decide (k = 4))))], (ZbE2 n s t es O S k a b m w)⟩ hT (by kernel_rfl) ⟨(by decide), trivial⟩ ?_
      refine awp_cond (b := (decide (k = 4))) (by kernel_rfl) (fun c17 => ?_) (fun c17 => ?_)
      ·
       try simp only [bs] at c17
       refine awp_region ?_
       refine ko 7 [(0 < 1), (0 < 1), (0 < 1), (-9223372036854775808 ≤ (a + 1) ∧ (a + 1) ≤ 9223372036854775807)] ⟨112, [(2, .p 102), (4, .p 104), (7, .p 107), (8, .i 0), (78, .w 113 es.length), (80, .i a), (83, .i (a + 1))], [(ZbE5 n s t es O S), ZbE1, (ZbE6 n s t es), (113, .fa es)]⟩ hT (by kernel_rfl) (by kernel_rfl) ⟨(by decide), (by decide), (by decide), (by omega), trivial⟩ ?_
       refine aops_call [(1, 113)] [] false ⟨true, [], 23, [.w 1 es.length, .i a, .i (a + 1)], [(1, .fa es)]⟩ [.w 1 es.length, .i a, .i (a + 1)] (sm := ⟨112, [(2, .p 102), (4, .p 104), (7, .p 107), (8, .i 0), (78, .w 113 es.length), (80, .i a), (83, .i (a + 1)), (84, .whn false (.one .any))], [(ZbE5 n s t es O S), ZbE1, (ZbE6 n s t es), (113, .fa es)]⟩) (by kernel_rfl) (by kernel_rfl) (by decide) (fun _ => trivial) rfl (fun _ => del_arcs 1 es a (by omega) (by omega)) (fun _ v Hr hv => ?_) (fun h => by cases h)
       obtain ⟨rfl, rfl⟩ := hv
       refine ⟨⟨112, [(2, .p 102), (4, .p 104), (7, .p 107), (8, .i 0), (78, .w 113 es.length), (80, .i a), (83, .i (a + 1)), (84, .w 113 (es.length - 1))], [(ZbE5 n s t es O S), ZbE1, (ZbE6 n s t es), (113, .fa (delA es (Int.toNat a)))]⟩, by kernel_rfl, ?_⟩
       refine ko 1 [] ⟨112, [(2, .p 102), (4, .p 104), (7, .p 107), (8, .i 0), (84, .w 113 (es.length - 1)), (85, .one (.ptr 107 0 3))], [(ZbE5 n s t es O S), ZbE1, (ZbE6 n s t es), (113, .fa (delA es (Int.toNat a)))]⟩ hT (by kernel_rfl) (by kernel_rfl) trivial ?_
       refine aops_weak (s' := ⟨112, [(2, .p 102), (4, .p 104), (7, .p 107), (8, .i 0), (84, .w 113 (es.length - 1)), (85, .one (.ptr 107 0 3))], [(ZbE5 n s t es O S), ZbE1, (107, .box 1 4 [(.i n), (.i s), (.i t), .any]), (113, .fa (List.take (es.length - 1) (delA es (Int.toNat a))))]⟩) (awk_trunc 113 84 (es.length - 1) (.arcs (delA es (Int.toNat a))) _ (by kernel_rfl) (by kernel_rfl) (by decide) (by show (es.length - 1) ≤ List.length (delA es (Int.toNat a)); omega)) ?_
       rw [show (List.take (es.length - 1) (delA es (Int.toNat a))) = E3 from hE3]
       rw [show (es.length - 1) = E3.length from hE3l]
       refine aops_weak (awk_seal 113 (s' := ⟨112, [(2, .p 102), (4, .p 104), (7, .p 107), (8, .i 0), (84, .one (.ro (.arcs (List.take E3.length E3)))), (85, .one (.ptr 107 0 3))], [(ZbE5 n s t es O S), ZbE1, (107, .box 1 4 [(.i n), (.i s), (.i t), .any])]⟩) (by kernel_rfl)) ?_
       rw [show (List.take E3.length E3) = E3 from List.take_of_length_le (by first | omega | simp)]
       refine ko 1 [(0 < 1)] ⟨112, ZbE11, [(ZbE5 n s t es O S), ZbE1, (ZbE14 n s t E3)]⟩ hT (by kernel_rfl) (by kernel_rfl) ⟨(by decide), trivial⟩ ?_
       refine aops_end (by kernel_rfl) ?_
       exact jend ⟨n, s, t, 0, E3, (by rw [hE4]; exact .drop (by omega) (by omega)), (by kernel_rfl)⟩
      ·
       try simp only [bs] at c17
       refine kq [(0 < 1), (ZbET (ZbEb0 m)), (ZbEL (ZbEb0 m)), (ZbET (ZbEb0 m)), (ZbEG (ZbEb0 m))] ⟨112, (ZbE12 m), (ZbE2 n s t es O S k a b m w)⟩ hT (by kernel_rfl) ⟨(by decide), (fun _ h => h), (fun _ => by decide), (fun _ h => h), id, trivial⟩ ?_
       refine awp_cond (b := ((decide (m < 0)) || (decide ((10000 : Int) < m)))) (by kernel_rfl) (fun c19 => ?_) (fun c19 => ?_)
       ·
        try simp only [bs] at c19
        refine awp_weak (awk_seal 113 (s' := ⟨112, (ZbE12 m), [(ZbE5 n s t es O S), (103, .box 1 5 (ZbE4 k a b m w)), ZbE1, (107, .box 1 4 [(.i n), (.i s), (.i t), (.ro (.arcs (List.take es.length es)))])]⟩) (by kernel_rfl)) ?_
        rw [show (List.take es.length es) = es from List.take_of_length_le (by first | omega | simp)]
        refine kr [] ⟨112, [(2, .p 102), (4, .p 104), (7, .p 107), (8, .i 1)], [(ZbE5 n s t es O S), ZbE1, (ZbE14 n s t es)]⟩ hT (by kernel_rfl) trivial ?_
        exact jend ⟨n, s, t, 1, es, (by exact .bad (by omega) (by omega) (by omega)), (by kernel_rfl)⟩
       ·
        try simp only [bs] at c19
        refine awp_region ?_
        refine ko 9 [(0 < 1), (0 < 1), (0 < 1), ((0 : Int) ≤ a), (a < ((es.length : Nat) : Int)), ((Int.toNat a) < es.length)] ⟨112, ZbE11, [(ZbE5 n s t es O S), ZbE1, (ZbE6 n s t es), (113, .fa (List.set es (Int.toNat a) (⟨((List.getD es (Int.toNat a) default).src), ((List.getD es (Int.toNat a) default).dst), m⟩)))]⟩ hT (by kernel_rfl) (by kernel_rfl) ⟨(by decide), (by decide), (by decide), (by omega), (by omega), (by omega), trivial⟩ ?_
        refine aops_weak (awk_seal 113 (s' := ⟨112, ZbE11, [(ZbE5 n s t es O S), ZbE1, (107, .box 1 4 [(.i n), (.i s), (.i t), (.ro (.arcs (List.take es.length (List.set es (Int.toNat a) (⟨((List.getD es (Int.toNat a) default).src), ((List.getD es (Int.toNat a) default).dst), m⟩)))))])]⟩) (by kernel_rfl)) ?_
        rw [show (List.take es.length (List.set es (Int.toNat a) (⟨((List.getD es (Int.toNat a) default).src), ((List.getD es (Int.toNat a) default).dst), m⟩))) = (List.set es (Int.toNat a) (⟨((List.getD es (Int.toNat a) default).src), ((List.getD es (Int.toNat a) default).dst), m⟩)) from List.take_of_length_le (by first | omega | simp)]
        refine aops_end (by kernel_rfl) ?_
        exact jend ⟨n, s, t, 0, (List.set es (Int.toNat a) (⟨((List.getD es (Int.toNat a) default).src), ((List.getD es (Int.toNat a) default).dst), m⟩)), (by exact .cap (by omega) (by omega) (by omega)), (by kernel_rfl)⟩
    ·
     try simp only [bs] at c12
     try (have hk34n : k ≠ 3 ∧ k ≠ 4 := by first | omega | (by_cases q : k = 3 <;> simp [q] at c12 <;> omega))
     refine kq [] ⟨112, (ZbE15 k), (ZbE2 n s t es O S k a b m w)⟩ hT (by kernel_rfl) trivial ?_
     refine awp_cond (b := (decide (k = 5))) (by kernel_rfl) (fun c21 => ?_) (fun c21 => ?_)
     ·
      try simp only [bs] at c21
      refine awp_weak (awk_seal 113 (s' := ⟨112, (ZbE15 k), [(ZbE5 n s t es O S), (103, .box 1 5 (ZbE4 k a b m w)), ZbE1, (107, .box 1 4 [(.i n), (.i s), (.i t), (.ro (.arcs (List.take es.length es)))])]⟩) (by kernel_rfl)) ?_
      rw [show (List.take es.length es) = es from List.take_of_length_le (by first | omega | simp)]
      refine awp_seq (awp_any [] false [2, 4, 7] [102, 104, 107] 3 [(0, []), (1, [(0 < 1)]), (2, []), (3, [(0 < 1)]), (4, []), (5, [(0 < 1)]), (6, []), (7, [(0 < 1)])] ⟨112, ZbE10, [(ZbE5 n s t es O S), ZbE1, (ZbE14 n a b es)]⟩ (by kernel_rfl) (by kernel_rfl) hT (by kernel_rfl) ⟨trivial, ⟨(by decide), trivial⟩, trivial, ⟨(by decide), trivial⟩, trivial, ⟨(by decide), trivial⟩, trivial, ⟨(by decide), trivial⟩, trivial⟩ ?_)
      refine awp_region ?_
      refine ko 1 [(0 < 1)] ⟨112, [(2, .p 102), (4, .p 104), (7, .p 107), (103, .agg (ZbE3 n a b es))], [(ZbE5 n s t es O S), ZbE1, (ZbE14 n a b es)]⟩ hT (by kernel_rfl) (by kernel_rfl) ⟨(by decide), trivial⟩ ?_
      refine aops_pure false ⟨true, [], 22, [.agg (ZbE3 n a b es)], []⟩ [.agg (ZbE3 n a b es)] (.i (netErr n a b es)) ⟨112, [(2, .p 102), (4, .p 104), (7, .p 107), (103, .agg (ZbE3 n a b es)), (104, .i (netErr n a b es))], [(ZbE5 n s t es O S), ZbE1, (ZbE14 n a b es)]⟩ (by kernel_rfl) (by kernel_rfl) (fun _ => trivial) rfl (fun _ => ref_NetErr n a b es) ?_
      refine ko 1 [] ⟨112, [(2, .p 102), (4, .p 104), (7, .p 107), (8, .i (netErr n a b es))], [(ZbE5 n s t es O S), ZbE1, (ZbE14 n a b es)]⟩ hT (by kernel_rfl) (by kernel_rfl) trivial ?_
      refine aops_end (by kernel_rfl) ?_
      exact jend ⟨n, a, b, (netErr n a b es), es, (by exact .ends (by omega)), (by kernel_rfl)⟩
     ·
      try simp only [bs] at c21
      refine awp_seq (awp_region ?_)
      refine ko 2 [(0 < 1), (0 < 1)] ⟨112, [(4, .p 104), (17, .agg (ZbE0 n s t es O S)), (18, .agg (ZbE4 k a b m w))], [ZbE1]⟩ hT (by kernel_rfl) (by kernel_rfl) ⟨(by decide), (by decide), trivial⟩ ?_
      refine aops_call [] [] false ⟨true, [], 24, [.agg (ZbE0 n s t es O S), .agg (ZbE4 k a b m w)], []⟩ [.agg (ZbE0 n s t es O S), .agg (ZbE4 k a b m w)] (sm := ⟨112, [(4, .p 104), (17, .agg (ZbE0 n s t es O S)), (18, .agg (ZbE4 k a b m w)), (19, .whn false (.one .any))], [ZbE1]⟩) (by kernel_rfl) (by kernel_rfl) (by decide) (fun _ => trivial) rfl (fun _ => ref_otherOf n s t es O S k a b m w (by omega) (by assumption) (by assumption)) (fun _ v Hr hv => ?_) (fun h => by cases h)
      obtain ⟨n5, s5, t5, es5, O5, S5, x5, e5, ho5, rfl, rfl⟩ := hv
      refine ⟨⟨112, [(4, .p 104), (17, .agg (ZbE0 n s t es O S)), (18, .agg (ZbE4 k a b m w)), (19, .tup [(true, (ZbE0 n5 s5 t5 es5 O5 S5)), (false, [(.i x5)]), (false, [(.i e5)])])], [ZbE1]⟩, by kernel_rfl, ?_⟩
      refine ko 6 [(0 < 1)] ⟨112, [(4, .p 104), (5, .i x5), (6, .i e5)], [(104, .box 1 6 (ZbE0 n5 s5 t5 es5 O5 S5))]⟩ hT (by kernel_rfl) (by kernel_rfl) ⟨(by decide), trivial⟩ ?_
      refine aops_end_seq (by kernel_rfl) ?_
      refine awp_ret ?_
      refine kRet.ret _ [] [(0 < 1)] (.tup [(true, (ZbE0 n5 s5 t5 es5 O5 S5)), (false, [(.i x5)]), (false, [(.i e5)])]) [] (by kernel_rfl) ⟨(by decide), trivial⟩ ?_
      exact ⟨n5, s5, t5, es5, O5, S5, x5, e5, (by exact .other (by omega) ho5), (by kernel_rfl), (by kernel_rfl)⟩
 rintro _ ⟨n8, s8, t8, e8, E8, hC, rfl⟩
 refine awp_seq ?_
 refine kq [] ⟨112, [(2, .p 102), (4, .p 104), (7, .p 107), (8, .i e8), (106, .one (.bool (decide (e8 ≠ 0))))], [(ZbE5 n s t es O S), ZbE1, (ZbE14 n8 s8 t8 E8)]⟩ hT (by kernel_rfl) trivial ?_
 refine awp_cond (b := (decide (e8 ≠ 0))) (by kernel_rfl) (fun c24 => ?_) (fun c24 => ?_)
 ·
  try simp only [bs] at c24
  refine kq [(0 < 1), (0 < 1)] ⟨112, [(4, .p 104), (5, .i 0), (6, .i e8)], [(104, .box 1 6 (ZbE0 n s t es O S))]⟩ hT (by kernel_rfl) ⟨(by decide), (by decide), trivial⟩ ?_
  refine awp_ret ?_
  refine kRet.ret _ [] [(0 < 1)] (.tup [(true, (ZbE0 n s t es O S)), (false, [(.i 0)]), (false, [(.i e8)])]) [] (by kernel_rfl) ⟨(by decide), trivial⟩ ?_
  exact ⟨n, s, t, es, O, S, 0, e8, (by exact .err hC (by omega)), (by kernel_rfl), (by kernel_rfl)⟩
 ·
  try simp only [bs] at c24
  refine awp_skip ?_
  refine awp_seq (awp_region ?_)
  refine ko 2 [(0 < 1), (0 < 1)] ⟨112, [(4, .p 104), (109, .agg (ZbE0 n s t es O S)), (110, .agg (ZbE3 n8 s8 t8 E8))], [ZbE1]⟩ hT (by kernel_rfl) (by kernel_rfl) ⟨(by decide), (by decide), trivial⟩ ?_
  refine aops_pure false ⟨true, [], 25, [.agg (ZbE0 n s t es O S), .agg (ZbE3 n8 s8 t8 E8)], []⟩ [.agg (ZbE0 n s t es O S), .agg (ZbE3 n8 s8 t8 E8)] (.agg (ZbE9 n8 s8 t8 E8 O n s t es S)) ⟨112, [(4, .p 104), (109, .agg (ZbE0 n s t es O S)), (110, .agg (ZbE3 n8 s8 t8 E8)), (111, .agg (ZbE9 n8 s8 t8 E8 O n s t es S))], [ZbE1]⟩ (by kernel_rfl) (by kernel_rfl) (fun _ => trivial) rfl (fun _ => ref_changed n s t es O S n8 s8 t8 E8 (by omega)) ?_
  refine ko 3 [(0 < 1)] ⟨112, [(4, .p 104), (5, .i 0), (6, .i 0)], [(104, .box 1 6 (ZbE9 n8 s8 t8 E8 O n s t es S))]⟩ hT (by kernel_rfl) (by kernel_rfl) ⟨(by decide), trivial⟩ ?_
  refine aops_end_seq (by kernel_rfl) ?_
  refine awp_ret ?_
  refine kRet.ret _ [] [(0 < 1)] (.tup [(true, (ZbE9 n8 s8 t8 E8 O n s t es S)), (false, [(.i 0)]), (false, [(.i 0)])]) [] (by kernel_rfl) ⟨(by decide), trivial⟩ ?_
  exact ⟨n8, s8, t8, E8, (List.drop (O.length + 1 - 20) (O ++ [⟨n, s, t, es, []⟩])), S, 0, 0, (by exact .chg hC (by omega)), (by kernel_rfl), (by kernel_rfl)⟩
end Go.Ab
set_option maxRecDepth 100000
namespace Go.Ab
open Go Go.Proofs
abbrev Zbv14 := ([(.i 2), (.i 0), (.i 1), (.ro (.arcs [])), (.rs (.nets [])), (.dm [])] : List V1)
abbrev Zbv16 := ((112, .box 1 8 [(.i 2), (.i 0), (.i 1), (.ro (.arcs [])), (.ro (.ints .i64 [])), (.w 10112 0), (.w 20112 0), (.w 30112 0)]) : Nat × Obj)
abbrev Zbv0 := ([(104, .box 1 6 Zbv14), Zbv16, (10112, .recs (.stas [])), (20112, .flat (.strs [])), (30112, .recs (.stas []))] : List (Nat × Obj))
abbrev Zbv1 (a0 : List Dd) (a1) := ([(.i ((List.getD a0 a1 default).k)), (.i ((List.getD a0 a1 default).a)), (.i ((List.getD a0 a1 default).b)), (.i ((List.getD a0 a1 default).m)), (.str ((List.getD a0 a1 default).w))] : List V1)
abbrev Zbv2 (a0 : Int) (a1 : Int) (a2 : Int) (a3 : List Arc) (a4 : List Sta) (a5 : List (ByteArray × Sta)) := ([(.i a0), (.i a1), (.i a2), (.ro (.arcs a3)), (.rs (.nets a4)), (.dm a5)] : List V1)
abbrev Zbv3 := ([(.i 2), (.i 0), (.i 1), (.ro (.arcs []))] : List V1)
abbrev Zbv4 (a0 : List Dd) := ((25, .i ((a0.length : Nat) : Int)) : Nat × AV)
abbrev Zbv5 (a0 : Int) (a1 : Int) (a2 : Int) (a3 : List Arc) (a4 : List Int) (a5 : List Sta) (a6 : List ByteArray) (a7 : List Sta) := ((112, .box 1 8 [(.i a0), (.i a1), (.i a2), (.ro (.arcs a3)), (.ro (.ints .i64 a4)), (.w 10112 a5.length), (.w 20112 a6.length), (.w 30112 a7.length)]) : Nat × Obj)
abbrev Zbv6 (a0) := ((26, .i (a0 : Int)) : Nat × AV)
abbrev Zbv7 (a0 : Int) (a1 : Int) (a2 : Int) (a3 : List Arc) := ([(.i a0), (.i a1), (.i a2), (.ro (.arcs a3))] : List V1)
abbrev Zbv8 := ([Zbv16, (10112, .recs (.stas [])), (20112, .flat (.strs [])), (30112, .recs (.stas []))] : List (Nat × Obj))
abbrev Zbv9 (a0 : Int) (a1 : Int) (a2 : Int) (a3 : List Arc) (a4 : List Sta) (a5 : List (ByteArray × Sta)) := ((104, .box 1 6 (Zbv2 a0 a1 a2 a3 a4 a5)) : Nat × Obj)
abbrev Zbv10 (a0 : List Dd) := ([(0, .one (.ro (.deeds a0))), (3, .p 112), (4, .p 104), (23, .one (.bool (!(decide (2 = 2 ∧ 0 = 0 ∧ 1 = 1 ∧ ([] : List Arc) = [])))))] : List (Nat × AV))
abbrev Zbv11 := ([(1, .box 1 8 [(.i 2), (.i 0), (.i 1), (.ro (.arcs [])), (.ro (.ints .i64 [])), (.w 9002 0), (.w 9003 0), (.w 9004 0)]), (9002, .recs (.stas [])), (9003, .flat (.strs [])), (9004, .recs (.stas []))] : List (Nat × Obj))
abbrev Zbv12 := ((17, .whn true (.p 112)) : Nat × AV)
abbrev Zbv13 := ((53, .whn true (.p 112)) : Nat × AV)
abbrev Zbv15 := ((.bool (decide (2 = 2 ∧ 0 = 0 ∧ 1 = 1 ∧ ([] : List Arc) = []))) : V1)
abbrev Zbv17 := ((19, .whn true (.p 104)) : Nat × AV)
abbrev Zbv18 := ((55, .whn true (.p 104)) : Nat × AV)
theorem storePlays_law (D : List Dd) (hD : D.length ≤ 9223372036854775807) : ACall Tryd.prog 3 [.one (.ro (.deeds D))] [] (fun ov oh => ov = .one (.bool true) ∧ oh = []) := by
 refine acall_intro hT Tryd.func3 rfl (by kernel_rfl) rfl (by kernel_rfl) ?_
 refine kq [] ⟨61, [(0, .one (.ro (.deeds D)))], []⟩ hT (by kernel_rfl) trivial ?_
 refine awp_seq (awp_region ?_)
 refine aops_call [] [(9001, 112), (9002, 10112), (9003, 20112), (9004, 30112)] false ⟨true, [], 4, [], []⟩ [] (sm := ⟨61, [(0, .one (.ro (.deeds D))), (12, .whn false (.one .any))], []⟩) (by kernel_rfl) (by kernel_rfl) (by decide) (fun _ => trivial) rfl (fun _ => store_new) (fun _ v Hr hv => ?_) (fun h => by cases h)
 obtain ⟨rfl, rfl⟩ := hv
 refine ⟨⟨61, [(0, .one (.ro (.deeds D))), (12, .p 112)], Zbv8⟩, by kernel_rfl, ?_⟩
 refine ko 1 [] ⟨61, [(0, .one (.ro (.deeds D))), (3, .p 112)], Zbv8⟩ hT (by kernel_rfl) (by kernel_rfl) trivial ?_
 refine aops_end_seq (by kernel_rfl) ?_
 refine awp_seq (awp_region ?_)
 refine aops_pure false ⟨true, [], 5, [], []⟩ [] (.agg Zbv14) ⟨61, [(0, .one (.ro (.deeds D))), (3, .p 112), (13, .agg Zbv14)], Zbv8⟩ (by kernel_rfl) (by kernel_rfl) (fun _ => trivial) rfl (fun _ => ref_newStore) ?_
 refine ko 2 [(0 < 1)] ⟨61, [(0, .one (.ro (.deeds D))), (3, .p 112), (4, .p 104)], Zbv0⟩ hT (by kernel_rfl) (by kernel_rfl) ⟨(by decide), trivial⟩ ?_
 refine aops_end_seq (by kernel_rfl) ?_
 refine awp_seq ?_
 refine awp_join (fun σ => σ = ⟨61, (Zbv10 D), Zbv0⟩) ?_ ?_
 ·
  refine awp_calm3 [] false [[], [0], [0, 1], [0, 1, 2], [0, 1, 2, 3], [0, 1, 2], [0, 1, 2, 5], [0, 1, 2, 3, 4, 5, 6], [0, 1, 2, 3, 4, 5, 6, 7], [0, 1, 2, 3, 4, 5, 6, 7, 8]] 3 7 #[true, true, true, false, false, false, false, false, false, false] [0, 3, 4, 16] [104, 112, 10112, 20112, 30112] [(0, []), (1, []), (2, [])] ⟨61, [(0, .one (.ro (.deeds D))), (3, .p 112), (4, .p 104), (16, .one (.bool false))], Zbv0⟩ (by kernel_rfl) hT (by kernel_rfl) (by kernel_rfl) (by kernel_rfl) (by kernel_rfl) ⟨trivial, trivial, trivial, trivial⟩ ?_
  refine aany_walk (n := 5) (L := #[true, true, true, true, false, true, false, false, false, false]) (s' := ⟨61, [(0, .one (.ro (.deeds D))), (3, .p 112), (4, .p 104), (16, .one (.bool false)), Zbv12, Zbv17], Zbv0⟩) [] false 2 [0, 3, 4, 16, 17, 19] [104, 112, 10112, 20112, 30112] [(3, []), (5, [])] (by kernel_rfl) hT (by kernel_rfl) ⟨trivial, trivial, trivial⟩ ?_
  refine aany_fork (n := 4) 4 6 (by kernel_rfl) ?_ ?_
  ·
   refine atake_call (n := 4) (k := 4) (L := #[true, true, true, true, true, true, false, false, false, false]) [(1, 112), (9002, 10112), (9003, 20112), (9004, 30112)] [(9002, 10112), (9003, 20112), (9004, 30112)] false ⟨true, [(true = true → true = true)], 7, [.p 1], Zbv11⟩ [.p 1] (sm := ⟨61, [(0, .one (.ro (.deeds D))), (3, .p 112), (4, .p 104), (16, .one (.bool false)), Zbv12, (18, .whn false (.one .any)), Zbv17], Zbv0⟩) (by kernel_rfl) (by kernel_rfl) (by kernel_rfl) (by decide) (fun _ => ⟨(fun h => h), trivial⟩) rfl (fun _ => store_net 2 0 1 [] [] [] [] [] (by first | omega | simp)) (fun _ v Hr hv => ?_) (fun h => by cases h)
   obtain ⟨rfl, rfl⟩ := hv
   refine ⟨⟨61, [(0, .one (.ro (.deeds D))), (3, .p 112), (4, .p 104), (16, .one (.bool false)), Zbv12, (18, .agg Zbv3), Zbv17], Zbv0⟩, by kernel_rfl, ?_⟩
   refine aany_weak (awk_cut [0, 3, 4, 16, 18, 19] [104, 112, 10112, 20112, 30112] _) ?_
   refine aany_end [(7, ⟨[.agg Zbv3, .agg Zbv3], .one Zbv15, [], []⟩)] false [0, 3, 4, 23] [104, 112, 10112, 20112, 30112] 1 [(6, [(true = true → (true = true → true = true)), (true = true → (0 < 1))]), (7, [(true = true → (AllP [(true = true → true = true)] ∧ [.agg Zbv3, .agg Zbv3] = ([.agg Zbv3, .agg Zbv3] : List AV) ∧ ACall Tryd.prog 6 [.agg Zbv3, .agg Zbv3] [] (fun ov oh => ov = .one Zbv15 ∧ oh = [])))]), (8, [(true = true → (true = true → true = true))]), (9, [(true = true → true = true)])] ⟨61, (Zbv10 D), Zbv0⟩ (by kernel_rfl) hT (by kernel_rfl) ⟨⟨(fun _ => (fun h => h)), (fun _ => (by decide)), trivial⟩, ⟨(fun _ => ⟨⟨(fun h => h), trivial⟩, rfl, same_net 2 0 1 [] 2 0 1 []⟩), trivial⟩, ⟨(fun _ => (fun h => h)), trivial⟩, ⟨(fun h => h), trivial⟩, trivial⟩ ?_
   exact jend (by kernel_rfl)
  ·
   refine atake_step (n := 4) (L := #[true, true, true, true, false, true, true, false, false, false]) [] false [(true = true → (true = true → true = true)), (true = true → (0 < 1))] ⟨61, [(0, .one (.ro (.deeds D))), (3, .p 112), (4, .p 104), (16, .one (.bool false)), Zbv12, Zbv17, (20, .whn true (.agg Zbv3))], Zbv0⟩ (by kernel_rfl) hT (by kernel_rfl) ⟨(fun _ => (fun h => h)), (fun _ => (by decide)), trivial⟩ ?_
   refine aany_weak (awk_cut [0, 3, 4, 16, 17, 20] [104, 112, 10112, 20112, 30112] _) ?_
   show AAny Tryd.prog _ _ _ _ ⟨61, [(0, .one (.ro (.deeds D))), (3, .p 112), (4, .p 104), (16, .one (.bool false)), Zbv12, (20, .whn true (.agg Zbv3))], Zbv0⟩
   refine aany_call (n := 3) (k := 4) (L := #[true, true, true, true, true, true, true, false, false, false]) [(1, 112), (9002, 10112), (9003, 20112), (9004, 30112)] [(9002, 10112), (9003, 20112), (9004, 30112)] false ⟨true, [(true = true → true = true)], 7, [.p 1], Zbv11⟩ [.p 1] (sm := ⟨61, [(0, .one (.ro (.deeds D))), (3, .p 112), (4, .p 104), (16, .one (.bool false)), Zbv12, (18, .whn false (.one .any)), (20, .whn true (.agg Zbv3))], Zbv0⟩) (by kernel_rfl) (by kernel_rfl) (by kernel_rfl) (by kernel_rfl) (by decide) (fun _ => ⟨(fun h => h), trivial⟩) rfl (fun _ => store_net 2 0 1 [] [] [] [] [] (by first | omega | simp)) (fun _ v Hr hv => ?_) (fun h => by cases h)
   obtain ⟨rfl, rfl⟩ := hv
   refine ⟨⟨61, [(0, .one (.ro (.deeds D))), (3, .p 112), (4, .p 104), (16, .one (.bool false)), Zbv12, (18, .agg Zbv3), (20, .whn true (.agg Zbv3))], Zbv0⟩, by kernel_rfl, ?_⟩
   refine aany_weak (awk_cut [0, 3, 4, 16, 18, 20] [104, 112, 10112, 20112, 30112] _) ?_
   refine aany_end [(7, ⟨[.agg Zbv3, .agg Zbv3], .one Zbv15, [], []⟩)] false [0, 3, 4, 23] [104, 112, 10112, 20112, 30112] 1 [(7, [(true = true → (AllP [(true = true → true = true)] ∧ [.agg Zbv3, .agg Zbv3] = ([.agg Zbv3, .agg Zbv3] : List AV) ∧ ACall Tryd.prog 6 [.agg Zbv3, .agg Zbv3] [] (fun ov oh => ov = .one Zbv15 ∧ oh = [])))]), (8, [(true = true → (true = true → true = true))]), (9, [(true = true → true = true)])] ⟨61, (Zbv10 D), Zbv0⟩ (by kernel_rfl) hT (by kernel_rfl) ⟨⟨(fun _ => ⟨⟨(fun h => h), trivial⟩, rfl, same_net 2 0 1 [] 2 0 1 []⟩), trivial⟩, ⟨(fun _ => (fun h => h)), trivial⟩, ⟨(fun h => h), trivial⟩, trivial⟩ ?_
   exact jend (by kernel_rfl)
 rintro _ rfl
 refine awp_cond (b := (!(decide (2 = 2 ∧ 0 = 0 ∧ 1 = 1 ∧ ([] : List Arc) = [])))) (by kernel_rfl) (fun c3 => ?_) (fun c3 => ?_)
 ·
  try simp only [bs] at c3
  exfalso; exact absurd c3 (by decide)
 ·
  try simp only [bs] at c3
  refine awp_skip ?_
  refine awp_seq ?_
  refine kq [] ⟨61, [(3, .p 112), (4, .p 104), (24, .one (.ro (.deeds D))), (Zbv4 D), (26, .i 0)], Zbv0⟩ hT (by kernel_rfl) trivial ?_
  refine awp_block ?_
  refine awp_loop (I := fun κ σ => ∃ (j : Nat) (n s t : Int) (es : List Arc) (f : List Int) (O : List Sta) (N : List ByteArray) (V : List Sta) (P : List Sta) (S : List (ByteArray × Sta)), ((j ≤ D.length) ∧ (Sim n s t es f O N V P S) ∧ D.length - j = κ) ∧ σ = ⟨61, [(3, .p 112), (4, .p 104), (24, .one (.ro (.deeds D))), (Zbv4 D), (Zbv6 j)], [(Zbv9 n s t es P S), (Zbv5 n s t es f O N V), (10112, .recs (.stas O)), (20112, .flat (.strs N)), (30112, .recs (.stas V))]⟩) _ ⟨0, 2, 0, 1, [], [], [], [], [], [], [], ⟨(by omega), (by exact Sim.start), rfl⟩, (by kernel_rfl)⟩ ?_
  rintro κ _ ⟨j, n, s, t, es, f, O, N, V, P, S, ⟨hj, hS, rfl⟩, rfl⟩
  have hE := hS.err
  have hO20 := hS.o20
  have hPl : P.length ≤ 20 := by rw [hS.old, List.length_map]; exact hO20
  have hn4 := hS.n4
  have hvl := hS.vl
  have hsk := hS.sk
  refine kq [] ⟨61, [(3, .p 112), (4, .p 104), (24, .one (.ro (.deeds D))), (Zbv4 D), (Zbv6 j), (27, .one (.bool (decide ((j : Int) < ((D.length : Nat) : Int)))))], [(Zbv9 n s t es P S), (Zbv5 n s t es f O N V), (10112, .recs (.stas O)), (20112, .flat (.strs N)), (30112, .recs (.stas V))]⟩ hT (by kernel_rfl) trivial ?_
  refine awp_seq ?_
  refine awp_cond (b := (decide ((j : Int) < ((D.length : Nat) : Int)))) (by kernel_rfl) (fun c6 => ?_) (fun c6 => ?_)
  ·
   try simp only [bs] at c6
   refine awp_skip ?_
   refine awp_seq ?_
   refine awp_block ?_
   refine kq [((0 : Int) ≤ (j : Int)), ((j : Int) < ((D.length : Nat) : Int)), (0 < 1)] ⟨61, [(3, .p 112), (4, .p 104), (6, .p 106), (24, .one (.ro (.deeds D))), (Zbv4 D), (Zbv6 j)], [(Zbv9 n s t es P S), (106, .box 1 5 (Zbv1 D j)), (Zbv5 n s t es f O N V), (10112, .recs (.stas O)), (20112, .flat (.strs N)), (30112, .recs (.stas V))]⟩ hT (by kernel_rfl) ⟨(by omega), (by omega), (by decide), trivial⟩ ?_
   refine awp_seq (awp_region ?_)
   refine ko 2 [(0 < 1)] ⟨61, [(3, .p 112), (4, .p 104), (6, .p 106), (24, .one (.ro (.deeds D))), (Zbv4 D), (Zbv6 j), (31, .p 112), (32, .agg (Zbv1 D j))], [(Zbv9 n s t es P S), (106, .box 1 5 (Zbv1 D j)), (Zbv5 n s t es f O N V), (10112, .recs (.stas O)), (20112, .flat (.strs N)), (30112, .recs (.stas V))]⟩ hT (by kernel_rfl) (by kernel_rfl) ⟨(by decide), trivial⟩ ?_
   refine aops_call [(1, 112), (9002, 10112), (9003, 20112), (9004, 30112)] [(9002, 10112), (9003, 20112), (9004, 30112)] false ⟨true, [], 8, [.p 1, .agg (Zbv1 D j)], [(1, .box 1 8 [(.i n), (.i s), (.i t), (.ro (.arcs es)), (.ro (.ints .i64 f)), (.w 9002 O.length), (.w 9003 N.length), (.w 9004 V.length)]), (9002, .recs (.stas O)), (9003, .flat (.strs N)), (9004, .recs (.stas V))]⟩ [.p 1, .agg (Zbv1 D j)] (sm := ⟨61, [(3, .p 112), (4, .p 104), (6, .p 106), (24, .one (.ro (.deeds D))), (Zbv4 D), (Zbv6 j), (31, .p 112), (32, .agg (Zbv1 D j)), (33, .whn false (.one .any))], [(Zbv9 n s t es P S), (106, .box 1 5 (Zbv1 D j)), (Zbv5 n s t es f O N V), (10112, .recs (.stas O)), (20112, .flat (.strs N)), (30112, .recs (.stas V))]⟩) (by kernel_rfl) (by kernel_rfl) (by decide) (fun _ => trivial) rfl (fun _ => store_do n s t es f O N V ((List.getD D j default).k) ((List.getD D j default).a) ((List.getD D j default).b) ((List.getD D j default).m) ((List.getD D j default).w) (by omega) (by omega) (by omega) (by omega)) (fun _ v Hr hv => ?_) (fun h => by cases h)
   obtain ⟨n8, s8, t8, es8, f8, O8, N8, V8, x8, e8, hs8, rfl, rfl⟩ := hv
   refine ⟨⟨61, [(3, .p 112), (4, .p 104), (6, .p 106), (24, .one (.ro (.deeds D))), (Zbv4 D), (Zbv6 j), (31, .p 112), (32, .agg (Zbv1 D j)), (33, .tup [(false, [(.i x8)]), (false, [(.i e8)])])], [(Zbv9 n s t es P S), (106, .box 1 5 (Zbv1 D j)), (112, .box 1 8 [(.i n8), (.i s8), (.i t8), (.ro (.arcs es8)), (.ro (.ints .i64 f8)), (.w 10112 O8.length), (.w 20112 N8.length), (.w 30112 V8.length)]), (10112, .recs (.stas O8)), (20112, .flat (.strs N8)), (30112, .recs (.stas V8))]⟩, by kernel_rfl, ?_⟩
   refine ko 5 [] ⟨61, [(3, .p 112), (4, .p 104), (6, .p 106), (7, .i x8), (8, .i e8), (24, .one (.ro (.deeds D))), (Zbv4 D), (Zbv6 j)], [(Zbv9 n s t es P S), (106, .box 1 5 (Zbv1 D j)), (112, .box 1 8 [(.i n8), (.i s8), (.i t8), (.ro (.arcs es8)), (.ro (.ints .i64 f8)), (.w 10112 O8.length), (.w 20112 N8.length), (.w 30112 V8.length)]), (10112, .recs (.stas O8)), (20112, .flat (.strs N8)), (30112, .recs (.stas V8))]⟩ hT (by kernel_rfl) (by kernel_rfl) trivial ?_
   refine aops_end_seq (by kernel_rfl) ?_
   refine awp_seq (awp_region ?_)
   refine ko 2 [(0 < 1), (0 < 1)] ⟨61, [(3, .p 112), (4, .p 104), (7, .i x8), (8, .i e8), (24, .one (.ro (.deeds D))), (Zbv4 D), (Zbv6 j), (37, .agg (Zbv2 n s t es P S)), (38, .agg (Zbv1 D j))], [(Zbv9 n s t es P S), (112, .box 1 8 [(.i n8), (.i s8), (.i t8), (.ro (.arcs es8)), (.ro (.ints .i64 f8)), (.w 10112 O8.length), (.w 20112 N8.length), (.w 30112 V8.length)]), (10112, .recs (.stas O8)), (20112, .flat (.strs N8)), (30112, .recs (.stas V8))]⟩ hT (by kernel_rfl) (by kernel_rfl) ⟨(by decide), (by decide), trivial⟩ ?_
   refine aops_call [] [] false ⟨true, [], 9, [.agg (Zbv2 n s t es P S), .agg (Zbv1 D j)], []⟩ [.agg (Zbv2 n s t es P S), .agg (Zbv1 D j)] (sm := ⟨61, [(3, .p 112), (4, .p 104), (7, .i x8), (8, .i e8), (24, .one (.ro (.deeds D))), (Zbv4 D), (Zbv6 j), (37, .agg (Zbv2 n s t es P S)), (38, .agg (Zbv1 D j)), (39, .whn false (.one .any))], [(Zbv9 n s t es P S), (112, .box 1 8 [(.i n8), (.i s8), (.i t8), (.ro (.arcs es8)), (.ro (.ints .i64 f8)), (.w 10112 O8.length), (.w 20112 N8.length), (.w 30112 V8.length)]), (10112, .recs (.stas O8)), (20112, .flat (.strs N8)), (30112, .recs (.stas V8))]⟩) (by kernel_rfl) (by kernel_rfl) (by decide) (fun _ => trivial) rfl (fun _ => ref_DoOf n s t es P S ((List.getD D j default).k) ((List.getD D j default).a) ((List.getD D j default).b) ((List.getD D j default).m) ((List.getD D j default).w) (by omega) (by assumption) (by assumption)) (fun _ v Hr hv => ?_) (fun h => by cases h)
   obtain ⟨n9, s9, t9, es9, O9, S9, x9, e9, hd9, rfl, rfl⟩ := hv
   refine ⟨⟨61, [(3, .p 112), (4, .p 104), (7, .i x8), (8, .i e8), (24, .one (.ro (.deeds D))), (Zbv4 D), (Zbv6 j), (37, .agg (Zbv2 n s t es P S)), (38, .agg (Zbv1 D j)), (39, .tup [(true, (Zbv2 n9 s9 t9 es9 O9 S9)), (false, [(.i x9)]), (false, [(.i e9)])])], [(Zbv9 n s t es P S), (112, .box 1 8 [(.i n8), (.i s8), (.i t8), (.ro (.arcs es8)), (.ro (.ints .i64 f8)), (.w 10112 O8.length), (.w 20112 N8.length), (.w 30112 V8.length)]), (10112, .recs (.stas O8)), (20112, .flat (.strs N8)), (30112, .recs (.stas V8))]⟩, by kernel_rfl, ?_⟩
   refine ko 8 [(0 < 1)] ⟨61, [(3, .p 112), (4, .p 104), (7, .i x8), (8, .i e8), (9, .p 109), (10, .i x9), (11, .i e9), (24, .one (.ro (.deeds D))), (Zbv4 D), (Zbv6 j)], [(Zbv9 n s t es P S), (109, .box 1 6 (Zbv2 n9 s9 t9 es9 O9 S9)), (112, .box 1 8 [(.i n8), (.i s8), (.i t8), (.ro (.arcs es8)), (.ro (.ints .i64 f8)), (.w 10112 O8.length), (.w 20112 N8.length), (.w 30112 V8.length)]), (10112, .recs (.stas O8)), (20112, .flat (.strs N8)), (30112, .recs (.stas V8))]⟩ hT (by kernel_rfl) (by kernel_rfl) ⟨(by decide), trivial⟩ ?_
   refine aops_end_seq (by kernel_rfl) ?_
   obtain ⟨y1, y2, y3, y4, y5, y6, hS9⟩ := hS.step hs8 hd9
   have hl8 := (netErr_ok hS9.err).len
   refine kq [(0 < 1), (0 < 1)] ⟨61, [(3, .p 112), (4, .p 104), (7, .i x8), (8, .i e8), (10, .i x9), (11, .i e9), (24, .one (.ro (.deeds D))), (Zbv4 D), (Zbv6 j)], [(Zbv9 n9 s9 t9 es9 O9 S9), (112, .box 1 8 [(.i n8), (.i s8), (.i t8), (.ro (.arcs es8)), (.ro (.ints .i64 f8)), (.w 10112 O8.length), (.w 20112 N8.length), (.w 30112 V8.length)]), (10112, .recs (.stas O8)), (20112, .flat (.strs N8)), (30112, .recs (.stas V8))]⟩ hT (by kernel_rfl) ⟨(by decide), (by decide), trivial⟩ ?_
   refine awp_join (fun σ => σ = ⟨61, [(3, .p 112), (4, .p 104), (24, .one (.ro (.deeds D))), (Zbv4 D), (Zbv6 j), (59, .one (.bool (!(decide (n8 = n9 ∧ s8 = s9 ∧ t8 = t9 ∧ es8 = es9)))))], [(Zbv9 n9 s9 t9 es9 O9 S9), (112, .box 1 8 [(.i n8), (.i s8), (.i t8), (.ro (.arcs es8)), (.ro (.ints .i64 f8)), (.w 10112 O8.length), (.w 20112 N8.length), (.w 30112 V8.length)]), (10112, .recs (.stas O8)), (20112, .flat (.strs N8)), (30112, .recs (.stas V8))]⟩) ?_ ?_
   ·
    refine awp_calm3 [] false [[], [], [0, 1], [0, 1, 2], [0, 1, 2, 3], [0, 1, 2, 3], [0, 1, 2, 3, 4, 5], [0, 1, 2, 3, 4, 5, 6], [0, 1, 2, 3, 4, 5, 6, 7], [0, 1, 2, 3, 4, 5, 6, 7, 8], [0, 1, 2, 3, 4, 5, 6, 7, 8, 9], [0, 1, 2, 3, 4, 5, 6, 7, 8], [0, 1, 2, 3, 4, 5, 6, 7, 8, 11], [0, 1, 2, 3, 4, 5, 6, 7, 8, 9, 10, 11, 12], [0, 1, 2, 3, 4, 5, 6, 7, 8, 9, 10, 11, 12, 13], [0, 1, 2, 3, 4, 5, 6, 7, 8, 9, 10, 11, 12, 13, 14]] 3 13 #[true, true, true, false, false, false, false, false, false, false, false, false, false, false, false, false] [3, 4, 8, 11, 24, 25, 26, 46] [104, 112, 10112, 20112, 30112] [(0, []), (1, []), (2, [])] ⟨61, [(3, .p 112), (4, .p 104), (8, .i e8), (11, .i e9), (24, .one (.ro (.deeds D))), (Zbv4 D), (Zbv6 j), (46, .one (.bool (decide (x8 ≠ x9))))], [(Zbv9 n9 s9 t9 es9 O9 S9), (112, .box 1 8 [(.i n8), (.i s8), (.i t8), (.ro (.arcs es8)), (.ro (.ints .i64 f8)), (.w 10112 O8.length), (.w 20112 N8.length), (.w 30112 V8.length)]), (10112, .recs (.stas O8)), (20112, .flat (.strs N8)), (30112, .recs (.stas V8))]⟩ (by kernel_rfl) hT (by kernel_rfl) (by kernel_rfl) (by kernel_rfl) (by kernel_rfl) ⟨trivial, trivial, trivial, trivial⟩ ?_
    refine aany_weak (awk_slot 46 (.one (.bool (decide (x8 ≠ x9)))) (.one (.bool false)) _ (by kernel_rfl) (.one (fun M u _ hv => by rw [show (decide (x8 ≠ x9)) = false from (decide_eq_false (fun q => q y1))] at hv; exact hv))) ?_
    refine aany_walk (n := 8) (L := #[true, true, true, true, true, true, true, true, false, false, false, false, false, false, false, false]) (s' := ⟨61, [(3, .p 112), (4, .p 104), (24, .one (.ro (.deeds D))), (Zbv4 D), (Zbv6 j), (51, .one (.bool (decide (e8 ≠ e9))))], [(Zbv9 n9 s9 t9 es9 O9 S9), (112, .box 1 8 [(.i n8), (.i s8), (.i t8), (.ro (.arcs es8)), (.ro (.ints .i64 f8)), (.w 10112 O8.length), (.w 20112 N8.length), (.w 30112 V8.length)]), (10112, .recs (.stas O8)), (20112, .flat (.strs N8)), (30112, .recs (.stas V8))]⟩) [] false 5 [3, 4, 24, 25, 26, 51] [104, 112, 10112, 20112, 30112] [(3, []), (4, []), (5, []), (6, [(true = true → (true = true → true = true)), (true = true → (true = true → true = true))]), (7, [(true = true → true = true)])] (by kernel_rfl) hT (by kernel_rfl) ⟨trivial, trivial, trivial, ⟨(fun _ => (fun h => h)), (fun _ => (fun h => h)), trivial⟩, ⟨(fun h => h), trivial⟩, trivial⟩ ?_
    refine aany_weak (awk_slot 51 (.one (.bool (decide (e8 ≠ e9)))) (.one (.bool false)) _ (by kernel_rfl) (.one (fun M u _ hv => by rw [show (decide (e8 ≠ e9)) = false from (by simp [y2])] at hv; exact hv))) ?_
    refine aany_walk (n := 5) (L := #[true, true, true, true, true, true, true, true, true, true, false, true, false, false, false, false]) (s' := ⟨61, [(3, .p 112), (4, .p 104), (24, .one (.ro (.deeds D))), (Zbv4 D), (Zbv6 j), (52, .one (.bool false)), Zbv13, Zbv18], [(Zbv9 n9 s9 t9 es9 O9 S9), (112, .box 1 8 [(.i n8), (.i s8), (.i t8), (.ro (.arcs es8)), (.ro (.ints .i64 f8)), (.w 10112 O8.length), (.w 20112 N8.length), (.w 30112 V8.length)]), (10112, .recs (.stas O8)), (20112, .flat (.strs N8)), (30112, .recs (.stas V8))]⟩) [] false 3 [3, 4, 24, 25, 26, 52, 53, 55] [104, 112, 10112, 20112, 30112] [(8, []), (9, []), (11, [])] (by kernel_rfl) hT (by kernel_rfl) ⟨trivial, trivial, trivial, trivial⟩ ?_
    refine aany_fork (n := 4) 10 12 (by kernel_rfl) ?_ ?_
    ·
     refine atake_call (n := 4) (k := 10) (L := #[true, true, true, true, true, true, true, true, true, true, true, true, false, false, false, false]) [(1, 112), (9002, 10112), (9003, 20112), (9004, 30112)] [(9002, 10112), (9003, 20112), (9004, 30112)] false ⟨true, [(true = true → true = true)], 7, [.p 1], [(1, .box 1 8 [(.i n8), (.i s8), (.i t8), (.ro (.arcs es8)), (.ro (.ints .i64 f8)), (.w 9002 O8.length), (.w 9003 N8.length), (.w 9004 V8.length)]), (9002, .recs (.stas O8)), (9003, .flat (.strs N8)), (9004, .recs (.stas V8))]⟩ [.p 1] (sm := ⟨61, [(3, .p 112), (4, .p 104), (24, .one (.ro (.deeds D))), (Zbv4 D), (Zbv6 j), (52, .one (.bool false)), Zbv13, (54, .whn false (.one .any)), Zbv18], [(Zbv9 n9 s9 t9 es9 O9 S9), (112, .box 1 8 [(.i n8), (.i s8), (.i t8), (.ro (.arcs es8)), (.ro (.ints .i64 f8)), (.w 10112 O8.length), (.w 20112 N8.length), (.w 30112 V8.length)]), (10112, .recs (.stas O8)), (20112, .flat (.strs N8)), (30112, .recs (.stas V8))]⟩) (by kernel_rfl) (by kernel_rfl) (by kernel_rfl) (by decide) (fun _ => ⟨(fun h => h), trivial⟩) rfl (fun _ => store_net n8 s8 t8 es8 f8 O8 N8 V8 (by first | omega | simp)) (fun _ v Hr hv => ?_) (fun h => by cases h)
     obtain ⟨rfl, rfl⟩ := hv
     refine ⟨⟨61, [(3, .p 112), (4, .p 104), (24, .one (.ro (.deeds D))), (Zbv4 D), (Zbv6 j), (52, .one (.bool false)), Zbv13, (54, .agg [(.i n8), (.i s8), (.i t8), (.ro (.arcs es8))]), Zbv18], [(Zbv9 n9 s9 t9 es9 O9 S9), (112, .box 1 8 [(.i n8), (.i s8), (.i t8), (.ro (.arcs es8)), (.ro (.ints .i64 f8)), (.w 10112 O8.length), (.w 20112 N8.length), (.w 30112 V8.length)]), (10112, .recs (.stas O8)), (20112, .flat (.strs N8)), (30112, .recs (.stas V8))]⟩, by kernel_rfl, ?_⟩
     refine aany_weak (awk_cut [3, 4, 24, 25, 26, 52, 54, 55] [104, 112, 10112, 20112, 30112] _) ?_
     refine aany_end [(13, ⟨[.agg [(.i n8), (.i s8), (.i t8), (.ro (.arcs es8))], .agg (Zbv7 n9 s9 t9 es9)], .one (.bool (decide (n8 = n9 ∧ s8 = s9 ∧ t8 = t9 ∧ es8 = es9))), [], []⟩)] false [3, 4, 24, 25, 26, 59] [104, 112, 10112, 20112, 30112] 1 [(12, [(true = true → (true = true → true = true)), (true = true → (0 < 1))]), (13, [(true = true → (AllP [(true = true → true = true)] ∧ [.agg [(.i n8), (.i s8), (.i t8), (.ro (.arcs es8))], .agg (Zbv7 n9 s9 t9 es9)] = ([.agg [(.i n8), (.i s8), (.i t8), (.ro (.arcs es8))], .agg (Zbv7 n9 s9 t9 es9)] : List AV) ∧ ACall Tryd.prog 6 [.agg [(.i n8), (.i s8), (.i t8), (.ro (.arcs es8))], .agg (Zbv7 n9 s9 t9 es9)] [] (fun ov oh => ov = .one (.bool (decide (n8 = n9 ∧ s8 = s9 ∧ t8 = t9 ∧ es8 = es9))) ∧ oh = [])))]), (14, [(true = true → (true = true → true = true))]), (15, [(true = true → true = true)])] ⟨61, [(3, .p 112), (4, .p 104), (24, .one (.ro (.deeds D))), (Zbv4 D), (Zbv6 j), (59, .one (.bool (!(decide (n8 = n9 ∧ s8 = s9 ∧ t8 = t9 ∧ es8 = es9)))))], [(Zbv9 n9 s9 t9 es9 O9 S9), (112, .box 1 8 [(.i n8), (.i s8), (.i t8), (.ro (.arcs es8)), (.ro (.ints .i64 f8)), (.w 10112 O8.length), (.w 20112 N8.length), (.w 30112 V8.length)]), (10112, .recs (.stas O8)), (20112, .flat (.strs N8)), (30112, .recs (.stas V8))]⟩ (by kernel_rfl) hT (by kernel_rfl) ⟨⟨(fun _ => (fun h => h)), (fun _ => (by decide)), trivial⟩, ⟨(fun _ => ⟨⟨(fun h => h), trivial⟩, rfl, same_net n8 s8 t8 es8 n9 s9 t9 es9⟩), trivial⟩, ⟨(fun _ => (fun h => h)), trivial⟩, ⟨(fun h => h), trivial⟩, trivial⟩ ?_
     exact jend (by kernel_rfl)
    ·
     refine atake_step (n := 4) (L := #[true, true, true, true, true, true, true, true, true, true, false, true, true, false, false, false]) [] false [(true = true → (true = true → true = true)), (true = true → (0 < 1))] ⟨61, [(3, .p 112), (4, .p 104), (24, .one (.ro (.deeds D))), (Zbv4 D), (Zbv6 j), (52, .one (.bool false)), Zbv13, Zbv18, (56, .whn true (.agg (Zbv7 n9 s9 t9 es9)))], [(Zbv9 n9 s9 t9 es9 O9 S9), (112, .box 1 8 [(.i n8), (.i s8), (.i t8), (.ro (.arcs es8)), (.ro (.ints .i64 f8)), (.w 10112 O8.length), (.w 20112 N8.length), (.w 30112 V8.length)]), (10112, .recs (.stas O8)), (20112, .flat (.strs N8)), (30112, .recs (.stas V8))]⟩ (by kernel_rfl) hT (by kernel_rfl) ⟨(fun _ => (fun h => h)), (fun _ => (by decide)), trivial⟩ ?_
     refine aany_weak (awk_cut [3, 4, 24, 25, 26, 52, 53, 56] [104, 112, 10112, 20112, 30112] _) ?_
     show AAny Tryd.prog _ _ _ _ ⟨61, [(3, .p 112), (4, .p 104), (24, .one (.ro (.deeds D))), (Zbv4 D), (Zbv6 j), (52, .one (.bool false)), Zbv13, (56, .whn true (.agg (Zbv7 n9 s9 t9 es9)))], [(Zbv9 n9 s9 t9 es9 O9 S9), (112, .box 1 8 [(.i n8), (.i s8), (.i t8), (.ro (.arcs es8)), (.ro (.ints .i64 f8)), (.w 10112 O8.length), (.w 20112 N8.length), (.w 30112 V8.length)]), (10112, .recs (.stas O8)), (20112, .flat (.strs N8)), (30112, .recs (.stas V8))]⟩
     refine aany_call (n := 3) (k := 10) (L := #[true, true, true, true, true, true, true, true, true, true, true, true, true, false, false, false]) [(1, 112), (9002, 10112), (9003, 20112), (9004, 30112)] [(9002, 10112), (9003, 20112), (9004, 30112)] false ⟨true, [(true = true → true = true)], 7, [.p 1], [(1, .box 1 8 [(.i n8), (.i s8), (.i t8), (.ro (.arcs es8)), (.ro (.ints .i64 f8)), (.w 9002 O8.length), (.w 9003 N8.length), (.w 9004 V8.length)]), (9002, .recs (.stas O8)), (9003, .flat (.strs N8)), (9004, .recs (.stas V8))]⟩ [.p 1] (sm := ⟨61, [(3, .p 112), (4, .p 104), (24, .one (.ro (.deeds D))), (Zbv4 D), (Zbv6 j), (52, .one (.bool false)), Zbv13, (54, .whn false (.one .any)), (56, .whn true (.agg (Zbv7 n9 s9 t9 es9)))], [(Zbv9 n9 s9 t9 es9 O9 S9), (112, .box 1 8 [(.i n8), (.i s8), (.i t8), (.ro (.arcs es8)), (.ro (.ints .i64 f8)), (.w 10112 O8.length), (.w 20112 N8.length), (.w 30112 V8.length)]), (10112, .recs (.stas O8)), (20112, .flat (.strs N8)), (30112, .recs (.stas V8))]⟩) (by kernel_rfl) (by kernel_rfl) (by kernel_rfl) (by kernel_rfl) (by decide) (fun _ => ⟨(fun h => h), trivial⟩) rfl (fun _ => store_net n8 s8 t8 es8 f8 O8 N8 V8 (by first | omega | simp)) (fun _ v Hr hv => ?_) (fun h => by cases h)
     obtain ⟨rfl, rfl⟩ := hv
     refine ⟨⟨61, [(3, .p 112), (4, .p 104), (24, .one (.ro (.deeds D))), (Zbv4 D), (Zbv6 j), (52, .one (.bool false)), Zbv13, (54, .agg [(.i n8), (.i s8), (.i t8), (.ro (.arcs es8))]), (56, .whn true (.agg (Zbv7 n9 s9 t9 es9)))], [(Zbv9 n9 s9 t9 es9 O9 S9), (112, .box 1 8 [(.i n8), (.i s8), (.i t8), (.ro (.arcs es8)), (.ro (.ints .i64 f8)), (.w 10112 O8.length), (.w 20112 N8.length), (.w 30112 V8.length)]), (10112, .recs (.stas O8)), (20112, .flat (.strs N8)), (30112, .recs (.stas V8))]⟩, by kernel_rfl, ?_⟩
     refine aany_weak (awk_cut [3, 4, 24, 25, 26, 52, 54, 56] [104, 112, 10112, 20112, 30112] _) ?_
     refine aany_end [(13, ⟨[.agg [(.i n8), (.i s8), (.i t8), (.ro (.arcs es8))], .agg (Zbv7 n9 s9 t9 es9)], .one (.bool (decide (n8 = n9 ∧ s8 = s9 ∧ t8 = t9 ∧ es8 = es9))), [], []⟩)] false [3, 4, 24, 25, 26, 59] [104, 112, 10112, 20112, 30112] 1 [(13, [(true = true → (AllP [(true = true → true = true)] ∧ [.agg [(.i n8), (.i s8), (.i t8), (.ro (.arcs es8))], .agg (Zbv7 n9 s9 t9 es9)] = ([.agg [(.i n8), (.i s8), (.i t8), (.ro (.arcs es8))], .agg (Zbv7 n9 s9 t9 es9)] : List AV) ∧ ACall Tryd.prog 6 [.agg [(.i n8), (.i s8), (.i t8), (.ro (.arcs es8))], .agg (Zbv7 n9 s9 t9 es9)] [] (fun ov oh => ov = .one (.bool (decide (n8 = n9 ∧ s8 = s9 ∧ t8 = t9 ∧ es8 = es9))) ∧ oh = [])))]), (14, [(true = true → (true = true → true = true))]), (15, [(true = true → true = true)])] ⟨61, [(3, .p 112), (4, .p 104), (24, .one (.ro (.deeds D))), (Zbv4 D), (Zbv6 j), (59, .one (.bool (!(decide (n8 = n9 ∧ s8 = s9 ∧ t8 = t9 ∧ es8 = es9)))))], [(Zbv9 n9 s9 t9 es9 O9 S9), (112, .box 1 8 [(.i n8), (.i s8), (.i t8), (.ro (.arcs es8)), (.ro (.ints .i64 f8)), (.w 10112 O8.length), (.w 20112 N8.length), (.w 30112 V8.length)]), (10112, .recs (.stas O8)), (20112, .flat (.strs N8)), (30112, .recs (.stas V8))]⟩ (by kernel_rfl) hT (by kernel_rfl) ⟨⟨(fun _ => ⟨⟨(fun h => h), trivial⟩, rfl, same_net n8 s8 t8 es8 n9 s9 t9 es9⟩), trivial⟩, ⟨(fun _ => (fun h => h)), trivial⟩, ⟨(fun h => h), trivial⟩, trivial⟩ ?_
     exact jend (by kernel_rfl)
   rintro _ rfl
   refine awp_cond (b := (!(decide (n8 = n9 ∧ s8 = s9 ∧ t8 = t9 ∧ es8 = es9)))) (by kernel_rfl) (fun c11 => ?_) (fun c11 => ?_)
   ·
    try simp only [bs] at c11
    exfalso; exact c11 ⟨y3, y4, y5, y6⟩
   ·
    try simp only [bs] at c11
    refine awp_skip ?_
    rw [show n8 = n9 from y3]
    rw [show s8 = s9 from y4]
    rw [show t8 = t9 from y5]
    rw [show es8 = es9 from y6]
    refine kr [(-9223372036854775808 ≤ (((j + 1) : Nat) : Int) ∧ (((j + 1) : Nat) : Int) ≤ 9223372036854775807)] ⟨61, [(3, .p 112), (4, .p 104), (24, .one (.ro (.deeds D))), (Zbv4 D), (26, .i (((j + 1) : Nat) : Int))], [(Zbv9 n9 s9 t9 es9 O9 S9), (Zbv5 n9 s9 t9 es9 f8 O8 N8 V8), (10112, .recs (.stas O8)), (20112, .flat (.strs N8)), (30112, .recs (.stas V8))]⟩ hT (by kernel_rfl) ⟨(by omega), trivial⟩ ?_
    refine loop_end _ ?_ ⟨(j + 1), n9, s9, t9, es9, f8, O8, N8, V8, O9, S9, ⟨(by omega), (by rw [← y3, ← y4, ← y5, ← y6]; exact hS9), rfl⟩, (by kernel_rfl)⟩
    omega
  ·
   try simp only [bs] at c6
   refine awp_exit ?_
   refine kq [] ⟨61, [(2, .one (.bool true))], []⟩ hT (by kernel_rfl) trivial ?_
   refine awp_ret ?_
   refine kRet.ret _ [] [] (.one (.bool true)) [] (by kernel_rfl) trivial ?_
   exact ⟨rfl, rfl⟩
end Go.Ab
