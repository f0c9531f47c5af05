/- Parts of the proof, without conditions. -/
import Derived.Test.YtlmbjjbcdgckfaaDoorKk
import Derived.Test.YtlmbjjbcdgckfaaDoorTab
import Derived.Test.YtlmbjjbcdgckfaaDoorQ0
import Derived.Test.YtlmbjjbcdgckfaaDoorQ3
import Derived.Test.YtlmbjjbcdgckfaaDoorQ1
set_option maxRecDepth 100000
namespace Go.Ab
open Go Go.Proofs
abbrev ZbFG (g : Bool) : Prop := g = true → g = true
abbrev ZbFL (g : Bool) : Prop := g = true → (0 < 1)
abbrev ZbFT (g : Bool) : Prop := g = true → (g = true → g = true)
abbrev ZbFb0 (a0 : List Int) (a1 : Int) := ((!(decide ((List.getD a0 (Int.toNat a1) 0) = 0))) : Bool)
abbrev ZbF7 := ((106, .box 1 2 [(.i 0), .nils]) : Nat × Obj)
abbrev ZbF13 (a0 : Int) (a1 : Int) (a2 : Int) (a3 : List Arc) := ((103, .box 1 4 [(.i a0), (.i a1), (.i a2), (.ro (.arcs a3))]) : Nat × Obj)
abbrev ZbF20 (a0 : List Arc) (a1 : Int) := ((.i ((List.getD a0 (Int.toNat a1) default).dst)) : V1)
abbrev ZbF23 (a0 : List Int) (a1 : Int) := ((5008, .fi (a0 ++ [a1])) : Nat × Obj)
abbrev ZbF0 (a0 : Int) (a1 : Int) (a2 : Int) (a3 : List Arc) (a4 : Int) (a5 : List Int) := ([(ZbF13 a0 a1 a2 a3), (105, .box 1 1 [(ZbF20 a3 a4)]), ZbF7, (ZbF23 a5 a4)] : List (Nat × Obj))
abbrev ZbF1 (a0 : Int) (a1 : Int) (a2 : Int) (a3 : List Arc) (a4 : Int) (a5 : List Int) := ([(ZbF13 a0 a1 a2 a3), (105, .box 1 1 [(.i a4)]), ZbF7, (5008, .fi a5)] : List (Nat × Obj))
abbrev ZbF2 (a0 : Int) (a1 : Int) (a2 : Int) (a3 : List Arc) (a4) := ([(ZbF13 a0 a1 a2 a3), (105, .box 1 1 [(.i a4)]), ZbF7] : List (Nat × Obj))
abbrev ZbF3 (a0 : List Int) := ((1, .one (.ro (.ints .i64 a0))) : Nat × AV)
abbrev ZbF4 (a0 : List Int) := ((.i ((a0.length : Nat) : Int)) : V1)
abbrev ZbF12 := ((104, .box 1 2 [(.i 0), .nils]) : Nat × Obj)
abbrev ZbF5 (a0 : Int) (a1 : List Int) := ([ZbF12, (105, .box 1 2 [(.i a0), (.w 115 a1.length)]), (115, .fi a1)] : List (Nat × Obj))
abbrev ZbF6 (a0 : List Int) (a1) (a2 : List Int) := ([(1, .fi a0), (103, .box 1 2 [(.i a1), (.ro (.ints .i64 a2))])] : List (Nat × Obj))
abbrev ZbF8 (a0 : List Int) := ((8, .w 5008 (a0.length + 1)) : Nat × AV)
abbrev ZbF9 (a0 : List Arc) (a1 : Int) (a2 : List Int) := ((.bool (Option.isSome (findD ((List.getD a0 (Int.toNat a1) default).dst) (seenOf a2)))) : V1)
abbrev ZbF10 (a0 : List Int) := ((8, .w 5008 a0.length) : Nat × AV)
abbrev ZbF11 (a0 : List Int) := ((0, .one (.ro (.ints .i64 a0))) : Nat × AV)
abbrev ZbF14 (a0 : List Int) := ((9001, .fi a0) : Nat × Obj)
abbrev ZbF15 (a0 : List Int) := ((0, .w 1 a0.length) : Nat × AV)
abbrev ZbF16 (a0 : List Int) := ((17, .one (.ro (.ints .i64 a0))) : Nat × AV)
abbrev ZbF17 (a0 : List Int) (a1 : List Int) (a2) (a3) := ([(1, .fi (List.set a0 (Int.toNat (List.getD a1 a2 0)) ((List.getD a0 (Int.toNat (List.getD a1 a2 0)) 0) - a3))), (103, .box 1 2 [(.i a3), (.ro (.ints .i64 a1))])] : List (Nat × Obj))
abbrev ZbF18 (a0 : List Int) := ((7, .one (.ro (.ints .i64 a0))) : Nat × AV)
abbrev ZbF19 (a0 : Int) (a1 : List Int) := ([(.i a0), (.w 9001 a1.length)] : List V1)
abbrev ZbF21 (a0 : Int) (a1 : List Int) := ((61, .one (.rw 5008 (Int.toNat a0) ((a1.length + 1) - (Int.toNat a0)))) : Nat × AV)
abbrev ZbF22 (a0 : Int) := ((1, .box 1 1 [(.i a0)]) : Nat × Obj)
theorem flow_amount (left arcs : List Int) (hne : 0 < arcs.length) (hal : arcs.length ≤ 100) (hk : ∀ k ∈ arcs, 0 ≤ k ∧ k < left.length) : ACall Tryd.prog 63 [.one (.ro (.ints .i64 left)), .one (.ro (.ints .i64 arcs))] [] (fun ov oh => ∃ (m : Int), (AmOk left arcs m) ∧ ov = .agg (ZbF19 m arcs) ∧ oh = [(ZbF14 arcs)]) := by
 refine acall_intro hT Tryd.func63 rfl (by kernel_rfl) rfl (by kernel_rfl) ?_
 have hk0 := hk _ (getD_mem (d := 0) hne)
 refine kq [] ⟨33, [(ZbF11 left), (ZbF3 arcs), (4, .p 104)], [ZbF12]⟩ hT (by kernel_rfl) trivial ?_
 refine awp_seq (awp_calm2 [(7, ⟨[.one (.ro (.ints .i64 arcs))], .w 9001 arcs.length, [(ZbF14 arcs)], [(9001, 115)]⟩)] false [[], [], [1], [1, 2], [0, 1, 2, 3], [0, 1, 2, 3, 4], [], [6], [0, 1, 2, 3, 4, 5, 6, 7], [], [0, 1, 2, 3, 4, 5, 6, 7, 8, 9]] 10 [0, 1, 4, 5] [104, 105, 115] [(0, []), (1, []), (2, [((0 : Int) ≤ (0 : Int)), ((0 : Int) < ((arcs.length : Nat) : Int))]), (3, []), (4, [((0 : Int) ≤ (List.getD arcs 0 0)), ((List.getD arcs 0 0) < ((left.length : Nat) : Int))]), (5, []), (6, []), (7, [(AllP [] ∧ [.one (.ro (.ints .i64 arcs))] = ([.one (.ro (.ints .i64 arcs))] : List AV) ∧ ACall Tryd.prog 30 [.one (.ro (.ints .i64 arcs))] [] (fun ov oh => ov = .w 9001 arcs.length ∧ oh = [(ZbF14 arcs)]))]), (8, []), (9, [])] [(10, [(0 < 1)])] 1 ⟨33, [(ZbF11 left), (ZbF3 arcs), (4, .p 104), (5, .p 105)], [ZbF12, (105, .box 1 2 [(.i (List.getD left (Int.toNat (List.getD arcs 0 0)) 0)), (.w 115 arcs.length)]), (115, .fi arcs)]⟩ (by kernel_rfl) (by kernel_rfl) hT (by kernel_rfl) (by kernel_rfl) ⟨trivial, trivial, ⟨(by omega), (by omega), trivial⟩, trivial, ⟨(by omega), (by omega), trivial⟩, trivial, trivial, ⟨⟨trivial, rfl, clone_ints arcs (by first | omega | (simp; omega))⟩, trivial⟩, trivial, trivial, trivial⟩ ⟨⟨(by decide), trivial⟩, trivial⟩ ?_)
 refine awp_seq ?_
 refine kq [] ⟨33, [(ZbF11 left), (4, .p 104), (5, .p 105), (ZbF16 arcs), (18, .one (ZbF4 arcs)), (19, .i 0)], [ZbF12, (105, .box 1 2 [(.i (List.getD left (Int.toNat (List.getD arcs 0 0)) 0)), (.w 115 arcs.length)]), (115, .fi arcs)]⟩ hT (by kernel_rfl) trivial ?_
 refine awp_block ?_
 refine awp_loop (I := fun κ σ => ∃ (i : Nat) (m : Int), ((i ≤ arcs.length) ∧ (∃ k ∈ arcs, left.getD k.toNat 0 = m) ∧ (∀ j, j < i → m ≤ left.getD (arcs.getD j 0).toNat 0) ∧ arcs.length - i = κ) ∧ σ = ⟨33, [(ZbF11 left), (4, .p 104), (5, .p 105), (ZbF16 arcs), (18, .one (ZbF4 arcs)), (19, .i (i : Int))], (ZbF5 m arcs)⟩) _ ⟨0, (List.getD left (Int.toNat (List.getD arcs 0 0)) 0), ⟨(by omega), (by exact ⟨_, getD_mem (d := 0) hne, rfl⟩), (by intro j hj; omega), rfl⟩, (by kernel_rfl)⟩ ?_
 rintro κ _ ⟨i, m, ⟨hi, hex, hall, rfl⟩, rfl⟩
 refine kq [] ⟨33, [(ZbF11 left), (4, .p 104), (5, .p 105), (ZbF16 arcs), (18, .one (ZbF4 arcs)), (19, .i (i : Int)), (20, .one (.bool (decide ((i : Int) < ((arcs.length : Nat) : Int)))))], (ZbF5 m arcs)⟩ hT (by kernel_rfl) trivial ?_
 refine awp_seq ?_
 refine awp_cond (b := (decide ((i : Int) < ((arcs.length : Nat) : Int)))) (by kernel_rfl) (fun c3 => ?_) (fun c3 => ?_)
 ·
  try simp only [bs] at c3
  have hil : i < arcs.length := by omega
  have hki := hk _ (getD_mem (d := 0) hil)
  refine awp_skip ?_
  refine awp_seq ?_
  refine awp_block ?_
  refine kq [((0 : Int) ≤ (i : Int)), ((i : Int) < ((arcs.length : Nat) : Int))] ⟨33, [(ZbF11 left), (4, .p 104), (5, .p 105), (7, .i (List.getD arcs i 0)), (ZbF16 arcs), (18, .one (ZbF4 arcs)), (19, .i (i : Int))], (ZbF5 m arcs)⟩ hT (by kernel_rfl) ⟨(by omega), (by omega), trivial⟩ ?_
  refine awp_tail 8 [0, 4, 5, 17, 18, 19, 29, 30] [104, 105, 115] [(0 < 1), ((0 : Int) ≤ (List.getD arcs i 0)), ((List.getD arcs i 0) < ((left.length : Nat) : Int))] ⟨33, [(ZbF11 left), (4, .p 104), (5, .p 105), (ZbF16 arcs), (18, .one (ZbF4 arcs)), (19, .i (i : Int)), (29, .i (min m (List.getD left (Int.toNat (List.getD arcs i 0)) 0))), (30, .p 105)], (ZbF5 m arcs)⟩ (by kernel_rfl) (by kernel_rfl) hT (by kernel_rfl) ⟨(by decide), (by omega), (by omega), trivial⟩ ?_
  refine ko 1 [(0 < 1)] ⟨33, [(ZbF11 left), (4, .p 104), (5, .p 105), (ZbF16 arcs), (18, .one (ZbF4 arcs)), (19, .i (i : Int))], [ZbF12, (105, .box 1 2 [(.i (min m (List.getD left (Int.toNat (List.getD arcs i 0)) 0))), (.w 115 arcs.length)]), (115, .fi arcs)]⟩ hT (by kernel_rfl) (by kernel_rfl) ⟨(by decide), trivial⟩ ?_
  refine aops_end (by kernel_rfl) ?_
  refine kr [(-9223372036854775808 ≤ (((i + 1) : Nat) : Int) ∧ (((i + 1) : Nat) : Int) ≤ 9223372036854775807)] ⟨33, [(ZbF11 left), (4, .p 104), (5, .p 105), (ZbF16 arcs), (18, .one (ZbF4 arcs)), (19, .i (((i + 1) : Nat) : Int))], [ZbF12, (105, .box 1 2 [(.i (min m (List.getD left (Int.toNat (List.getD arcs i 0)) 0))), (.w 115 arcs.length)]), (115, .fi arcs)]⟩ hT (by kernel_rfl) ⟨(by omega), trivial⟩ ?_
  refine loop_end _ ?_ ⟨(i + 1), (min m (List.getD left (Int.toNat (List.getD arcs i 0)) 0)), ⟨(by omega), (by rcases Int.le_total m (left.getD (arcs.getD i 0).toNat 0) with q | q; rw [Int.min_eq_left q]; exact hex; rw [Int.min_eq_right q]; exact ⟨_, getD_mem (d := 0) hil, rfl⟩), (by intro j hj; rcases Nat.lt_succ_iff_lt_or_eq.1 hj with q | q; have := hall j q; omega; subst q; omega), rfl⟩, (by kernel_rfl)⟩
  omega
 ·
  try simp only [bs] at c3
  refine awp_exit ?_
  refine kq [(0 < 1), (0 < 1)] ⟨33, [(4, .p 104)], [(104, .box 1 2 [(.i m), (.w 115 arcs.length)]), (115, .fi arcs)]⟩ hT (by kernel_rfl) ⟨(by decide), (by decide), trivial⟩ ?_
  refine awp_weak (awk_ren 115 9001 (s' := ⟨33, [(4, .p 104)], [(104, .box 1 2 (ZbF19 m arcs)), (ZbF14 arcs)]⟩) (by kernel_rfl)) ?_
  refine awp_ret ?_
  refine kRet.ret _ [9001] [(0 < 1)] (.agg (ZbF19 m arcs)) [(ZbF14 arcs)] (by kernel_rfl) ⟨(by decide), trivial⟩ ?_
  exact ⟨m, (by exact ⟨hex, fun k hk2 => by obtain ⟨j, hj, e⟩ := mem_getD 0 hk2; rw [← e]; exact hall j (by omega)⟩), (by kernel_rfl), (by kernel_rfl)⟩
theorem flow_take (left arcs : List Int) (a : Int) (hnd : arcs.Nodup) (hal : arcs.length ≤ 100) (hk : ∀ k ∈ arcs, 0 ≤ k ∧ k < left.length ∧ a ≤ left.getD k.toNat 0) (ha : 0 ≤ a) (hb : InB left) : ACall Tryd.prog 48 [.w 1 left.length, .agg [(.i a), (.ro (.ints .i64 arcs))]] [(1, .fi left)] (fun ov oh => ov = .tup [] ∧ oh = [(1, .fi (takeOff a left arcs))]) := by
 refine acall_intro hT Tryd.func48 rfl (by kernel_rfl) rfl (by kernel_rfl) ?_
 refine kq [] ⟨22, [(ZbF15 left), (3, .p 103)], (ZbF6 left a arcs)⟩ hT (by kernel_rfl) trivial ?_
 refine kq [(0 < 1)] ⟨22, [(ZbF15 left), (3, .p 103), (ZbF18 arcs), (8, .one (ZbF4 arcs)), (9, .i 0)], (ZbF6 left a arcs)⟩ hT (by kernel_rfl) ⟨(by decide), trivial⟩ ?_
 refine awp_block ?_
 refine awp_loop (I := fun κ σ => ∃ (i : Nat) (l : List Int), ((i ≤ arcs.length) ∧ (l = takeOff a left (arcs.take i)) ∧ arcs.length - i = κ) ∧ σ = ⟨22, [(ZbF15 left), (3, .p 103), (ZbF18 arcs), (8, .one (ZbF4 arcs)), (9, .i (i : Int))], (ZbF6 l a arcs)⟩) _ ⟨0, left, ⟨(by omega), (by rfl), rfl⟩, (by kernel_rfl)⟩ ?_
 rintro κ _ ⟨i, l, ⟨hi, hl, rfl⟩, rfl⟩
 have hll : l.length = left.length := by rw [hl]; exact takeOff_len _ _ _
 refine kq [] ⟨22, [(ZbF15 left), (3, .p 103), (ZbF18 arcs), (8, .one (ZbF4 arcs)), (9, .i (i : Int)), (10, .one (.bool (decide ((i : Int) < ((arcs.length : Nat) : Int)))))], (ZbF6 l a arcs)⟩ hT (by kernel_rfl) trivial ?_
 refine awp_seq ?_
 refine awp_cond (b := (decide ((i : Int) < ((arcs.length : Nat) : Int)))) (by kernel_rfl) (fun c2 => ?_) (fun c2 => ?_)
 ·
  try simp only [bs] at c2
  have hil : i < arcs.length := by omega
  have hki := hk _ (getD_mem (d := 0) hil)
  have hnow := takeOff_now (a := a) (left := left) hil hnd (fun k q => (hk k q).1)
  rw [← hl] at hnow
  have hbi := hb (arcs.getD i 0).toNat
  have hst := takeOff_step (a := a) (left := left) hil
  refine awp_skip ?_
  refine awp_seq ?_
  refine awp_block ?_
  refine kq [((0 : Int) ≤ (i : Int)), ((i : Int) < ((arcs.length : Nat) : Int))] ⟨22, [(ZbF15 left), (3, .p 103), (5, .i (List.getD arcs i 0)), (ZbF18 arcs), (8, .one (ZbF4 arcs)), (9, .i (i : Int))], (ZbF6 l a arcs)⟩ hT (by kernel_rfl) ⟨(by omega), (by omega), trivial⟩ ?_
  refine awp_tail 8 [0, 3, 7, 8, 9, 19, 20] [103] [((0 : Int) ≤ (List.getD arcs i 0)), ((List.getD arcs i 0) < ((left.length : Nat) : Int)), ((Int.toNat (List.getD arcs i 0)) < l.length), (0 < 1), (-9223372036854775808 ≤ ((List.getD l (Int.toNat (List.getD arcs i 0)) 0) - a) ∧ ((List.getD l (Int.toNat (List.getD arcs i 0)) 0) - a) ≤ 9223372036854775807), ((0 : Int) ≤ (List.getD arcs i 0)), ((List.getD arcs i 0) < ((left.length : Nat) : Int))] ⟨22, [(ZbF15 left), (3, .p 103), (ZbF18 arcs), (8, .one (ZbF4 arcs)), (9, .i (i : Int)), (19, .i ((List.getD l (Int.toNat (List.getD arcs i 0)) 0) - a)), (20, .one (.ptr 1 (Int.toNat (List.getD arcs i 0)) 0))], (ZbF6 l a arcs)⟩ (by kernel_rfl) (by kernel_rfl) hT (by kernel_rfl) ⟨(by omega), (by omega), (by omega), (by decide), (by omega), (by omega), (by omega), trivial⟩ ?_
  refine ko 1 [((Int.toNat (List.getD arcs i 0)) < l.length)] ⟨22, [(ZbF15 left), (3, .p 103), (ZbF18 arcs), (8, .one (ZbF4 arcs)), (9, .i (i : Int))], (ZbF17 l arcs i a)⟩ hT (by kernel_rfl) (by kernel_rfl) ⟨(by omega), trivial⟩ ?_
  refine aops_end (by kernel_rfl) ?_
  refine kr [(-9223372036854775808 ≤ (((i + 1) : Nat) : Int) ∧ (((i + 1) : Nat) : Int) ≤ 9223372036854775807)] ⟨22, [(ZbF15 left), (3, .p 103), (ZbF18 arcs), (8, .one (ZbF4 arcs)), (9, .i (((i + 1) : Nat) : Int))], (ZbF17 l arcs i a)⟩ hT (by kernel_rfl) ⟨(by omega), trivial⟩ ?_
  refine loop_end _ ?_ ⟨(i + 1), (List.set l (Int.toNat (List.getD arcs i 0)) ((List.getD l (Int.toNat (List.getD arcs i 0)) 0) - a)), ⟨(by omega), (by rw [hst, ← hl]), rfl⟩, (by kernel_rfl)⟩
  omega
 ·
  try simp only [bs] at c2
  have hfin : l = takeOff a left arcs := by rw [hl, List.take_of_length_le (by omega)]
  refine awp_exit ?_
  refine kRet.normal _ [] [] (.tup []) [(1, .fi l)] (by kernel_rfl) trivial ?_
  exact ⟨(by kernel_rfl), (by rw [← hfin])⟩
theorem flow_piece1 (c : Int) (a : Arc) : ACall Tryd.prog 62 [.agg [(.i a.src), (.i a.dst), (.i a.cap)], .p 1] [(ZbF22 c)] (fun ov oh => ov = .one (.bool (srcIs c a)) ∧ oh = [(ZbF22 c)]) := by
 refine acall_intro hT Tryd.func62 rfl (by kernel_rfl) rfl (by kernel_rfl) ?_
 refine kq [] ⟨8, [(1, .p 1), (2, .p 102)], [(ZbF22 c), (102, .box 1 3 [(.i a.src), (.i a.dst), (.i a.cap)])]⟩ hT (by kernel_rfl) trivial ?_
 refine kq [(0 < 1), (0 < 1)] ⟨8, [(3, .one (.bool (decide (a.src = c))))], [(ZbF22 c)]⟩ hT (by kernel_rfl) ⟨(by decide), (by decide), trivial⟩ ?_
 refine awp_ret ?_
 refine kRet.ret _ [] [] (.one (.bool (decide (a.src = c)))) [(ZbF22 c)] (by kernel_rfl) trivial ?_
 exact ⟨(by kernel_rfl), (by kernel_rfl)⟩
theorem flow_piece (n s t : Int) (es : List Arc) (left : List Int) (a : Int) (hG : GOk n es 0) (hll : left.length = es.length) (hnn : ∀ j, j < es.length → 0 ≤ left.getD j 0) (h0 : 0 ≤ a) (h1 : a < n) (hat : a ≠ t) (hg : Goes es left t a) : ACall Tryd.prog 47 [.agg [(.i n), (.i s), (.i t), (.ro (.arcs es))], .one (.ro (.ints .i64 left)), .i a] [] (fun ov oh => ∃ (m : Int) (B : List Int) (r : Bool), ((r = true ∧ ∃ x, PieceOk es left (m, B) x x) ∨ (r = false ∧ PieceOk es left (m, B) a t)) ∧ (((m, B), r) = (pieceF es left t (n.toNat + 1) [] [a] a)) ∧ ov = .tup [(true, (ZbF19 m B)), (false, [(.bool r)])] ∧ oh = [(ZbF14 B)]) := by
 refine acall_intro hT Tryd.func47 rfl (by kernel_rfl) rfl (by kernel_rfl) ?_
 refine pwp_start ?_
 have hn1 := hG.n1
 have hn2 := hG.n2
 have hle := hG.len
 refine pwp_seq_lift ?_
 refine kr [] ⟨70, [(ZbF3 left), (3, .p 103), (5, .p 105), (6, .p 106)], (ZbF2 n s t es a)⟩ hT (by kernel_rfl) trivial ?_
 refine pwp_seq_lift ?_
 refine kr [] ⟨70, [(ZbF3 left), (3, .p 103), (5, .p 105), (6, .p 106), (8, .one .nils)], (ZbF2 n s t es a)⟩ hT (by kernel_rfl) trivial ?_
 refine pwp_seq (pwp_region ?_)
 refine pops_newmap (d := 13) rfl rfl rfl rfl (by kernel_rfl) Tryd.underlying115 (fun x hx => by cases hx) ?_
 intro b
 refine pops_cut [1, 3, 5, 6, 8, 13] [103, 105, 106] ⟨70, [(ZbF3 left), (3, .p 103), (5, .p 105), (6, .p 106), (8, .one .nils), (13, .one (.mapv b))], (ZbF2 n s t es a)⟩ (by kernel_rfl) ?_
 refine pops_run 1 [1, 3, 5, 6, 8, 13, 14] [103, 105, 106] [(0 < 1)] ⟨70, [(ZbF3 left), (3, .p 103), (5, .p 105), (6, .p 106), (8, .one .nils), (13, .one (.mapv b)), (14, .i a)], (ZbF2 n s t es a)⟩ hT (by kernel_rfl) (by kernel_rfl) ⟨(by decide), trivial⟩ ?_
 refine pops_setmap (n := a) (v := (0)) rfl (.inr rfl) rfl rfl Tryd.underlying115 Tryd.underlying3 (by kernel_rfl) (by kernel_rfl) (by kernel_rfl) (by rfl) ?_
 refine pops_cut [1, 3, 5, 6, 8, 13] [103, 105, 106] ⟨70, [(ZbF3 left), (3, .p 103), (5, .p 105), (6, .p 106), (8, .one .nils), (13, .one (.mapv b))], (ZbF2 n s t es a)⟩ (by kernel_rfl) ?_
 refine pops_run 2 [1, 3, 5, 6, 8, 9] [103, 105, 106] [] ⟨70, [(ZbF3 left), (3, .p 103), (5, .p 105), (6, .p 106), (8, .one .nils), (9, .one (.mapv b))], (ZbF2 n s t es a)⟩ hT (by kernel_rfl) (by kernel_rfl) trivial ?_
 refine pops_end (by kernel_rfl) ?_
 refine pwp_seq ?_
 refine pwp_block ?_
 refine pwp_weak (awk_empty 5008 (.fi []) rfl (by decide) _) ?_
 refine pwp_weak (awk_slot 8 (.one .nils) (.w 5008 0) _ (by kernel_rfl) (.one (wkv_nils (o := .fi []) (by kernel_rfl)))) ?_
 refine pwp_loop (I := fun κ D σ => ∃ (B W : List Int) (c : Int), ((Chn es left B W) ∧ (W.Nodup) ∧ (W.getD B.length 0 = c) ∧ (W.getD 0 0 = a) ∧ (∀ v ∈ W, 0 ≤ v ∧ v < n) ∧ (pieceF es left t (n.toNat + 1 - B.length) B W c = (pieceF es left t (n.toNat + 1) [] [a] a)) ∧ n.toNat + 1 - W.length = κ) ∧ D = some (b, (seenOf W)) ∧ σ = ⟨70, [(ZbF3 left), (3, .p 103), (5, .p 105), (6, .p 106), (ZbF10 B), (9, .one (.mapv b))], (ZbF1 n s t es c B)⟩) _ ⟨[], [a], a, ⟨(by exact Chn.start a), (by simp), (by rfl), (by rfl), (by intro v hv; rw [List.mem_singleton.1 hv]; exact ⟨h0, h1⟩), (by rfl), rfl⟩, (by rfl), (by kernel_rfl)⟩ ?_
 rintro κ _ _ ⟨B, W, c, ⟨hC, hW, hct, hw0, hr, hF, rfl⟩, rfl, rfl⟩
 have hWl := nodup_int hW hr
 have hwl := hC.wl
 have hc0 := hr c (by rw [← hct]; exact getD_mem (by omega))
 refine pwp_seq_lift ?_
 refine kq [(0 < 1), (0 < 1)] ⟨70, [(ZbF3 left), (3, .p 103), (5, .p 105), (6, .p 106), (ZbF10 B), (9, .one (.mapv b)), (19, .one (.bool (decide (c ≠ t))))], (ZbF1 n s t es c B)⟩ hT (by kernel_rfl) ⟨(by decide), (by decide), trivial⟩ ?_
 refine awp_cond (b := (decide (c ≠ t))) (by kernel_rfl) (fun c3 => ?_) (fun c3 => ?_)
 ·
  try simp only [bs] at c3
  have hc3 : c ≠ t := by omega
  obtain ⟨K, hK1, hK2, hK3⟩ := hC.out hct hw0 hc3 hg
  have hidx := idxOf_le (p := srcIs c) (d := default) hK1 (decide_eq_true hK3)
  refine awp_skip ?_
  refine pwp_block ?_
  refine pwp_seq_lift ?_
  refine awp_region ?_
  refine ko 3 [(0 < 1)] ⟨70, [(ZbF3 left), (3, .p 103), (5, .p 105), (6, .p 106), (ZbF10 B), (9, .one (.mapv b)), (21, .one (.ro (.arcs es))), (22, .one (.fn 62 [(.ptr 105 0 0)]))], (ZbF1 n s t es c B)⟩ hT (by kernel_rfl) (by kernel_rfl) ⟨(by decide), trivial⟩ ?_
  refine aops_call [(1, 105)] [] false ⟨true, [], 61, [.one (.ro (.arcs es)), .one (.fn 62 [(.ptr 1 0 0)])], [(ZbF22 c)]⟩ [.one (.ro (.arcs es)), .one (.fn 62 [(.ptr 1 0 0)])] (sm := ⟨70, [(ZbF3 left), (3, .p 103), (5, .p 105), (6, .p 106), (ZbF10 B), (9, .one (.mapv b)), (21, .one (.ro (.arcs es))), (22, .one (.fn 62 [(.ptr 105 0 0)])), (23, .whn false (.one .any))], (ZbF1 n s t es c B)⟩) (by kernel_rfl) (by kernel_rfl) (by decide) (fun _ => trivial) rfl (fun _ => idxf_arcs_i 62 (srcIs c) es c (fun x hx => flow_piece1 c x)) (fun _ v Hr hv => ?_) (fun h => by cases h)
  obtain ⟨rfl, rfl⟩ := hv
  refine ⟨⟨70, [(ZbF3 left), (3, .p 103), (5, .p 105), (6, .p 106), (ZbF10 B), (9, .one (.mapv b)), (21, .one (.ro (.arcs es))), (22, .one (.fn 62 [(.ptr 105 0 0)])), (23, .i (idxOf (srcIs c) es))], (ZbF1 n s t es c B)⟩, by kernel_rfl, ?_⟩
  refine ko 1 [] ⟨70, [(ZbF3 left), (3, .p 103), (5, .p 105), (6, .p 106), (ZbF10 B), (9, .one (.mapv b)), (10, .i (idxOf (srcIs c) es))], (ZbF1 n s t es c B)⟩ hT (by kernel_rfl) (by kernel_rfl) trivial ?_
  refine aops_end (by kernel_rfl) ?_
  refine pwp_seq_lift ?_
  refine awp_block ?_
  refine awp_loop (I := fun κ σ => ∃ (k : Int), ((0 ≤ k ∧ k ≤ (K : Int)) ∧ (∀ j, j < k.toNat → ¬ (0 < left.getD j 0 ∧ (es.getD j default).src = c)) ∧ ((K : Int) - k).toNat = κ) ∧ σ = ⟨70, [(ZbF3 left), (3, .p 103), (5, .p 105), (6, .p 106), (ZbF10 B), (9, .one (.mapv b)), (10, .i k)], (ZbF1 n s t es c B)⟩) _ ⟨(idxOf (srcIs c) es), ⟨(by exact hidx), (by intro j hj q; have := idxOf_before (p := srcIs c) (d := default) (l := es) (j := j) (by omega); rw [srcIs, decide_eq_false_iff_not] at this; exact this q.2), rfl⟩, (by kernel_rfl)⟩ ?_
  rintro κ _ ⟨k, ⟨hk, hmin, rfl⟩, rfl⟩
  refine awp_seq ?_
  refine awp_seq (awp_still [1, 3, 5, 6, 8, 9, 10, 38] [103, 105, 106, 5008] [((0 : Int) ≤ k), (k < ((left.length : Nat) : Int)), (ZbFT (ZbFb0 left k)), (ZbFL (ZbFb0 left k)), (ZbFT (ZbFb0 left k)), (ZbFT (ZbFb0 left k)), ((ZbFb0 left k) = true → ((0 : Int) ≤ k)), ((ZbFb0 left k) = true → (k < ((es.length : Nat) : Int))), (ZbFT (ZbFb0 left k)), (ZbFT (ZbFb0 left k)), (ZbFL (ZbFb0 left k)), (ZbFT (ZbFb0 left k)), (ZbFT (ZbFb0 left k)), (ZbFG (ZbFb0 left k))] ⟨70, [(ZbF3 left), (3, .p 103), (5, .p 105), (6, .p 106), (ZbF10 B), (9, .one (.mapv b)), (10, .i k), (38, .one (.bool ((decide ((List.getD left (Int.toNat k) 0) = 0)) || (decide (((List.getD es (Int.toNat k) default).src) ≠ c)))))], (ZbF1 n s t es c B)⟩ (by kernel_rfl) (by kernel_rfl) hT (by kernel_rfl) ⟨(by omega), (by omega), (fun _ h => h), (fun _ => by decide), (fun _ h => h), (fun _ h => h), (by intro hg; simp only [bs, ZbFb0] at hg; omega), (by intro hg; simp only [bs, ZbFb0] at hg; omega), (fun _ h => h), (fun _ h => h), (fun _ => by decide), (fun _ h => h), (fun _ h => h), id, trivial⟩ ?_)
  refine awp_cond (b := ((decide ((List.getD left (Int.toNat k) 0) = 0)) || (decide (((List.getD es (Int.toNat k) default).src) ≠ c)))) (by kernel_rfl) (fun c5 => ?_) (fun c5 => ?_)
  ·
   try simp only [bs] at c5
   have hkK : k ≠ (K : Int) := fun q => by rw [q, Int.toNat_natCast] at c5; rcases c5 with c | c; omega; exact c hK3
   refine awp_skip ?_
   refine awp_block ?_
   refine kr [(-9223372036854775808 ≤ (k + 1) ∧ (k + 1) ≤ 9223372036854775807)] ⟨70, [(ZbF3 left), (3, .p 103), (5, .p 105), (6, .p 106), (ZbF10 B), (9, .one (.mapv b)), (10, .i (k + 1))], (ZbF1 n s t es c B)⟩ hT (by kernel_rfl) ⟨(by omega), trivial⟩ ?_
   refine loop_end _ ?_ ⟨(k + 1), ⟨(by omega), (by intro j hj; rw [show (k + 1).toNat = k.toNat + 1 by omega] at hj; rcases Nat.lt_succ_iff_lt_or_eq.1 hj with q | q; exact hmin j q; rw [q]; rintro ⟨q1, q2⟩; rcases c5 with c9 | c9; omega; exact c9 q2), rfl⟩, (by kernel_rfl)⟩
   omega
  ·
   try simp only [bs] at c5
   have hk2 : 0 < left.getD k.toNat 0 ∧ (es.getD k.toNat default).src = c := by have := hnn k.toNat (by omega); simp only [not_or, Decidable.not_not] at c5; exact ⟨by omega, c5.2⟩
   have hstep := stepK_is (left := left) (show k.toNat < es.length by omega) hk2.1 hk2.2 hmin
   have hC1 := hC.snoc hW hk.1 (by omega) (hk2.2.trans hct.symm) hk2.1
   obtain ⟨a1, a2, a3, a4, a5, a6⟩ := hG.at_ (i := k.toNat) (by omega)
   have hkin : ∀ q ∈ B ++ [k], 0 ≤ q ∧ q < left.length := fun q hq => by rcases List.mem_append.1 hq with hq | hq; (obtain ⟨j, hj, e⟩ := mem_getD 0 hq; rw [← e]; have := hC.st j hj; omega); (rw [List.mem_singleton.1 hq]; omega)
   refine awp_exit ?_
   refine pwp_seq_lift ?_
   refine kr [(B.length = B.length), ((B.length + 1) * 8 ≤ 140737488355328), ((B.length + 1) ≤ 9223372036854775807)] ⟨70, [(ZbF3 left), (3, .p 103), (5, .p 105), (6, .p 106), (ZbF8 B), (9, .one (.mapv b)), (10, .i k)], [(ZbF13 n s t es), (105, .box 1 1 [(.i c)]), ZbF7, (ZbF23 B k)]⟩ hT (by kernel_rfl) ⟨(by omega), (by omega), (by omega), trivial⟩ ?_
   refine pwp_seq_lift ?_
   refine kr [(0 < 1), ((0 : Int) ≤ k), (k < ((es.length : Nat) : Int)), (0 < 1)] ⟨70, [(ZbF3 left), (3, .p 103), (5, .p 105), (6, .p 106), (ZbF8 B), (9, .one (.mapv b))], (ZbF0 n s t es k B)⟩ hT (by kernel_rfl) ⟨(by decide), (by omega), (by omega), (by decide), trivial⟩ ?_
   refine pwp_seq ?_
   refine pwp_seq (pwp_region ?_)
   refine pops_run 2 [1, 3, 5, 6, 8, 9, 52, 53] [103, 105, 106, 5008] [(0 < 1)] ⟨70, [(ZbF3 left), (3, .p 103), (5, .p 105), (6, .p 106), (ZbF8 B), (9, .one (.mapv b)), (52, .one (.mapv b)), (53, .one (ZbF20 es k))], (ZbF0 n s t es k B)⟩ hT (by kernel_rfl) (by kernel_rfl) ⟨(by decide), trivial⟩ ?_
   refine pops_lookup (d := 54) (n := ((List.getD es (Int.toNat k) default).dst)) rfl rfl rfl rfl (by kernel_rfl) Tryd.underlying115 Tryd.underlying3 (fun _ => by kernel_rfl) (by kernel_rfl) (by kernel_rfl) ?_
   refine pops_cut [1, 3, 5, 6, 8, 9, 52, 53, 54] [103, 105, 106, 5008] ⟨70, [(ZbF3 left), (3, .p 103), (5, .p 105), (6, .p 106), (ZbF8 B), (9, .one (.mapv b)), (52, .one (.mapv b)), (53, .one (ZbF20 es k)), (54, .tup [(false, [(.i (Option.getD (findD ((List.getD es (Int.toNat k) default).dst) (seenOf W)) 0))]), (false, [(ZbF9 es k W)])])], (ZbF0 n s t es k B)⟩ (by kernel_rfl) ?_
   refine pops_cut [1, 3, 5, 6, 8, 9, 54] [103, 105, 106, 5008] ⟨70, [(ZbF3 left), (3, .p 103), (5, .p 105), (6, .p 106), (ZbF8 B), (9, .one (.mapv b)), (54, .tup [(false, [(.i (Option.getD (findD ((List.getD es (Int.toNat k) default).dst) (seenOf W)) 0))]), (false, [(ZbF9 es k W)])])], (ZbF0 n s t es k B)⟩ (by kernel_rfl) ?_
   refine pops_run 5 [1, 3, 5, 6, 8, 9, 11, 12] [103, 105, 106, 5008] [] ⟨70, [(ZbF3 left), (3, .p 103), (5, .p 105), (6, .p 106), (ZbF8 B), (9, .one (.mapv b)), (11, .i (Option.getD (findD ((List.getD es (Int.toNat k) default).dst) (seenOf W)) 0)), (12, .one (ZbF9 es k W))], (ZbF0 n s t es k B)⟩ hT (by kernel_rfl) (by kernel_rfl) trivial ?_
   refine pops_end (by kernel_rfl) ?_
   refine pwp_seq_lift ?_
   refine kr [] ⟨70, [(ZbF3 left), (3, .p 103), (5, .p 105), (6, .p 106), (ZbF8 B), (9, .one (.mapv b)), (11, .i (Option.getD (findD ((List.getD es (Int.toNat k) default).dst) (seenOf W)) 0)), (57, .one (ZbF9 es k W))], (ZbF0 n s t es k B)⟩ hT (by kernel_rfl) trivial ?_
   refine pwp_tail_lift ?_
   refine awp_cond (b := (Option.isSome (findD ((List.getD es (Int.toNat k) default).dst) (seenOf W)))) (by kernel_rfl) (fun c10 => ?_) (fun c10 => ?_)
   ·
    try simp only [bs] at c10
    obtain ⟨v, hv⟩ := Option.isSome_iff_exists.1 c10
    obtain ⟨hv0, hv1, _⟩ := seen_some hv
    rw [show (Option.getD (findD ((List.getD es (Int.toNat k) default).dst) (seenOf W)) 0) = v from by rw [hv]; rfl]
    refine awp_seq (awp_region ?_)
    refine ko 4 [((0 : Int) ≤ v), (v ≤ (((B.length + 1) : Nat) : Int)), ((((B.length + 1) : Nat) : Int) ≤ (((B.length + 1) : Nat) : Int))] ⟨70, [(6, .p 106), (58, .one (.ro (.ints .i64 left))), (ZbF21 v B)], [ZbF7, (ZbF23 B k)]⟩ hT (by kernel_rfl) (by kernel_rfl) ⟨(by omega), (by omega), (by omega), trivial⟩ ?_
    refine aops_call [] [(9001, 162)] true ⟨true, [], 63, [.one (.ro (.ints .i64 left)), .one (.ro (.ints .i64 (List.drop (Int.toNat v) (List.take (nadd (Int.toNat v) ((B.length + 1) - (Int.toNat v))) (B ++ [k])))))], []⟩ [.one (.ro (.ints .i64 left)), .one (.ro (.ints .i64 (List.drop v.toNat (B ++ [k]))))] (sm := ⟨70, [(6, .p 106), (58, .one (.ro (.ints .i64 left))), (ZbF21 v B), (62, .whn false (.one .any))], [ZbF7, (ZbF23 B k)]⟩) (by kernel_rfl) (by kernel_rfl) (by decide) (fun _ => trivial) (by rw [show (List.drop (Int.toNat v) (List.take (nadd (Int.toNat v) ((B.length + 1) - (Int.toNat v))) (B ++ [k]))) = (List.drop v.toNat (B ++ [k])) from by first | rfl | (rw [List.take_of_length_le (by simp only [lens, nadd_eq]; omega)])]) (fun _ => flow_amount left (List.drop v.toNat (B ++ [k])) (by simp only [List.length_drop, lens]; omega) (by simp only [List.length_drop, lens]; omega) (fun q hq => hkin q (List.mem_of_mem_drop hq))) (fun _ v Hr hv => ?_) (fun h => by cases h)
    obtain ⟨m, hm, rfl, rfl⟩ := hv
    refine ⟨⟨70, [(6, .p 106), (58, .one (.ro (.ints .i64 left))), (ZbF21 v B), (62, .agg [(.i m), (.w 162 (List.length (List.drop v.toNat (B ++ [k]))))])], [ZbF7, (162, .fi (List.drop v.toNat (B ++ [k]))), (ZbF23 B k)]⟩, by kernel_rfl, ?_⟩
    refine ko 2 [(0 < 1)] ⟨70, [(6, .p 106), (7, .one (.bool true))], [(106, .box 1 2 [(.i m), (.w 162 (List.length (List.drop v.toNat (B ++ [k]))))]), (162, .fi (List.drop v.toNat (B ++ [k])))]⟩ hT (by kernel_rfl) (by kernel_rfl) ⟨(by decide), trivial⟩ ?_
    refine aops_end_seq (by kernel_rfl) ?_
    refine awp_weak (awk_ren 162 9001 (s' := ⟨70, [(6, .p 106), (7, .one (.bool true))], [(106, .box 1 2 [(.i m), (.w 9001 (List.length (List.drop v.toNat (B ++ [k]))))]), (9001, .fi (List.drop v.toNat (B ++ [k])))]⟩) (by kernel_rfl)) ?_
    refine awp_ret ?_
    refine kRet.ret _ [9001] [(0 < 1)] (.tup [(true, [(.i m), (.w 9001 (List.length (List.drop v.toNat (B ++ [k]))))]), (false, [(.bool true)])]) [(9001, .fi (List.drop v.toNat (B ++ [k])))] (by kernel_rfl) ⟨(by decide), trivial⟩ ?_
    exact ⟨m, (List.drop v.toNat (B ++ [k])), true, (by exact .inl ⟨rfl, piece_round hC1 hv hm⟩), (by rw [← hF, pieceF_round (by omega) hc3 hk.1 hstep hv, ← hm.is]), (by kernel_rfl), (by kernel_rfl)⟩
   ·
    try simp only [bs] at c10
    have hnone : findD (es.getD k.toNat default).dst (seenOf W) = none := by cases hq : findD (es.getD k.toNat default).dst (seenOf W); rfl; rw [hq] at c10; cases c10
    have hyW := seen_none hnone
    have hW1 : (W ++ [(es.getD k.toNat default).dst]).Nodup := List.nodup_append.2 ⟨hW, by simp, fun x hx y hy e => hyW (by rw [← List.mem_singleton.1 hy, ← e]; exact hx)⟩
    have hr1 : ∀ q ∈ W ++ [(es.getD k.toNat default).dst], 0 ≤ q ∧ q < n := fun q hq => by rcases List.mem_append.1 hq with hq | hq; exact hr q hq; rw [List.mem_singleton.1 hq]; exact ⟨a3, a4⟩
    refine awp_skip ?_
    refine pwp_region ?_
    refine pops_run 4 [1, 3, 5, 6, 8, 9, 63, 64, 66] [103, 105, 106, 5008] [(0 < 1)] ⟨70, [(ZbF3 left), (3, .p 103), (5, .p 105), (6, .p 106), (ZbF8 B), (9, .one (.mapv b)), (63, .one (.mapv b)), (64, .one (ZbF20 es k)), (66, .i (((B.length + 1) : Nat) : Int))], (ZbF0 n s t es k B)⟩ hT (by kernel_rfl) (by kernel_rfl) ⟨(by decide), trivial⟩ ?_
    refine pops_setmap (n := ((List.getD es (Int.toNat k) default).dst)) (v := (((B.length + 1) : Nat) : Int)) rfl (.inl rfl) rfl rfl Tryd.underlying115 Tryd.underlying3 (by kernel_rfl) (by kernel_rfl) (by kernel_rfl) (by exact hnone) ?_
    refine pops_cut [1, 3, 5, 6, 8, 9] [103, 105, 106, 5008] ⟨70, [(ZbF3 left), (3, .p 103), (5, .p 105), (6, .p 106), (ZbF8 B), (9, .one (.mapv b))], (ZbF0 n s t es k B)⟩ (by kernel_rfl) ?_
    refine pops_end (by kernel_rfl) ?_
    refine ploop_end _ ?_ ⟨(B ++ [k]), (W ++ [(es.getD k.toNat default).dst]), ((List.getD es (Int.toNat k) default).dst), ⟨(by exact hC1), (by exact hW1), (by rw [snoc_at, List.length_append, List.length_singleton, if_neg (by omega), if_pos (by omega)]), (by rw [snoc_at, if_pos (by omega)]; exact hw0), (by exact hr1), (by rw [← hF]; exact (pieceF_next (by simp only [List.length_append, List.length_singleton]; omega) hc3 hk.1 hstep hnone).symm), rfl⟩, (by rw [seenOf_snoc, hwl]), (by first | (simp only [ZbF0, ZbF1, ZbF2, ZbF3, ZbF4, ZbF5, ZbF6, ZbF7, ZbF8, ZbF9, ZbF10, ZbF11, ZbF12, ZbF13, ZbF14, ZbF15, ZbF16, ZbF17, ZbF18, ZbF19, ZbF20, ZbF21, ZbF22, ZbF23, lens]; done) | (simp only [Nat.zero_add]; done) | simp only [ZbF0, ZbF1, ZbF2, ZbF3, ZbF4, ZbF5, ZbF6, ZbF7, ZbF8, ZbF9, ZbF10, ZbF11, ZbF12, ZbF13, ZbF14, ZbF15, ZbF16, ZbF17, ZbF18, ZbF19, ZbF20, ZbF21, ZbF22, ZbF23, lens, Nat.zero_add])⟩
    simp only [List.length_append, List.length_singleton]; omega
 ·
  try simp only [bs] at c3
  have hc3 : c = t := by omega
  have hBp : 0 < B.length := by rcases Nat.eq_zero_or_pos B.length with q | q; rw [q] at hct; omega; exact q
  have hB100 : B.length ≤ 100 := by omega
  have hkin : ∀ q ∈ B, 0 ≤ q ∧ q < left.length := fun q hq => by obtain ⟨j, hj, e⟩ := mem_getD 0 hq; rw [← e]; have := hC.st j hj; omega
  refine awp_exit ?_
  refine pwp_seq_lift ?_
  refine awp_region ?_
  refine ko 2 [] ⟨70, [(6, .p 106), (67, .one (.ro (.ints .i64 left))), (68, .w 5008 B.length)], [ZbF7, (5008, .fi B)]⟩ hT (by kernel_rfl) (by kernel_rfl) trivial ?_
  refine aops_call [] [(9001, 169)] true ⟨true, [], 63, [.one (.ro (.ints .i64 left)), .one (.ro (.ints .i64 (List.take B.length B)))], []⟩ [.one (.ro (.ints .i64 left)), .one (.ro (.ints .i64 B))] (sm := ⟨70, [(6, .p 106), (67, .one (.ro (.ints .i64 left))), (68, .w 5008 B.length), (69, .whn false (.one .any))], [ZbF7, (5008, .fi B)]⟩) (by kernel_rfl) (by kernel_rfl) (by decide) (fun _ => trivial) (by rw [show (List.take B.length B) = B from List.take_of_length_le (by first | omega | simp)]) (fun _ => flow_amount left B (by assumption) (by assumption) (by assumption)) (fun _ v Hr hv => ?_) (fun h => by cases h)
  obtain ⟨m13, hm13, rfl, rfl⟩ := hv
  refine ⟨⟨70, [(6, .p 106), (67, .one (.ro (.ints .i64 left))), (68, .w 5008 B.length), (69, .agg [(.i m13), (.w 169 B.length)])], [ZbF7, (169, .fi B), (5008, .fi B)]⟩, by kernel_rfl, ?_⟩
  refine ko 2 [(0 < 1)] ⟨70, [(6, .p 106), (7, .one (.bool false))], [(106, .box 1 2 [(.i m13), (.w 169 B.length)]), (169, .fi B)]⟩ hT (by kernel_rfl) (by kernel_rfl) ⟨(by decide), trivial⟩ ?_
  refine aops_end (by kernel_rfl) ?_
  refine pwp_lift ?_
  refine awp_weak (awk_ren 169 9001 (s' := ⟨70, [(6, .p 106), (7, .one (.bool false))], [(106, .box 1 2 (ZbF19 m13 B)), (ZbF14 B)]⟩) (by kernel_rfl)) ?_
  refine awp_ret ?_
  refine kRet.ret _ [9001] [(0 < 1)] (.tup [(true, (ZbF19 m13 B)), (false, [(.bool false)])]) [(ZbF14 B)] (by kernel_rfl) ⟨(by decide), trivial⟩ ?_
  exact ⟨m13, B, false, (by exact .inr ⟨rfl, piece_way hC hW hw0 (hct.trans hc3) hBp hm13⟩), (by rw [← hF, pieceF_end (by omega) hc3, ← hm13.is]), (by kernel_rfl), (by kernel_rfl)⟩
end Go.Ab
set_option maxRecDepth 100000
namespace Go.Ab
open Go Go.Proofs
abbrev ZbG8 (a0 : Int) (a1 : Int) (a2 : Int) (a3 : List Arc) := ([(.i a0), (.i a1), (.i a2), (.ro (.arcs a3))] : List V1)
abbrev ZbG0 (a0 : Int) (a1 : Int) (a2 : Int) (a3 : List Arc) := ((102, .box 1 4 (ZbG8 a0 a1 a2 a3)) : Nat × Obj)
abbrev ZbG1 (a0 : List Int) := ((9, .w 129 a0.length) : Nat × AV)
abbrev ZbG2 (a0 : List (Int × List Int)) := ((11, .w 5011 a0.length) : Nat × AV)
abbrev ZbG3 (a0 : List (Int × List Int)) := ((10, .w 5010 a0.length) : Nat × AV)
abbrev ZbG4 (a0 : List Int) := ((62, .i ((a0.length : Nat) : Int)) : Nat × AV)
abbrev ZbG5 (a0 : List Int) := ((129, .fi a0) : Nat × Obj)
abbrev ZbG6 (a0 : List (Int × List Int)) := ((5011, .recs (.pieces a0)) : Nat × Obj)
abbrev ZbG7 (a0 : List (Int × List Int)) := ((5010, .recs (.pieces a0)) : Nat × Obj)
abbrev ZbG9 (a0) (a1 : List Int) := ([(.i a0), (.ro (.ints .i64 a1))] : List V1)
abbrev ZbG10 (a0) := ((63, .i (a0 : Int)) : Nat × AV)
abbrev ZbG11 (a0) := ((14, .i (a0 : Int)) : Nat × AV)
abbrev ZbG12 (a0) (a1 : Int) (a2 : List Int) := ([(.i (min a0 a1)), (.ro (.ints .i64 a2))] : List V1)
abbrev ZbG13 (a0 : Int) (a1 : List Arc) := ([(.i a0), (.i (-1)), (.i (-1)), (.ro (.arcs a1))] : List V1)
abbrev ZbG14 (a0 : List Int) (a1 : List (Int × List Int)) (a2 : List (Int × List Int)) (a3) (a4 : List Int) := ([(2, .p 102), (ZbG1 a0), (ZbG3 a1), (ZbG2 a2), (ZbG11 a3), (15, .p 115), (ZbG4 a4), (ZbG10 a3)] : List (Nat × AV))
abbrev ZbG15 (a0 : List (Int × List Int)) := ((11, .w 5011 (a0.length + 1)) : Nat × AV)
abbrev ZbG16 (a0 : List (Int × List Int)) := ((10, .w 5010 (a0.length + 1)) : Nat × AV)
abbrev ZbG17 (a0 : List (Int × List Int)) (a1) (a2 : Int) (a3 : List Int) := ((5010, .recs (.pieces (a0 ++ [((min a1 a2), a3)]))) : Nat × Obj)
abbrev ZbG18 (a0 : Int) (a1) := ((7, .i (a0 - (min a1 a0))) : Nat × AV)
abbrev ZbG19 (a0 : List Int) := ((58, .w 129 a0.length) : Nat × AV)
abbrev ZbG20 (a0 : List (Int × List Int)) (a1) (a2 : List Int) := ((5011, .recs (.pieces (a0 ++ [(a1, a2)]))) : Nat × Obj)
abbrev ZbG21 (a0 : List Int) := ((1, .one (.ro (.ints .i64 a0))) : Nat × AV)
abbrev ZbG22 (a0) (a1 : List Int) := ((64, .one (.bool (decide ((a0 : Int) < ((a1.length : Nat) : Int))))) : Nat × AV)
set_option maxHeartbeats 1000000 in
theorem flow_split (n s t : Int) (es : List Arc) (f : List Int) : ACall Tryd.prog 31 [.agg (ZbG8 n s t es), .one (.ro (.ints .i64 f))] [] (fun ov oh => ∃ (ways rounds : List (Int × List Int)) (e : Int), (SplitOk n s t es f ways rounds e) ∧ ov = .tup [(false, [(.rs (.pieces ways))]), (false, [(.rs (.pieces rounds))]), (false, [(.i e)])] ∧ oh = []) := by
 refine acall_intro hT Tryd.func31 rfl (by kernel_rfl) rfl (by kernel_rfl) ?_
 refine kq [] ⟨97, [(ZbG21 f), (2, .p 102)], [(ZbG0 n s t es)]⟩ hT (by kernel_rfl) trivial ?_
 refine awp_seq (awp_region ?_)
 refine ko 2 [(0 < 1)] ⟨97, [(ZbG21 f), (2, .p 102), (18, .agg (ZbG8 n s t es)), (19, .one (.ro (.ints .i64 f)))], [(ZbG0 n s t es)]⟩ hT (by kernel_rfl) (by kernel_rfl) ⟨(by decide), trivial⟩ ?_
 refine aops_pure false ⟨true, [], 45, [.agg (ZbG8 n s t es), .one (.ro (.ints .i64 f))], []⟩ [.agg (ZbG8 n s t es), .one (.ro (.ints .i64 f))] (.tup [(false, [(.i (okI (flowErr n s t es f) (gone es f s)))]), (false, [(.i (flowErr n s t es f))])]) ⟨97, [(ZbG21 f), (2, .p 102), (18, .agg (ZbG8 n s t es)), (19, .one (.ro (.ints .i64 f))), (20, .tup [(false, [(.i (okI (flowErr n s t es f) (gone es f s)))]), (false, [(.i (flowErr n s t es f))])])], [(ZbG0 n s t es)]⟩ (by kernel_rfl) (by kernel_rfl) (fun _ => trivial) rfl (fun _ => flow_value n s t es f) ?_
 refine ko 5 [] ⟨97, [(ZbG21 f), (2, .p 102), (7, .i (okI (flowErr n s t es f) (gone es f s))), (8, .i (flowErr n s t es f))], [(ZbG0 n s t es)]⟩ hT (by kernel_rfl) (by kernel_rfl) trivial ?_
 refine aops_end_seq (by kernel_rfl) ?_
 refine awp_seq ?_
 refine kq [] ⟨97, [(ZbG21 f), (2, .p 102), (7, .i (okI (flowErr n s t es f) (gone es f s))), (8, .i (flowErr n s t es f)), (24, .one (.bool (decide ((flowErr n s t es f) ≠ 0))))], [(ZbG0 n s t es)]⟩ hT (by kernel_rfl) trivial ?_
 refine awp_cond (b := (decide ((flowErr n s t es f) ≠ 0))) (by kernel_rfl) (fun c2 => ?_) (fun c2 => ?_)
 ·
  try simp only [bs] at c2
  refine kq [] ⟨97, [(4, .one .nils), (5, .one .nils), (6, .i (flowErr n s t es f))], []⟩ hT (by kernel_rfl) trivial ?_
  refine awp_weak (awk_slot 4 (.one .nils) (.one (.rs (.pieces []))) _ (by kernel_rfl) (.one (wkv_nil1 rfl))) ?_
  refine awp_weak (awk_slot 5 (.one .nils) (.one (.rs (.pieces []))) _ (by kernel_rfl) (.one (wkv_nil1 rfl))) ?_
  refine awp_ret ?_
  refine kRet.ret _ [] [] (.tup [(false, [(.rs (.pieces []))]), (false, [(.rs (.pieces []))]), (false, [(.i (flowErr n s t es f))])]) [] (by kernel_rfl) trivial ?_
  exact ⟨[], [], (flowErr n s t es f), (by exact .inl ⟨c2, rfl, rfl, rfl⟩), (by kernel_rfl), (by kernel_rfl)⟩
 ·
  try simp only [bs] at c2
  have hE : flowErr n s t es f = 0 := by omega
  have hfl := flowErr_ok hE
  have hok := hfl.net
  have h1 := hok.n1
  have h2 := hok.n2
  have h3 := hok.len
  have h4 := hok.s0
  have h5 := hok.s1
  have h6 := hok.t0
  have h7 := hok.t1
  have hlen := hfl.fin.len
  have hf10 := hfl.f10
  refine awp_skip ?_
  refine awp_seq ?_
  rw [show (okI (flowErr n s t es f) (gone es f s)) = (gone es f s) from by exact okI_ok _ hE]
  refine kq [] ⟨97, [(ZbG21 f), (2, .p 102), (7, .i (gone es f s)), (27, .one (.bool (decide ((gone es f s) < 0))))], [(ZbG0 n s t es)]⟩ hT (by kernel_rfl) trivial ?_
  refine awp_cond (b := (decide ((gone es f s) < 0))) (by kernel_rfl) (fun c4 => ?_) (fun c4 => ?_)
  ·
   try simp only [bs] at c4
   refine kq [] ⟨97, [(4, .one .nils), (5, .one .nils), (6, .i 9)], []⟩ hT (by kernel_rfl) trivial ?_
   refine awp_weak (awk_slot 4 (.one .nils) (.one (.rs (.pieces []))) _ (by kernel_rfl) (.one (wkv_nil1 rfl))) ?_
   refine awp_weak (awk_slot 5 (.one .nils) (.one (.rs (.pieces []))) _ (by kernel_rfl) (.one (wkv_nil1 rfl))) ?_
   refine awp_ret ?_
   refine kRet.ret _ [] [] (.tup [(false, [(.rs (.pieces []))]), (false, [(.rs (.pieces []))]), (false, [(.i 9)])]) [] (by kernel_rfl) trivial ?_
   exact ⟨[], [], 9, (by exact .inr (.inl ⟨hE, c4, rfl, rfl, rfl⟩)), (by kernel_rfl), (by kernel_rfl)⟩
  ·
   try simp only [bs] at c4
   have hst0 := hok.ne
   have hG := hok.toGOk
   refine awp_skip ?_
   refine awp_seq (awp_region ?_)
   refine ko 1 [] ⟨97, [(2, .p 102), (7, .i (gone es f s)), (28, .one (.ro (.ints .i64 f)))], [(ZbG0 n s t es)]⟩ hT (by kernel_rfl) (by kernel_rfl) trivial ?_
   refine aops_call [] [(9001, 129)] false ⟨true, [], 30, [.one (.ro (.ints .i64 f))], []⟩ [.one (.ro (.ints .i64 f))] (sm := ⟨97, [(2, .p 102), (7, .i (gone es f s)), (28, .one (.ro (.ints .i64 f))), (29, .whn false (.one .any))], [(ZbG0 n s t es)]⟩) (by kernel_rfl) (by kernel_rfl) (by decide) (fun _ => trivial) rfl (fun _ => clone_ints f (by first | omega | (simp; omega))) (fun _ v Hr hv => ?_) (fun h => by cases h)
   obtain ⟨rfl, rfl⟩ := hv
   refine ⟨⟨97, [(2, .p 102), (7, .i (gone es f s)), (28, .one (.ro (.ints .i64 f))), (29, .w 129 f.length)], [(ZbG0 n s t es), (129, .fi f)]⟩, by kernel_rfl, ?_⟩
   refine ko 1 [] ⟨97, [(2, .p 102), (7, .i (gone es f s)), (ZbG1 f)], [(ZbG0 n s t es), (129, .fi f)]⟩ hT (by kernel_rfl) (by kernel_rfl) trivial ?_
   refine aops_end_seq (by kernel_rfl) ?_
   refine kq [] ⟨97, [(2, .p 102), (7, .i (gone es f s)), (ZbG1 f), (10, .one .nils), (11, .one .nils)], [(ZbG0 n s t es), (129, .fi f)]⟩ hT (by kernel_rfl) trivial ?_
   refine awp_seq ?_
   refine awp_block ?_
   refine awp_weak (awk_empty 5010 (.recs (.pieces [])) rfl (by decide) _) ?_
   refine awp_weak (awk_slot 10 (.one .nils) (.w 5010 0) _ (by kernel_rfl) (.one (wkv_nils (o := .recs (.pieces [])) (by kernel_rfl)))) ?_
   refine awp_weak (awk_empty 5011 (.recs (.pieces [])) rfl (by decide) _) ?_
   refine awp_weak (awk_slot 11 (.one .nils) (.w 5011 0) _ (by kernel_rfl) (.one (wkv_nils (o := .recs (.pieces [])) (by kernel_rfl)))) ?_
   have hS0 := Spl.start hfl (by omega)
   have hle0 : InB f := fun j => by by_cases hj : j < es.length; exact hf10 j hj; rw [getD_ge _ _ _ (by omega)]; omega
   refine awp_loop (I := fun κ σ => ∃ (left : List Int) (value : Int) (ways rounds : List (Int × List Int)), ((Spl n s t es f left value ways rounds) ∧ (InB left) ∧ value.toNat + (posL left).length = κ) ∧ σ = ⟨97, [(2, .p 102), (7, .i value), (ZbG1 left), (ZbG3 ways), (ZbG2 rounds)], [(ZbG0 n s t es), (ZbG5 left), (ZbG7 ways), (ZbG6 rounds)]⟩) _ ⟨f, (gone es f s), [], [], ⟨(by exact hS0), (by exact hle0), rfl⟩, (by kernel_rfl)⟩ ?_
   rintro κ _ ⟨left, value, ways, rounds, ⟨hS, hle, rfl⟩, rfl⟩
   have hll := hS.ll
   have hcw := hS.cnt
   have hpl := posL_le left
   have hv00 := hS.v0
   have hgb := hfl.bound s
   have htot := hS.tot
   refine awp_seq ?_
   refine kq [] ⟨97, [(2, .p 102), (7, .i value), (ZbG1 left), (ZbG3 ways), (ZbG2 rounds), (31, .one (.bool (decide ((0 : Int) < value))))], [(ZbG0 n s t es), (ZbG5 left), (ZbG7 ways), (ZbG6 rounds)]⟩ hT (by kernel_rfl) trivial ?_
   refine awp_cond (b := (decide ((0 : Int) < value))) (by kernel_rfl) (fun c8 => ?_) (fun c8 => ?_)
   ·
    try simp only [bs] at c8
    have hgo := hS.goes (by omega)
    have hp0 := h4
    have hp1 := h5
    have hpt := hst0
    have hvle : value ≤ 600000 := by have hs9 := sum_nonneg hS.okw; omega
    refine awp_skip ?_
    refine awp_block ?_
    refine awp_seq (awp_region ?_)
    refine ko 4 [(0 < 1), (0 < 1)] ⟨97, [(2, .p 102), (7, .i value), (ZbG1 left), (ZbG3 ways), (ZbG2 rounds), (33, .agg (ZbG8 n s t es)), (34, .w 129 left.length), (36, .i s)], [(ZbG0 n s t es), (ZbG5 left), (ZbG7 ways), (ZbG6 rounds)]⟩ hT (by kernel_rfl) (by kernel_rfl) ⟨(by decide), (by decide), trivial⟩ ?_
    refine aops_call [] [(9001, 137)] true ⟨true, [], 47, [.agg (ZbG8 n s t es), .one (.ro (.ints .i64 (List.take left.length left))), .i s], []⟩ [.agg (ZbG8 n s t es), .one (.ro (.ints .i64 left)), .i s] (sm := ⟨97, [(2, .p 102), (7, .i value), (ZbG1 left), (ZbG3 ways), (ZbG2 rounds), (33, .agg (ZbG8 n s t es)), (34, .w 129 left.length), (36, .i s), (37, .whn false (.one .any))], [(ZbG0 n s t es), (ZbG5 left), (ZbG7 ways), (ZbG6 rounds)]⟩) (by kernel_rfl) (by kernel_rfl) (by decide) (fun _ => trivial) (by rw [show (List.take left.length left) = left from List.take_of_length_le (by first | omega | simp)]) (fun _ => flow_piece n s t es left s hG hS.ll hS.nn hp0 hp1 hpt hgo) (fun _ v Hr hv => ?_) (fun h => by cases h)
    obtain ⟨m, B, r, hpc, hex, rfl, rfl⟩ := hv
    refine ⟨⟨97, [(2, .p 102), (7, .i value), (ZbG1 left), (ZbG3 ways), (ZbG2 rounds), (33, .agg (ZbG8 n s t es)), (34, .w 129 left.length), (36, .i s), (37, .tup [(true, [(.i m), (.w 137 B.length)]), (false, [(.bool r)])])], [(ZbG0 n s t es), (ZbG5 left), (137, .fi B), (ZbG7 ways), (ZbG6 rounds)]⟩, by kernel_rfl, ?_⟩
    refine ko 6 [(0 < 1)] ⟨97, [(2, .p 102), (7, .i value), (ZbG1 left), (ZbG3 ways), (ZbG2 rounds), (12, .p 112), (13, .one (.bool r))], [(ZbG0 n s t es), (112, .box 1 2 [(.i m), (.w 137 B.length)]), (ZbG5 left), (137, .fi B), (ZbG7 ways), (ZbG6 rounds)]⟩ hT (by kernel_rfl) (by kernel_rfl) ⟨(by decide), trivial⟩ ?_
    refine aops_end_seq (by kernel_rfl) ?_
    refine awp_seq ?_
    refine awp_weak (awk_seal 137 (s' := ⟨97, [(2, .p 102), (7, .i value), (ZbG1 left), (ZbG3 ways), (ZbG2 rounds), (12, .p 112), (13, .one (.bool r))], [(ZbG0 n s t es), (112, .box 1 2 [(.i m), (.ro (.ints .i64 (List.take B.length B)))]), (ZbG5 left), (ZbG7 ways), (ZbG6 rounds)]⟩) (by kernel_rfl)) ?_
    rw [show (List.take B.length B) = B from List.take_of_length_le (by first | omega | simp)]
    refine kq [] ⟨97, [(2, .p 102), (7, .i value), (ZbG1 left), (ZbG3 ways), (ZbG2 rounds), (12, .p 112), (40, .one (.bool r))], [(ZbG0 n s t es), (112, .box 1 2 (ZbG9 m B)), (ZbG5 left), (ZbG7 ways), (ZbG6 rounds)]⟩ hT (by kernel_rfl) trivial ?_
    refine awp_cond (b := r) (by kernel_rfl) (fun c10 => ?_) (fun c10 => ?_)
    ·
     have hP9 : ∃ x, PieceOk es left (m, B) x x := by rcases hpc with ⟨_, q⟩ | ⟨q, _⟩; exact q; rw [c10] at q; cases q
     obtain ⟨x9, hP⟩ := hP9
     have hnd := hP.nd
     have hal : B.length ≤ 100 := by have := hP.many; simp only at this; omega
     have hlt := hP.lt hS.ll
     simp only at hlt hnd
     have hm1 := hP.a1
     have hm2 := hP.top hle
     simp only at hm1 hm2
     have hSn := hS.round_step hP
     have hlen := hle.take hP hS.ll (by omega) (Int.le_refl _)
     have hls := taken_less hP hS.ll hS.nn
     simp only at hSn hlen hls
     refine kr [(0 < 1), (rounds.length = rounds.length), ((rounds.length + 1) * 32 ≤ 140737488355328), ((rounds.length + 1) ≤ 9223372036854775807)] ⟨97, [(2, .p 102), (7, .i value), (ZbG1 left), (ZbG3 ways), (ZbG15 rounds), (12, .p 112)], [(ZbG0 n s t es), (112, .box 1 2 (ZbG9 m B)), (ZbG5 left), (ZbG7 ways), (ZbG20 rounds m B)]⟩ hT (by kernel_rfl) ⟨(by decide), (by omega), (by omega), (by omega), trivial⟩ ?_
     refine awp_region ?_
     refine ko 2 [(0 < 1)] ⟨97, [(2, .p 102), (7, .i value), (ZbG1 left), (ZbG3 ways), (ZbG15 rounds), (ZbG19 left), (59, .agg (ZbG9 m B))], [(ZbG0 n s t es), (ZbG5 left), (ZbG7 ways), (ZbG20 rounds m B)]⟩ hT (by kernel_rfl) (by kernel_rfl) ⟨(by decide), trivial⟩ ?_
     refine aops_call [(1, 129)] [] false ⟨true, [], 48, [.w 1 left.length, .agg (ZbG9 m B)], [(1, .fi left)]⟩ [.w 1 left.length, .agg (ZbG9 m B)] (sm := ⟨97, [(2, .p 102), (7, .i value), (ZbG1 left), (ZbG3 ways), (ZbG15 rounds), (ZbG19 left), (59, .agg (ZbG9 m B)), (60, .whn false (.one .any))], [(ZbG0 n s t es), (ZbG5 left), (ZbG7 ways), (ZbG20 rounds m B)]⟩) (by kernel_rfl) (by kernel_rfl) (by decide) (fun _ => trivial) rfl (fun _ => flow_take left B m (by assumption) (by assumption) (by assumption) (by omega) (by assumption)) (fun _ v Hr hv => ?_) (fun h => by cases h)
     obtain ⟨rfl, rfl⟩ := hv
     refine ⟨⟨97, [(2, .p 102), (7, .i value), (ZbG1 left), (ZbG3 ways), (ZbG15 rounds), (ZbG19 left), (59, .agg (ZbG9 m B)), (60, .tup [])], [(ZbG0 n s t es), (129, .fi (takeOff m left B)), (ZbG7 ways), (ZbG20 rounds m B)]⟩, by kernel_rfl, ?_⟩
     refine ku ⟨97, [(2, .p 102), (7, .i value), (ZbG1 left), (ZbG3 ways), (ZbG15 rounds)], [(ZbG0 n s t es), (129, .fi (takeOff m left B)), (ZbG7 ways), (ZbG20 rounds m B)]⟩ (by kernel_rfl) ?_
     refine aops_end (by kernel_rfl) ?_
     refine loop_end _ ?_ ⟨(takeOff m left B), value, ways, (rounds ++ [(m, B)]), ⟨(by exact hSn), (by exact hlen), rfl⟩, (by simp only [ZbG0, ZbG1, ZbG2, ZbG3, ZbG4, ZbG5, ZbG6, ZbG7, ZbG8, ZbG9, ZbG10, ZbG11, ZbG12, ZbG13, ZbG14, ZbG15, ZbG16, ZbG17, ZbG18, ZbG19, ZbG20, ZbG21, ZbG22, lens, takeOff_len])⟩
     omega
    ·
     have hP : PieceOk es left (m, B) s t := by rcases hpc with ⟨q, _⟩ | ⟨_, q⟩; rw [c10] at q; cases q; exact q
     have hnd := hP.nd
     have hal : B.length ≤ 100 := by have := hP.many; simp only at this; omega
     have hlt := hP.lt hS.ll
     simp only at hlt hnd
     have hm1 := hP.a1
     have hm2 := hP.top hle
     simp only at hm1 hm2
     have hlt2 : ∀ k ∈ B, 0 ≤ k ∧ k < left.length ∧ min m value ≤ left.getD k.toNat 0 := fun k hk => by have := hlt k hk; omega
     have hSn := hS.way_step hP hst0 (by omega) (a := min m value) rfl
     have hlen := hle.take hP hS.ll (a := min m value) (by omega) (by show min m value ≤ m; omega)
     have hls := taken_mono hP hS.ll hS.nn (a := min m value) (by omega) (by show min m value ≤ m; omega)
     simp only at hSn hlen hls
     refine kq [(0 < 1), (0 < 1)] ⟨97, [(2, .p 102), (7, .i value), (ZbG1 left), (ZbG3 ways), (ZbG2 rounds), (12, .p 112)], [(ZbG0 n s t es), (112, .box 1 2 (ZbG12 m value B)), (ZbG5 left), (ZbG7 ways), (ZbG6 rounds)]⟩ hT (by kernel_rfl) ⟨(by decide), (by decide), trivial⟩ ?_
     refine kq [(0 < 1), (ways.length = ways.length), ((ways.length + 1) * 32 ≤ 140737488355328), ((ways.length + 1) ≤ 9223372036854775807)] ⟨97, [(2, .p 102), (7, .i value), (ZbG1 left), (ZbG16 ways), (ZbG2 rounds), (12, .p 112)], [(ZbG0 n s t es), (112, .box 1 2 (ZbG12 m value B)), (ZbG5 left), (ZbG17 ways m value B), (ZbG6 rounds)]⟩ hT (by kernel_rfl) ⟨(by decide), (by omega), (by omega), (by omega), trivial⟩ ?_
     refine kr [(0 < 1), (-9223372036854775808 ≤ (value - (min m value)) ∧ (value - (min m value)) ≤ 9223372036854775807)] ⟨97, [(2, .p 102), (ZbG18 value m), (ZbG1 left), (ZbG16 ways), (ZbG2 rounds), (12, .p 112)], [(ZbG0 n s t es), (112, .box 1 2 (ZbG12 m value B)), (ZbG5 left), (ZbG17 ways m value B), (ZbG6 rounds)]⟩ hT (by kernel_rfl) ⟨(by decide), (by omega), trivial⟩ ?_
     refine awp_region ?_
     refine ko 2 [(0 < 1)] ⟨97, [(2, .p 102), (ZbG18 value m), (ZbG1 left), (ZbG16 ways), (ZbG2 rounds), (ZbG19 left), (59, .agg (ZbG12 m value B))], [(ZbG0 n s t es), (ZbG5 left), (ZbG17 ways m value B), (ZbG6 rounds)]⟩ hT (by kernel_rfl) (by kernel_rfl) ⟨(by decide), trivial⟩ ?_
     refine aops_call [(1, 129)] [] false ⟨true, [], 48, [.w 1 left.length, .agg (ZbG12 m value B)], [(1, .fi left)]⟩ [.w 1 left.length, .agg (ZbG12 m value B)] (sm := ⟨97, [(2, .p 102), (ZbG18 value m), (ZbG1 left), (ZbG16 ways), (ZbG2 rounds), (ZbG19 left), (59, .agg (ZbG12 m value B)), (60, .whn false (.one .any))], [(ZbG0 n s t es), (ZbG5 left), (ZbG17 ways m value B), (ZbG6 rounds)]⟩) (by kernel_rfl) (by kernel_rfl) (by decide) (fun _ => trivial) rfl (fun _ => flow_take left B (min m value) (by assumption) (by assumption) (by assumption) (by omega) (by assumption)) (fun _ v Hr hv => ?_) (fun h => by cases h)
     obtain ⟨rfl, rfl⟩ := hv
     refine ⟨⟨97, [(2, .p 102), (ZbG18 value m), (ZbG1 left), (ZbG16 ways), (ZbG2 rounds), (ZbG19 left), (59, .agg (ZbG12 m value B)), (60, .tup [])], [(ZbG0 n s t es), (129, .fi (takeOff (min m value) left B)), (ZbG17 ways m value B), (ZbG6 rounds)]⟩, by kernel_rfl, ?_⟩
     refine ku ⟨97, [(2, .p 102), (ZbG18 value m), (ZbG1 left), (ZbG16 ways), (ZbG2 rounds)], [(ZbG0 n s t es), (129, .fi (takeOff (min m value) left B)), (ZbG17 ways m value B), (ZbG6 rounds)]⟩ (by kernel_rfl) ?_
     refine aops_end (by kernel_rfl) ?_
     refine loop_end _ ?_ ⟨(takeOff (min m value) left B), (value - (min m value)), (ways ++ [((min m value), B)]), rounds, ⟨(by exact hSn), (by exact hlen), rfl⟩, (by simp only [ZbG0, ZbG1, ZbG2, ZbG3, ZbG4, ZbG5, ZbG6, ZbG7, ZbG8, ZbG9, ZbG10, ZbG11, ZbG12, ZbG13, ZbG14, ZbG15, ZbG16, ZbG17, ZbG18, ZbG19, ZbG20, ZbG21, ZbG22, lens, takeOff_len])⟩
     omega
   ·
    try simp only [bs] at c8
    have hv0 : value = 0 := by omega
    rw [hv0] at hS
    refine awp_exit ?_
    refine awp_seq ?_
    refine kq [] ⟨97, [(2, .p 102), (ZbG1 left), (ZbG3 ways), (ZbG2 rounds), (ZbG4 left), (63, .i 0)], [(ZbG0 n s t es), (ZbG5 left), (ZbG7 ways), (ZbG6 rounds)]⟩ hT (by kernel_rfl) trivial ?_
    refine awp_block ?_
    refine awp_loop (I := fun κ σ => ∃ (k : Nat) (left2 : List Int) (rounds2 : List (Int × List Int)), ((k ≤ left.length) ∧ (left2.length = left.length) ∧ (Spl n s t es f left2 0 ways rounds2) ∧ (∀ j, j < k → left2.getD j 0 = 0) ∧ (InB left2) ∧ left.length - k = κ) ∧ σ = ⟨97, [(2, .p 102), (ZbG1 left2), (ZbG3 ways), (ZbG2 rounds2), (ZbG4 left), (ZbG10 k)], [(ZbG0 n s t es), (ZbG5 left2), (ZbG7 ways), (ZbG6 rounds2)]⟩) _ ⟨0, left, rounds, ⟨(by omega), (by omega), (by exact hS), (by intro j hj; omega), (by exact hle), rfl⟩, (by kernel_rfl)⟩ ?_
    rintro κ _ ⟨k, left2, rounds2, ⟨hk, hl2, hS, hz, hle, rfl⟩, rfl⟩
    have hll2 := hS.ll
    refine kq [] ⟨97, [(2, .p 102), (ZbG1 left2), (ZbG3 ways), (ZbG2 rounds2), (ZbG4 left), (ZbG10 k), (ZbG22 k left)], [(ZbG0 n s t es), (ZbG5 left2), (ZbG7 ways), (ZbG6 rounds2)]⟩ hT (by kernel_rfl) trivial ?_
    refine awp_seq ?_
    refine awp_cond (b := (decide ((k : Int) < ((left.length : Nat) : Int)))) (by kernel_rfl) (fun c17 => ?_) (fun c17 => ?_)
    ·
     try simp only [bs] at c17
     have hkl : k < es.length := by omega
     obtain ⟨a1, a2, a3, a4, a5, a6⟩ := hok.at_ hkl
     refine awp_skip ?_
     refine awp_seq ?_
     refine awp_block ?_
     refine kq [] ⟨97, [(2, .p 102), (ZbG1 left2), (ZbG3 ways), (ZbG2 rounds2), (ZbG11 k), (ZbG4 left), (ZbG10 k)], [(ZbG0 n s t es), (ZbG5 left2), (ZbG7 ways), (ZbG6 rounds2)]⟩ hT (by kernel_rfl) trivial ?_
     refine awp_block ?_
     refine awp_loop (I := fun κ σ => ∃ (left3 : List Int) (rounds3 : List (Int × List Int)), ((left3.length = left.length) ∧ (Spl n s t es f left3 0 ways rounds3) ∧ (∀ j, j < k → left3.getD j 0 = 0) ∧ (InB left3) ∧ (posL left3).length = κ) ∧ σ = ⟨97, [(2, .p 102), (ZbG1 left3), (ZbG3 ways), (ZbG2 rounds3), (ZbG11 k), (ZbG4 left), (ZbG10 k)], [(ZbG0 n s t es), (ZbG5 left3), (ZbG7 ways), (ZbG6 rounds3)]⟩) _ ⟨left2, rounds2, ⟨(by omega), (by exact hS), (by exact hz), (by exact hle), rfl⟩, (by kernel_rfl)⟩ ?_
     rintro κ _ ⟨left3, rounds3, ⟨hl3, hS, hz, hle, rfl⟩, rfl⟩
     have hll3 := hS.ll
     have hcw := hS.cnt
     have hpl := posL_le left3
     have hwl3 : left3.length = left2.length := by omega
     refine awp_seq ?_
     refine kq [((0 : Int) ≤ (k : Int)), ((k : Int) < ((left3.length : Nat) : Int)), (k < left3.length)] ⟨97, [(2, .p 102), (ZbG1 left3), (ZbG3 ways), (ZbG2 rounds3), (ZbG11 k), (ZbG4 left), (ZbG10 k), (70, .one (.bool (decide ((0 : Int) < (List.getD left3 k 0)))))], [(ZbG0 n s t es), (ZbG5 left3), (ZbG7 ways), (ZbG6 rounds3)]⟩ hT (by kernel_rfl) ⟨(by omega), (by omega), (by omega), trivial⟩ ?_
     refine awp_cond (b := (decide ((0 : Int) < (List.getD left3 k 0)))) (by kernel_rfl) (fun c19 => ?_) (fun c19 => ?_)
     ·
      try simp only [bs] at c19
      have hgo := hS.goes2 hkl (by omega)
      have hp0 := a1
      have hp1 := a2
      have hpt : (es.getD k default).src ≠ -1 := by omega
      refine awp_skip ?_
      refine awp_block ?_
      refine awp_seq (awp_any [(12, ⟨[.agg (ZbG13 n es), .one (.ro (.ints .i64 left3)), .i ((List.getD es k default).src)], .tup [(true, [(.i ((pieceF es left3 (-1) (n.toNat + 1) [] [((List.getD es k default).src)] ((List.getD es k default).src)).1.1)), (.w 9001 (List.length (pieceF es left3 (-1) (n.toNat + 1) [] [((List.getD es k default).src)] ((List.getD es k default).src)).1.2))]), (false, [(.bool ((pieceF es left3 (-1) (n.toNat + 1) [] [((List.getD es k default).src)] ((List.getD es k default).src)).2))])], [(9001, .fi ((pieceF es left3 (-1) (n.toNat + 1) [] [((List.getD es k default).src)] ((List.getD es k default).src)).1.2))], [(9001, 184)]⟩)] true [2, 9, 10, 11, 14, 15, 62, 63] [102, 115, 129, 184, 5010, 5011] 140 [(0, []), (1, [(0 < 1)]), (2, []), (3, [(0 < 1)]), (4, []), (5, []), (6, []), (7, [(0 < 1)]), (8, []), (9, [((0 : Int) ≤ (k : Int)), ((k : Int) < ((es.length : Nat) : Int))]), (10, []), (11, []), (12, [(AllP [] ∧ [.agg (ZbG13 n es), .one (.ro (.ints .i64 (List.take left3.length left3))), .i ((List.getD es k default).src)] = ([.agg (ZbG13 n es), .one (.ro (.ints .i64 left3)), .i ((List.getD es k default).src)] : List AV) ∧ ACall Tryd.prog 47 [.agg (ZbG13 n es), .one (.ro (.ints .i64 left3)), .i ((List.getD es k default).src)] [] (fun ov oh => ov = .tup [(true, [(.i ((pieceF es left3 (-1) (n.toNat + 1) [] [((List.getD es k default).src)] ((List.getD es k default).src)).1.1)), (.w 9001 (List.length (pieceF es left3 (-1) (n.toNat + 1) [] [((List.getD es k default).src)] ((List.getD es k default).src)).1.2))]), (false, [(.bool ((pieceF es left3 (-1) (n.toNat + 1) [] [((List.getD es k default).src)] ((List.getD es k default).src)).2))])] ∧ oh = [(9001, .fi ((pieceF es left3 (-1) (n.toNat + 1) [] [((List.getD es k default).src)] ((List.getD es k default).src)).1.2))]))]), (13, []), (14, []), (15, []), (16, []), (17, [(0 < 1)]), (18, [])] ⟨97, (ZbG14 left3 ways rounds3 k left), [(ZbG0 n s t es), (115, .box 1 2 [(.i ((pieceF es left3 (-1) (n.toNat + 1) [] [((List.getD es k default).src)] ((List.getD es k default).src)).1.1)), (.w 184 (List.length (pieceF es left3 (-1) (n.toNat + 1) [] [((List.getD es k default).src)] ((List.getD es k default).src)).1.2))]), (ZbG5 left3), (184, .fi ((pieceF es left3 (-1) (n.toNat + 1) [] [((List.getD es k default).src)] ((List.getD es k default).src)).1.2)), (ZbG7 ways), (ZbG6 rounds3)]⟩ (by kernel_rfl) (by kernel_rfl) hT (by kernel_rfl) ⟨trivial, ⟨(by decide), trivial⟩, trivial, ⟨(by decide), trivial⟩, trivial, trivial, trivial, ⟨(by decide), trivial⟩, trivial, ⟨(by omega), (by omega), trivial⟩, trivial, trivial, ⟨⟨trivial, (by rw [show (List.take left3.length left3) = left3 from List.take_of_length_le (by first | omega | simp)]), (flow_piece n (-1) (-1) es left3 ((List.getD es k default).src) hG hS.ll hS.nn hp0 hp1 hpt hgo).mono (fun ov oh h => by obtain ⟨m, B, r, _, hex, rfl, rfl⟩ := h; rw [← hex]; exact ⟨rfl, rfl⟩)⟩, trivial⟩, trivial, trivial, trivial, trivial, ⟨(by decide), trivial⟩, trivial, trivial⟩ ?_)
      have hpc := pieceF_ok (left := left3) hG hp0 hp1 hpt hgo
      obtain ⟨m, hRm⟩ : ∃ m, (pieceF es left3 (-1) (n.toNat + 1) [] [((List.getD es k default).src)] ((List.getD es k default).src)).1.1 = m := ⟨_, rfl⟩
      obtain ⟨B, hRB⟩ : ∃ B, (pieceF es left3 (-1) (n.toNat + 1) [] [((List.getD es k default).src)] ((List.getD es k default).src)).1.2 = B := ⟨_, rfl⟩
      have hRe : (pieceF es left3 (-1) (n.toNat + 1) [] [((List.getD es k default).src)] ((List.getD es k default).src)).1 = (m, B) := by rw [← hRm, ← hRB]
      rw [hRe] at hpc
      have hP9 : ∃ x, PieceOk es left3 (m, B) x x := by rcases hpc with ⟨_, q⟩ | ⟨_, q⟩; exact q; exfalso; obtain ⟨k9, _, q1, q2, q3⟩ := way_end q.ne q.way; obtain ⟨_, _, z3, _⟩ := hok.at_ (i := k9.toNat) (by omega); omega
      obtain ⟨x9, hP⟩ := hP9
      have hnd := hP.nd
      have hal : B.length ≤ 100 := by have := hP.many; simp only at this; omega
      have hlt := hP.lt hS.ll
      simp only at hlt hnd
      have hm1 := hP.a1
      have hm2 := hP.top hle
      simp only at hm1 hm2
      have hSn := hS.round_step hP
      have hlen := hle.take hP hS.ll (by omega) (Int.le_refl _)
      have hls := taken_less hP hS.ll hS.nn
      obtain ⟨tf1, tf2, tf3⟩ := taken_facts hP hS.ll hS.nn (show 0 ≤ m by omega) (Int.le_refl _)
      simp only at hSn hlen hls tf1 tf2 tf3
      refine awp_weak (awk_seal 184 (s' := ⟨97, (ZbG14 left3 ways rounds3 k left), [(ZbG0 n s t es), (115, .box 1 2 [(.i ((pieceF es left3 (-1) (n.toNat + 1) [] [((List.getD es k default).src)] ((List.getD es k default).src)).1.1)), (.ro (.ints .i64 (List.take (List.length (pieceF es left3 (-1) (n.toNat + 1) [] [((List.getD es k default).src)] ((List.getD es k default).src)).1.2) ((pieceF es left3 (-1) (n.toNat + 1) [] [((List.getD es k default).src)] ((List.getD es k default).src)).1.2))))]), (ZbG5 left3), (ZbG7 ways), (ZbG6 rounds3)]⟩) (by kernel_rfl)) ?_
      rw [show (List.take (List.length (pieceF es left3 (-1) (n.toNat + 1) [] [((List.getD es k default).src)] ((List.getD es k default).src)).1.2) ((pieceF es left3 (-1) (n.toNat + 1) [] [((List.getD es k default).src)] ((List.getD es k default).src)).1.2)) = (pieceF es left3 (-1) (n.toNat + 1) [] [((List.getD es k default).src)] ((List.getD es k default).src)).1.2 from List.take_of_length_le (by first | omega | simp)]
      rw [show (pieceF es left3 (-1) (n.toNat + 1) [] [((List.getD es k default).src)] ((List.getD es k default).src)).1.2 = B from hRB]
      rw [show (pieceF es left3 (-1) (n.toNat + 1) [] [((List.getD es k default).src)] ((List.getD es k default).src)).1.1 = m from hRm]
      refine awp_seq (awp_region ?_)
      refine ko 2 [(0 < 1)] ⟨97, [(2, .p 102), (ZbG1 left3), (ZbG3 ways), (ZbG2 rounds3), (ZbG11 k), (15, .p 115), (ZbG4 left), (ZbG10 k), (87, .w 129 left3.length), (88, .agg (ZbG9 m B))], [(ZbG0 n s t es), (115, .box 1 2 (ZbG9 m B)), (ZbG5 left3), (ZbG7 ways), (ZbG6 rounds3)]⟩ hT (by kernel_rfl) (by kernel_rfl) ⟨(by decide), trivial⟩ ?_
      refine aops_call [(1, 129)] [] false ⟨true, [], 48, [.w 1 left3.length, .agg (ZbG9 m B)], [(1, .fi left3)]⟩ [.w 1 left3.length, .agg (ZbG9 m B)] (sm := ⟨97, [(2, .p 102), (ZbG1 left3), (ZbG3 ways), (ZbG2 rounds3), (ZbG11 k), (15, .p 115), (ZbG4 left), (ZbG10 k), (87, .w 129 left3.length), (88, .agg (ZbG9 m B)), (89, .whn false (.one .any))], [(ZbG0 n s t es), (115, .box 1 2 (ZbG9 m B)), (ZbG5 left3), (ZbG7 ways), (ZbG6 rounds3)]⟩) (by kernel_rfl) (by kernel_rfl) (by decide) (fun _ => trivial) rfl (fun _ => flow_take left3 B m (by assumption) (by assumption) (by assumption) (by omega) (by assumption)) (fun _ v Hr hv => ?_) (fun h => by cases h)
      obtain ⟨rfl, rfl⟩ := hv
      refine ⟨⟨97, [(2, .p 102), (ZbG1 left3), (ZbG3 ways), (ZbG2 rounds3), (ZbG11 k), (15, .p 115), (ZbG4 left), (ZbG10 k), (87, .w 129 left3.length), (88, .agg (ZbG9 m B)), (89, .tup [])], [(ZbG0 n s t es), (115, .box 1 2 (ZbG9 m B)), (129, .fi (takeOff m left3 B)), (ZbG7 ways), (ZbG6 rounds3)]⟩, by kernel_rfl, ?_⟩
      refine ku ⟨97, (ZbG14 left3 ways rounds3 k left), [(ZbG0 n s t es), (115, .box 1 2 (ZbG9 m B)), (129, .fi (takeOff m left3 B)), (ZbG7 ways), (ZbG6 rounds3)]⟩ (by kernel_rfl) ?_
      refine aops_end_seq (by kernel_rfl) ?_
      refine kr [(0 < 1), (rounds3.length = rounds3.length), ((rounds3.length + 1) * 32 ≤ 140737488355328), ((rounds3.length + 1) ≤ 9223372036854775807)] ⟨97, [(2, .p 102), (ZbG1 left3), (ZbG3 ways), (ZbG15 rounds3), (ZbG11 k), (ZbG4 left), (ZbG10 k)], [(ZbG0 n s t es), (129, .fi (takeOff m left3 B)), (ZbG7 ways), (ZbG20 rounds3 m B)]⟩ hT (by kernel_rfl) ⟨(by decide), (by omega), (by omega), (by omega), trivial⟩ ?_
      refine loop_end _ ?_ ⟨(takeOff m left3 B), (rounds3 ++ [(m, B)]), ⟨(by rw [tf1]; omega), (by exact hSn), (by intro j hj; have := hz j hj; have := tf3 j (by omega); omega), (by exact hlen), rfl⟩, (by simp only [ZbG0, ZbG1, ZbG2, ZbG3, ZbG4, ZbG5, ZbG6, ZbG7, ZbG8, ZbG9, ZbG10, ZbG11, ZbG12, ZbG13, ZbG14, ZbG15, ZbG16, ZbG17, ZbG18, ZbG19, ZbG20, ZbG21, ZbG22, lens, takeOff_len])⟩
      omega
     ·
      try simp only [bs] at c19
      have hz9 : ∀ j, j < k + 1 → left3.getD j 0 = 0 := fun j hj => by rcases Nat.lt_succ_iff_lt_or_eq.1 hj with q | q; exact hz j q; subst q; have := hle j; omega
      refine awp_exit ?_
      refine kr [(-9223372036854775808 ≤ (((k + 1) : Nat) : Int) ∧ (((k + 1) : Nat) : Int) ≤ 9223372036854775807)] ⟨97, [(2, .p 102), (ZbG1 left3), (ZbG3 ways), (ZbG2 rounds3), (ZbG4 left), (63, .i (((k + 1) : Nat) : Int))], [(ZbG0 n s t es), (ZbG5 left3), (ZbG7 ways), (ZbG6 rounds3)]⟩ hT (by kernel_rfl) ⟨(by omega), trivial⟩ ?_
      refine loop_end _ ?_ ⟨(k + 1), left3, rounds3, ⟨(by omega), (by omega), (by exact hS), (by exact hz9), (by exact hle), rfl⟩, (by kernel_rfl)⟩
      omega
    ·
     try simp only [bs] at c17
     refine awp_exit ?_
     refine awp_weak (awk_seal 5010 (s' := ⟨97, [(2, .p 102), (ZbG1 left2), (10, .one (.rs (.pieces (List.take ways.length ways)))), (ZbG2 rounds2), (ZbG4 left), (ZbG10 k), (ZbG22 k left)], [(ZbG0 n s t es), (ZbG5 left2), (ZbG6 rounds2)]⟩) (by kernel_rfl)) ?_
     rw [show (List.take ways.length ways) = ways from List.take_of_length_le (by first | omega | simp)]
     refine awp_weak (awk_seal 5011 (s' := ⟨97, [(2, .p 102), (ZbG1 left2), (10, .one (.rs (.pieces ways))), (11, .one (.rs (.pieces (List.take rounds2.length rounds2)))), (ZbG4 left), (ZbG10 k), (ZbG22 k left)], [(ZbG0 n s t es), (ZbG5 left2)]⟩) (by kernel_rfl)) ?_
     rw [show (List.take rounds2.length rounds2) = rounds2 from List.take_of_length_le (by first | omega | simp)]
     refine kq [] ⟨97, [(4, .one (.rs (.pieces ways))), (5, .one (.rs (.pieces rounds2))), (6, .i 0)], []⟩ hT (by kernel_rfl) trivial ?_
     refine awp_ret ?_
     refine kRet.ret _ [] [] (.tup [(false, [(.rs (.pieces ways))]), (false, [(.rs (.pieces rounds2))]), (false, [(.i 0)])]) [] (by kernel_rfl) trivial ?_
     exact ⟨ways, rounds2, 0, (by exact hS.end_ hE (fun j hj => hz j (by have := hS.ll; omega))), (by kernel_rfl), (by kernel_rfl)⟩
end Go.Ab
