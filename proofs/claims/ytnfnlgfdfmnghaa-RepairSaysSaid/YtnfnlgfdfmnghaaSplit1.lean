/- Of flows: a piece of what is left. -/
import Derived.Test.YtnfnlgfdfmnghaaTab
import Derived.Test.YtnfnlgfdfmnghaaG1
import Derived.Test.YtnfnlgfdfmnghaaF2
import Derived.Test.YtnfnlgfdfmnghaaFun1
import Derived.Test.YtnfnlgfdfmnghaaPlSplit
set_option maxRecDepth 100000
namespace Go.Ab
open Go Go.Proofs
theorem flow_amount (left arcs : List Int) (hne : 0 < arcs.length) (hal : arcs.length ≤ 100) (hk : ∀ k ∈ arcs, 0 ≤ k ∧ k < left.length) : ACall Try.prog 84 [.one (.ro (.ints .i64 left)), .one (.ro (.ints .i64 arcs))] [] (fun ov oh => ∃ (m : Int), (AmOk left arcs m) ∧ ov = .agg [(.i m), (.w 9001 arcs.length)] ∧ oh = [(9001, .fi arcs)]) := by
  refine acall_intro hT Try.func84 rfl (by kernel_rfl) rfl (by kernel_rfl) ?_
  have hk0 := hk _ (getD_mem (d := 0) hne)
  refine awp_run_seq [0, 1, 4] [104] [] ⟨33, [(0, .one (.ro (.ints .i64 left))), (1, .one (.ro (.ints .i64 arcs))), (4, .p 104)], [(104, .box 1 2 [(.i 0), .nils])]⟩ hT (by kernel_rfl) trivial ?_
  refine awp_seq (awp_calm2 [(7, ⟨[.one (.ro (.ints .i64 arcs))], .w 9001 arcs.length, [(9001, .fi arcs)], [(9001, 115)]⟩)] false [[], [], [1], [1, 2], [0, 1, 2, 3], [0, 1, 2, 3, 4], [], [6], [0, 1, 2, 3, 4, 5, 6, 7], [], [0, 1, 2, 3, 4, 5, 6, 7, 8, 9]] 10 [0, 1, 4, 5] [104, 105, 115] [(0, []), (1, []), (2, [((0 : Int) ≤ (0 : Int)), ((0 : Int) < ((arcs.length : Nat) : Int))]), (3, []), (4, [((0 : Int) ≤ (List.getD arcs 0 0)), ((List.getD arcs 0 0) < ((left.length : Nat) : Int))]), (5, []), (6, []), (7, [(AllP [] ∧ [.one (.ro (.ints .i64 arcs))] = ([.one (.ro (.ints .i64 arcs))] : List AV) ∧ ACall Try.prog 35 [.one (.ro (.ints .i64 arcs))] [] (fun ov oh => ov = .w 9001 arcs.length ∧ oh = [(9001, .fi arcs)]))]), (8, []), (9, [])] [(10, [(0 < 1)])] 1 ⟨33, [(0, .one (.ro (.ints .i64 left))), (1, .one (.ro (.ints .i64 arcs))), (4, .p 104), (5, .p 105)], [(104, .box 1 2 [(.i 0), .nils]), (105, .box 1 2 [(.i (List.getD left (Int.toNat (List.getD arcs 0 0)) 0)), (.w 115 arcs.length)]), (115, .fi arcs)]⟩ (by kernel_rfl) (by kernel_rfl) hT (by kernel_rfl) (by kernel_rfl) ⟨trivial, trivial, ⟨(by omega), (by omega), trivial⟩, trivial, ⟨(by omega), (by omega), trivial⟩, trivial, trivial, ⟨⟨trivial, rfl, clone_ints arcs (by first | omega | (simp; omega))⟩, trivial⟩, trivial, trivial, trivial⟩ ⟨⟨(by decide), trivial⟩, trivial⟩ ?_)
  refine awp_seq ?_
  refine awp_run_seq [0, 4, 5, 17, 18, 19] [104, 105, 115] [] ⟨33, [(0, .one (.ro (.ints .i64 left))), (4, .p 104), (5, .p 105), (17, .one (.ro (.ints .i64 arcs))), (18, .i ((arcs.length : Nat) : Int)), (19, .i 0)], [(104, .box 1 2 [(.i 0), .nils]), (105, .box 1 2 [(.i (List.getD left (Int.toNat (List.getD arcs 0 0)) 0)), (.w 115 arcs.length)]), (115, .fi arcs)]⟩ hT (by kernel_rfl) trivial ?_
  refine awp_block ?_
  refine awp_loop (I := fun κ σ => ∃ (i : Nat) (m : Int), ((i ≤ arcs.length) ∧ (∃ k ∈ arcs, left.getD k.toNat 0 = m) ∧ (∀ j, j < i → m ≤ left.getD (arcs.getD j 0).toNat 0) ∧ arcs.length - i = κ) ∧ σ = ⟨33, [(0, .one (.ro (.ints .i64 left))), (4, .p 104), (5, .p 105), (17, .one (.ro (.ints .i64 arcs))), (18, .i ((arcs.length : Nat) : Int)), (19, .i (i : Int))], [(104, .box 1 2 [(.i 0), .nils]), (105, .box 1 2 [(.i m), (.w 115 arcs.length)]), (115, .fi arcs)]⟩) _ ⟨0, (List.getD left (Int.toNat (List.getD arcs 0 0)) 0), ⟨(by omega), (by exact ⟨_, getD_mem (d := 0) hne, rfl⟩), (by intro j hj; omega), rfl⟩, (by kernel_rfl)⟩ ?_
  rintro κ _ ⟨i, m, ⟨hi, hex, hall, rfl⟩, rfl⟩
  refine awp_run_seq [0, 4, 5, 17, 18, 19, 20] [104, 105, 115] [] ⟨33, [(0, .one (.ro (.ints .i64 left))), (4, .p 104), (5, .p 105), (17, .one (.ro (.ints .i64 arcs))), (18, .i ((arcs.length : Nat) : Int)), (19, .i (i : Int)), (20, .one (.bool (decide ((i : Int) < ((arcs.length : Nat) : Int)))))], [(104, .box 1 2 [(.i 0), .nils]), (105, .box 1 2 [(.i m), (.w 115 arcs.length)]), (115, .fi arcs)]⟩ hT (by kernel_rfl) trivial ?_
  refine awp_seq ?_
  refine awp_cond (b := (decide ((i : Int) < ((arcs.length : Nat) : Int)))) (by kernel_rfl) (fun c3 => ?_) (fun c3 => ?_)
  ·
    try simp only [bs] at c3
    have hil : i < arcs.length := by omega
    have hki := hk _ (getD_mem (d := 0) hil)
    refine awp_skip ?_
    refine awp_seq ?_
    refine awp_block ?_
    refine awp_run_seq [0, 4, 5, 7, 17, 18, 19] [104, 105, 115] [((0 : Int) ≤ (i : Int)), ((i : Int) < ((arcs.length : Nat) : Int))] ⟨33, [(0, .one (.ro (.ints .i64 left))), (4, .p 104), (5, .p 105), (7, .i (List.getD arcs i 0)), (17, .one (.ro (.ints .i64 arcs))), (18, .i ((arcs.length : Nat) : Int)), (19, .i (i : Int))], [(104, .box 1 2 [(.i 0), .nils]), (105, .box 1 2 [(.i m), (.w 115 arcs.length)]), (115, .fi arcs)]⟩ hT (by kernel_rfl) ⟨(by omega), (by omega), trivial⟩ ?_
    refine awp_tail 8 [0, 4, 5, 17, 18, 19, 29, 30] [104, 105, 115] [(0 < 1), ((0 : Int) ≤ (List.getD arcs i 0)), ((List.getD arcs i 0) < ((left.length : Nat) : Int))] ⟨33, [(0, .one (.ro (.ints .i64 left))), (4, .p 104), (5, .p 105), (17, .one (.ro (.ints .i64 arcs))), (18, .i ((arcs.length : Nat) : Int)), (19, .i (i : Int)), (29, .i (min m (List.getD left (Int.toNat (List.getD arcs i 0)) 0))), (30, .p 105)], [(104, .box 1 2 [(.i 0), .nils]), (105, .box 1 2 [(.i m), (.w 115 arcs.length)]), (115, .fi arcs)]⟩ (by kernel_rfl) (by kernel_rfl) hT (by kernel_rfl) ⟨(by decide), (by omega), (by omega), trivial⟩ ?_
    refine aops_run 1 [0, 4, 5, 17, 18, 19] [104, 105, 115] [(0 < 1)] ⟨33, [(0, .one (.ro (.ints .i64 left))), (4, .p 104), (5, .p 105), (17, .one (.ro (.ints .i64 arcs))), (18, .i ((arcs.length : Nat) : Int)), (19, .i (i : Int))], [(104, .box 1 2 [(.i 0), .nils]), (105, .box 1 2 [(.i (min m (List.getD left (Int.toNat (List.getD arcs i 0)) 0))), (.w 115 arcs.length)]), (115, .fi arcs)]⟩ hT (by kernel_rfl) (by kernel_rfl) ⟨(by decide), trivial⟩ ?_
    refine aops_end (by kernel_rfl) ?_
    refine awp_run [0, 4, 5, 17, 18, 19] [104, 105, 115] [(-9223372036854775808 ≤ (((i + 1) : Nat) : Int) ∧ (((i + 1) : Nat) : Int) ≤ 9223372036854775807)] ⟨33, [(0, .one (.ro (.ints .i64 left))), (4, .p 104), (5, .p 105), (17, .one (.ro (.ints .i64 arcs))), (18, .i ((arcs.length : Nat) : Int)), (19, .i (((i + 1) : Nat) : Int))], [(104, .box 1 2 [(.i 0), .nils]), (105, .box 1 2 [(.i (min m (List.getD left (Int.toNat (List.getD arcs i 0)) 0))), (.w 115 arcs.length)]), (115, .fi arcs)]⟩ hT (by kernel_rfl) ⟨(by omega), trivial⟩ ?_
    refine loop_end _ ?_ ⟨(i + 1), (min m (List.getD left (Int.toNat (List.getD arcs i 0)) 0)), ⟨(by omega), (by rcases Int.le_total m (left.getD (arcs.getD i 0).toNat 0) with q | q; rw [Int.min_eq_left q]; exact hex; rw [Int.min_eq_right q]; exact ⟨_, getD_mem (d := 0) hil, rfl⟩), (by intro j hj; rcases Nat.lt_succ_iff_lt_or_eq.1 hj with q | q; have := hall j q; omega; subst q; omega), rfl⟩, (by kernel_rfl)⟩
    omega
  ·
    try simp only [bs] at c3
    refine awp_exit ?_
    refine awp_run_seq [4] [104, 115] [(0 < 1), (0 < 1)] ⟨33, [(4, .p 104)], [(104, .box 1 2 [(.i m), (.w 115 arcs.length)]), (115, .fi arcs)]⟩ hT (by kernel_rfl) ⟨(by decide), (by decide), trivial⟩ ?_
    refine awp_weak (awk_ren 115 9001 (s' := ⟨33, [(4, .p 104)], [(104, .box 1 2 [(.i m), (.w 9001 arcs.length)]), (9001, .fi arcs)]⟩) (by kernel_rfl)) ?_
    refine awp_ret ?_
    refine kRet.ret _ [9001] [(0 < 1)] (.agg [(.i m), (.w 9001 arcs.length)]) [(9001, .fi arcs)] (by kernel_rfl) ⟨(by decide), trivial⟩ ?_
    exact ⟨m, (by exact ⟨hex, fun k hk2 => by obtain ⟨j, hj, e⟩ := mem_getD 0 hk2; rw [← e]; exact hall j (by omega)⟩), (by kernel_rfl), (by kernel_rfl)⟩
theorem flow_take (left arcs : List Int) (a : Int) (hnd : arcs.Nodup) (hal : arcs.length ≤ 100) (hk : ∀ k ∈ arcs, 0 ≤ k ∧ k < left.length ∧ a ≤ left.getD k.toNat 0) (ha : 0 ≤ a) (hb : InB left) : ACall Try.prog 69 [.w 1 left.length, .agg [(.i a), (.ro (.ints .i64 arcs))]] [(1, .fi left)] (fun ov oh => ov = .tup [] ∧ oh = [(1, .fi (takeOff a left arcs))]) := by
  refine acall_intro hT Try.func69 rfl (by kernel_rfl) rfl (by kernel_rfl) ?_
  refine awp_run_seq [0, 3] [103] [] ⟨22, [(0, .w 1 left.length), (3, .p 103)], [(1, .fi left), (103, .box 1 2 [(.i a), (.ro (.ints .i64 arcs))])]⟩ hT (by kernel_rfl) trivial ?_
  refine awp_run_seq [0, 3, 7, 8, 9] [103] [(0 < 1)] ⟨22, [(0, .w 1 left.length), (3, .p 103), (7, .one (.ro (.ints .i64 arcs))), (8, .i ((arcs.length : Nat) : Int)), (9, .i 0)], [(1, .fi left), (103, .box 1 2 [(.i a), (.ro (.ints .i64 arcs))])]⟩ hT (by kernel_rfl) ⟨(by decide), trivial⟩ ?_
  refine awp_block ?_
  refine awp_loop (I := fun κ σ => ∃ (i : Nat) (l : List Int), ((i ≤ arcs.length) ∧ (l = takeOff a left (arcs.take i)) ∧ arcs.length - i = κ) ∧ σ = ⟨22, [(0, .w 1 left.length), (3, .p 103), (7, .one (.ro (.ints .i64 arcs))), (8, .i ((arcs.length : Nat) : Int)), (9, .i (i : Int))], [(1, .fi l), (103, .box 1 2 [(.i a), (.ro (.ints .i64 arcs))])]⟩) _ ⟨0, left, ⟨(by omega), (by rfl), rfl⟩, (by kernel_rfl)⟩ ?_
  rintro κ _ ⟨i, l, ⟨hi, hl, rfl⟩, rfl⟩
  have hll : l.length = left.length := by rw [hl]; exact takeOff_len _ _ _
  refine awp_run_seq [0, 3, 7, 8, 9, 10] [103] [] ⟨22, [(0, .w 1 left.length), (3, .p 103), (7, .one (.ro (.ints .i64 arcs))), (8, .i ((arcs.length : Nat) : Int)), (9, .i (i : Int)), (10, .one (.bool (decide ((i : Int) < ((arcs.length : Nat) : Int)))))], [(1, .fi l), (103, .box 1 2 [(.i a), (.ro (.ints .i64 arcs))])]⟩ hT (by kernel_rfl) trivial ?_
  refine awp_seq ?_
  refine awp_cond (b := (decide ((i : Int) < ((arcs.length : Nat) : Int)))) (by kernel_rfl) (fun c2 => ?_) (fun c2 => ?_)
  ·
    try simp only [bs] at c2
    have hil : i < arcs.length := by omega
    have hki := hk _ (getD_mem (d := 0) hil)
    have hnow := takeOff_now (a := a) (left := left) hil hnd (fun k q => (hk k q).1)
    rw [← hl] at hnow
    have hbi := hb (arcs.getD i 0).toNat
    have hst := takeOff_step (a := a) (left := left) hil
    refine awp_skip ?_
    refine awp_seq ?_
    refine awp_block ?_
    refine awp_run_seq [0, 3, 5, 7, 8, 9] [103] [((0 : Int) ≤ (i : Int)), ((i : Int) < ((arcs.length : Nat) : Int))] ⟨22, [(0, .w 1 left.length), (3, .p 103), (5, .i (List.getD arcs i 0)), (7, .one (.ro (.ints .i64 arcs))), (8, .i ((arcs.length : Nat) : Int)), (9, .i (i : Int))], [(1, .fi l), (103, .box 1 2 [(.i a), (.ro (.ints .i64 arcs))])]⟩ hT (by kernel_rfl) ⟨(by omega), (by omega), trivial⟩ ?_
    refine awp_tail 8 [0, 3, 7, 8, 9, 19, 20] [103] [((0 : Int) ≤ (List.getD arcs i 0)), ((List.getD arcs i 0) < ((left.length : Nat) : Int)), ((Int.toNat (List.getD arcs i 0)) < l.length), (0 < 1), (-9223372036854775808 ≤ ((List.getD l (Int.toNat (List.getD arcs i 0)) 0) - a) ∧ ((List.getD l (Int.toNat (List.getD arcs i 0)) 0) - a) ≤ 9223372036854775807), ((0 : Int) ≤ (List.getD arcs i 0)), ((List.getD arcs i 0) < ((left.length : Nat) : Int))] ⟨22, [(0, .w 1 left.length), (3, .p 103), (7, .one (.ro (.ints .i64 arcs))), (8, .i ((arcs.length : Nat) : Int)), (9, .i (i : Int)), (19, .i ((List.getD l (Int.toNat (List.getD arcs i 0)) 0) - a)), (20, .one (.ptr 1 (Int.toNat (List.getD arcs i 0)) 0))], [(1, .fi l), (103, .box 1 2 [(.i a), (.ro (.ints .i64 arcs))])]⟩ (by kernel_rfl) (by kernel_rfl) hT (by kernel_rfl) ⟨(by omega), (by omega), (by omega), (by decide), (by omega), (by omega), (by omega), trivial⟩ ?_
    refine aops_run 1 [0, 3, 7, 8, 9] [103] [((Int.toNat (List.getD arcs i 0)) < l.length)] ⟨22, [(0, .w 1 left.length), (3, .p 103), (7, .one (.ro (.ints .i64 arcs))), (8, .i ((arcs.length : Nat) : Int)), (9, .i (i : Int))], [(1, .fi (List.set l (Int.toNat (List.getD arcs i 0)) ((List.getD l (Int.toNat (List.getD arcs i 0)) 0) - a))), (103, .box 1 2 [(.i a), (.ro (.ints .i64 arcs))])]⟩ hT (by kernel_rfl) (by kernel_rfl) ⟨(by omega), trivial⟩ ?_
    refine aops_end (by kernel_rfl) ?_
    refine awp_run [0, 3, 7, 8, 9] [103] [(-9223372036854775808 ≤ (((i + 1) : Nat) : Int) ∧ (((i + 1) : Nat) : Int) ≤ 9223372036854775807)] ⟨22, [(0, .w 1 left.length), (3, .p 103), (7, .one (.ro (.ints .i64 arcs))), (8, .i ((arcs.length : Nat) : Int)), (9, .i (((i + 1) : Nat) : Int))], [(1, .fi (List.set l (Int.toNat (List.getD arcs i 0)) ((List.getD l (Int.toNat (List.getD arcs i 0)) 0) - a))), (103, .box 1 2 [(.i a), (.ro (.ints .i64 arcs))])]⟩ hT (by kernel_rfl) ⟨(by omega), trivial⟩ ?_
    refine loop_end _ ?_ ⟨(i + 1), (List.set l (Int.toNat (List.getD arcs i 0)) ((List.getD l (Int.toNat (List.getD arcs i 0)) 0) - a)), ⟨(by omega), (by rw [hst, ← hl]), rfl⟩, (by kernel_rfl)⟩
    omega
  ·
    try simp only [bs] at c2
    have hfin : l = takeOff a left arcs := by rw [hl, List.take_of_length_le (by omega)]
    refine awp_exit ?_
    refine kRet.normal _ [] [] (.tup []) [(1, .fi l)] (by kernel_rfl) trivial ?_
    exact ⟨(by kernel_rfl), (by rw [← hfin])⟩
theorem flow_piece1 (c : Int) (a : Arc) : ACall Try.prog 83 [.agg [(.i a.src), (.i a.dst), (.i a.cap)], .p 1] [(1, .box 1 1 [(.i c)])] (fun ov oh => ov = .one (.bool (srcIs c a)) ∧ oh = [(1, .box 1 1 [(.i c)])]) := by
  refine acall_intro hT Try.func83 rfl (by kernel_rfl) rfl (by kernel_rfl) ?_
  refine awp_run_seq [1, 2] [102] [] ⟨8, [(1, .p 1), (2, .p 102)], [(1, .box 1 1 [(.i c)]), (102, .box 1 3 [(.i a.src), (.i a.dst), (.i a.cap)])]⟩ hT (by kernel_rfl) trivial ?_
  refine awp_run_seq [3] [] [(0 < 1), (0 < 1)] ⟨8, [(3, .one (.bool (decide (a.src = c))))], [(1, .box 1 1 [(.i c)])]⟩ hT (by kernel_rfl) ⟨(by decide), (by decide), trivial⟩ ?_
  refine awp_ret ?_
  refine kRet.ret _ [] [] (.one (.bool (decide (a.src = c)))) [(1, .box 1 1 [(.i c)])] (by kernel_rfl) trivial ?_
  exact ⟨(by kernel_rfl), (by kernel_rfl)⟩
theorem flow_piece (n s t : Int) (es : List Arc) (left : List Int) (a : Int) (hG : GOk n es 0) (hll : left.length = es.length) (hnn : ∀ j, j < es.length → 0 ≤ left.getD j 0) (h0 : 0 ≤ a) (h1 : a < n) (hat : a ≠ t) (hg : Goes es left t a) : ACall Try.prog 68 [.agg [(.i n), (.i s), (.i t), (.ro (.arcs es))], .one (.ro (.ints .i64 left)), .i a] [] (fun ov oh => ∃ (m : Int) (B : List Int) (r : Bool), ((r = true ∧ ∃ x, PieceOk es left (m, B) x x) ∨ (r = false ∧ PieceOk es left (m, B) a t)) ∧ (((m, B), r) = (pieceF es left t (n.toNat + 1) [] [a] a)) ∧ ov = .tup [(true, [(.i m), (.w 9001 B.length)]), (false, [(.bool r)])] ∧ oh = [(9001, .fi B)]) := by
  refine acall_intro hT Try.func68 rfl (by kernel_rfl) rfl (by kernel_rfl) ?_
  refine pwp_start ?_
  have hn1 := hG.n1
  have hn2 := hG.n2
  have hle := hG.len
  refine pwp_seq_lift ?_
  refine awp_run [1, 3, 5, 6] [103, 105, 106] [] ⟨70, [(1, .one (.ro (.ints .i64 left))), (3, .p 103), (5, .p 105), (6, .p 106)], [(103, .box 1 4 [(.i n), (.i s), (.i t), (.ro (.arcs es))]), (105, .box 1 1 [(.i a)]), (106, .box 1 2 [(.i 0), .nils])]⟩ hT (by kernel_rfl) trivial ?_
  refine pwp_seq_lift ?_
  refine awp_run [1, 3, 5, 6, 8] [103, 105, 106] [] ⟨70, [(1, .one (.ro (.ints .i64 left))), (3, .p 103), (5, .p 105), (6, .p 106), (8, .one .nils)], [(103, .box 1 4 [(.i n), (.i s), (.i t), (.ro (.arcs es))]), (105, .box 1 1 [(.i a)]), (106, .box 1 2 [(.i 0), .nils])]⟩ hT (by kernel_rfl) trivial ?_
  refine pwp_seq (pwp_region ?_)
  refine pops_newmap (d := 13) rfl rfl rfl rfl (by kernel_rfl) Try.underlying141 (fun x hx => by cases hx) ?_
  intro b
  refine pops_cut [1, 3, 5, 6, 8, 13] [103, 105, 106] ⟨70, [(1, .one (.ro (.ints .i64 left))), (3, .p 103), (5, .p 105), (6, .p 106), (8, .one .nils), (13, .one (.mapv b))], [(103, .box 1 4 [(.i n), (.i s), (.i t), (.ro (.arcs es))]), (105, .box 1 1 [(.i a)]), (106, .box 1 2 [(.i 0), .nils])]⟩ (by kernel_rfl) ?_
  refine pops_run 1 [1, 3, 5, 6, 8, 13, 14] [103, 105, 106] [(0 < 1)] ⟨70, [(1, .one (.ro (.ints .i64 left))), (3, .p 103), (5, .p 105), (6, .p 106), (8, .one .nils), (13, .one (.mapv b)), (14, .i a)], [(103, .box 1 4 [(.i n), (.i s), (.i t), (.ro (.arcs es))]), (105, .box 1 1 [(.i a)]), (106, .box 1 2 [(.i 0), .nils])]⟩ hT (by kernel_rfl) (by kernel_rfl) ⟨(by decide), trivial⟩ ?_
  refine pops_setmap (n := a) (v := (0)) rfl (.inr rfl) rfl rfl Try.underlying141 Try.underlying3 (by kernel_rfl) (by kernel_rfl) (by kernel_rfl) (by rfl) ?_
  refine pops_cut [1, 3, 5, 6, 8, 13] [103, 105, 106] ⟨70, [(1, .one (.ro (.ints .i64 left))), (3, .p 103), (5, .p 105), (6, .p 106), (8, .one .nils), (13, .one (.mapv b))], [(103, .box 1 4 [(.i n), (.i s), (.i t), (.ro (.arcs es))]), (105, .box 1 1 [(.i a)]), (106, .box 1 2 [(.i 0), .nils])]⟩ (by kernel_rfl) ?_
  refine pops_run 2 [1, 3, 5, 6, 8, 9] [103, 105, 106] [] ⟨70, [(1, .one (.ro (.ints .i64 left))), (3, .p 103), (5, .p 105), (6, .p 106), (8, .one .nils), (9, .one (.mapv b))], [(103, .box 1 4 [(.i n), (.i s), (.i t), (.ro (.arcs es))]), (105, .box 1 1 [(.i a)]), (106, .box 1 2 [(.i 0), .nils])]⟩ hT (by kernel_rfl) (by kernel_rfl) trivial ?_
  refine pops_end (by kernel_rfl) ?_
  refine pwp_seq ?_
  refine pwp_block ?_
  refine pwp_weak (awk_empty 5008 (.fi []) rfl (by decide) _) ?_
  refine pwp_weak (awk_slot 8 (.one .nils) (.w 5008 0) _ (by kernel_rfl) (.one (wkv_nils (o := .fi []) (by kernel_rfl)))) ?_
  refine pwp_loop (I := fun κ D σ => ∃ (B W : List Int) (c : Int), ((Chn es left B W) ∧ (W.Nodup) ∧ (W.getD B.length 0 = c) ∧ (W.getD 0 0 = a) ∧ (∀ v ∈ W, 0 ≤ v ∧ v < n) ∧ (pieceF es left t (n.toNat + 1 - B.length) B W c = (pieceF es left t (n.toNat + 1) [] [a] a)) ∧ n.toNat + 1 - W.length = κ) ∧ D = some (b, (seenOf W)) ∧ σ = ⟨70, [(1, .one (.ro (.ints .i64 left))), (3, .p 103), (5, .p 105), (6, .p 106), (8, .w 5008 B.length), (9, .one (.mapv b))], [(103, .box 1 4 [(.i n), (.i s), (.i t), (.ro (.arcs es))]), (105, .box 1 1 [(.i c)]), (106, .box 1 2 [(.i 0), .nils]), (5008, .fi B)]⟩) _ ⟨[], [a], a, ⟨(by exact Chn.start a), (by simp), (by rfl), (by rfl), (by intro v hv; rw [List.mem_singleton.1 hv]; exact ⟨h0, h1⟩), (by rfl), rfl⟩, (by rfl), (by kernel_rfl)⟩ ?_
  rintro κ _ _ ⟨B, W, c, ⟨hC, hW, hct, hw0, hr, hF, rfl⟩, rfl, rfl⟩
  have hWl := nodup_int hW hr
  have hwl := hC.wl
  have hc0 := hr c (by rw [← hct]; exact getD_mem (by omega))
  refine pwp_seq_lift ?_
  refine awp_run_seq [1, 3, 5, 6, 8, 9, 19] [103, 105, 106, 5008] [(0 < 1), (0 < 1)] ⟨70, [(1, .one (.ro (.ints .i64 left))), (3, .p 103), (5, .p 105), (6, .p 106), (8, .w 5008 B.length), (9, .one (.mapv b)), (19, .one (.bool (decide (c ≠ t))))], [(103, .box 1 4 [(.i n), (.i s), (.i t), (.ro (.arcs es))]), (105, .box 1 1 [(.i c)]), (106, .box 1 2 [(.i 0), .nils]), (5008, .fi B)]⟩ hT (by kernel_rfl) ⟨(by decide), (by decide), trivial⟩ ?_
  refine awp_cond (b := (decide (c ≠ t))) (by kernel_rfl) (fun c3 => ?_) (fun c3 => ?_)
  ·
    try simp only [bs] at c3
    have hc3 : c ≠ t := by omega
    obtain ⟨K, hK1, hK2, hK3⟩ := hC.out hct hw0 hc3 hg
    have hidx := idxOf_le (p := srcIs c) (d := default) hK1 (decide_eq_true hK3)
    refine awp_skip ?_
    refine pwp_block ?_
    refine pwp_seq_lift ?_
    refine awp_region ?_
    refine aops_run 3 [1, 3, 5, 6, 8, 9, 21, 22] [103, 105, 106, 5008] [(0 < 1)] ⟨70, [(1, .one (.ro (.ints .i64 left))), (3, .p 103), (5, .p 105), (6, .p 106), (8, .w 5008 B.length), (9, .one (.mapv b)), (21, .one (.ro (.arcs es))), (22, .one (.fn 83 [(.ptr 105 0 0)]))], [(103, .box 1 4 [(.i n), (.i s), (.i t), (.ro (.arcs es))]), (105, .box 1 1 [(.i c)]), (106, .box 1 2 [(.i 0), .nils]), (5008, .fi B)]⟩ hT (by kernel_rfl) (by kernel_rfl) ⟨(by decide), trivial⟩ ?_
    refine aops_call [(1, 105)] [] false ⟨true, [], 82, [.one (.ro (.arcs es)), .one (.fn 83 [(.ptr 1 0 0)])], [(1, .box 1 1 [(.i c)])]⟩ [.one (.ro (.arcs es)), .one (.fn 83 [(.ptr 1 0 0)])] (sm := ⟨70, [(1, .one (.ro (.ints .i64 left))), (3, .p 103), (5, .p 105), (6, .p 106), (8, .w 5008 B.length), (9, .one (.mapv b)), (21, .one (.ro (.arcs es))), (22, .one (.fn 83 [(.ptr 105 0 0)])), (23, .whn false (.one .any))], [(103, .box 1 4 [(.i n), (.i s), (.i t), (.ro (.arcs es))]), (105, .box 1 1 [(.i c)]), (106, .box 1 2 [(.i 0), .nils]), (5008, .fi B)]⟩) (by kernel_rfl) (by kernel_rfl) (by decide) (fun _ => trivial) rfl (fun _ => idxf_arcs_i 83 (srcIs c) es c (fun x hx => flow_piece1 c x)) (fun _ v Hr hv => ?_) (fun h => by cases h)
    obtain ⟨rfl, rfl⟩ := hv
    refine ⟨⟨70, [(1, .one (.ro (.ints .i64 left))), (3, .p 103), (5, .p 105), (6, .p 106), (8, .w 5008 B.length), (9, .one (.mapv b)), (21, .one (.ro (.arcs es))), (22, .one (.fn 83 [(.ptr 105 0 0)])), (23, .i (idxOf (srcIs c) es))], [(103, .box 1 4 [(.i n), (.i s), (.i t), (.ro (.arcs es))]), (105, .box 1 1 [(.i c)]), (106, .box 1 2 [(.i 0), .nils]), (5008, .fi B)]⟩, by kernel_rfl, ?_⟩
    refine aops_run 1 [1, 3, 5, 6, 8, 9, 10] [103, 105, 106, 5008] [] ⟨70, [(1, .one (.ro (.ints .i64 left))), (3, .p 103), (5, .p 105), (6, .p 106), (8, .w 5008 B.length), (9, .one (.mapv b)), (10, .i (idxOf (srcIs c) es))], [(103, .box 1 4 [(.i n), (.i s), (.i t), (.ro (.arcs es))]), (105, .box 1 1 [(.i c)]), (106, .box 1 2 [(.i 0), .nils]), (5008, .fi B)]⟩ hT (by kernel_rfl) (by kernel_rfl) trivial ?_
    refine aops_end (by kernel_rfl) ?_
    refine pwp_seq_lift ?_
    refine awp_block ?_
    refine awp_loop (I := fun κ σ => ∃ (k : Int), ((0 ≤ k ∧ k ≤ (K : Int)) ∧ (∀ j, j < k.toNat → ¬ (0 < left.getD j 0 ∧ (es.getD j default).src = c)) ∧ ((K : Int) - k).toNat = κ) ∧ σ = ⟨70, [(1, .one (.ro (.ints .i64 left))), (3, .p 103), (5, .p 105), (6, .p 106), (8, .w 5008 B.length), (9, .one (.mapv b)), (10, .i k)], [(103, .box 1 4 [(.i n), (.i s), (.i t), (.ro (.arcs es))]), (105, .box 1 1 [(.i c)]), (106, .box 1 2 [(.i 0), .nils]), (5008, .fi B)]⟩) _ ⟨(idxOf (srcIs c) es), ⟨(by exact hidx), (by intro j hj q; have := idxOf_before (p := srcIs c) (d := default) (l := es) (j := j) (by omega); rw [srcIs, decide_eq_false_iff_not] at this; exact this q.2), rfl⟩, (by kernel_rfl)⟩ ?_
    rintro κ _ ⟨k, ⟨hk, hmin, rfl⟩, rfl⟩
    refine awp_seq ?_
    refine awp_seq (awp_still [1, 3, 5, 6, 8, 9, 10, 38] [103, 105, 106, 5008] [((0 : Int) ≤ k), (k < ((left.length : Nat) : Int)), ((!(decide ((List.getD left (Int.toNat k) 0) = 0))) = true → ((!(decide ((List.getD left (Int.toNat k) 0) = 0))) = true → (!(decide ((List.getD left (Int.toNat k) 0) = 0))) = true)), ((!(decide ((List.getD left (Int.toNat k) 0) = 0))) = true → (0 < 1)), ((!(decide ((List.getD left (Int.toNat k) 0) = 0))) = true → ((!(decide ((List.getD left (Int.toNat k) 0) = 0))) = true → (!(decide ((List.getD left (Int.toNat k) 0) = 0))) = true)), ((!(decide ((List.getD left (Int.toNat k) 0) = 0))) = true → ((!(decide ((List.getD left (Int.toNat k) 0) = 0))) = true → (!(decide ((List.getD left (Int.toNat k) 0) = 0))) = true)), ((!(decide ((List.getD left (Int.toNat k) 0) = 0))) = true → ((0 : Int) ≤ k)), ((!(decide ((List.getD left (Int.toNat k) 0) = 0))) = true → (k < ((es.length : Nat) : Int))), ((!(decide ((List.getD left (Int.toNat k) 0) = 0))) = true → ((!(decide ((List.getD left (Int.toNat k) 0) = 0))) = true → (!(decide ((List.getD left (Int.toNat k) 0) = 0))) = true)), ((!(decide ((List.getD left (Int.toNat k) 0) = 0))) = true → ((!(decide ((List.getD left (Int.toNat k) 0) = 0))) = true → (!(decide ((List.getD left (Int.toNat k) 0) = 0))) = true)), ((!(decide ((List.getD left (Int.toNat k) 0) = 0))) = true → (0 < 1)), ((!(decide ((List.getD left (Int.toNat k) 0) = 0))) = true → ((!(decide ((List.getD left (Int.toNat k) 0) = 0))) = true → (!(decide ((List.getD left (Int.toNat k) 0) = 0))) = true)), ((!(decide ((List.getD left (Int.toNat k) 0) = 0))) = true → ((!(decide ((List.getD left (Int.toNat k) 0) = 0))) = true → (!(decide ((List.getD left (Int.toNat k) 0) = 0))) = true)), ((!(decide ((List.getD left (Int.toNat k) 0) = 0))) = true → (!(decide ((List.getD left (Int.toNat k) 0) = 0))) = true)] ⟨70, [(1, .one (.ro (.ints .i64 left))), (3, .p 103), (5, .p 105), (6, .p 106), (8, .w 5008 B.length), (9, .one (.mapv b)), (10, .i k), (38, .one (.bool ((decide ((List.getD left (Int.toNat k) 0) = 0)) || (decide (((List.getD es (Int.toNat k) default).src) ≠ c)))))], [(103, .box 1 4 [(.i n), (.i s), (.i t), (.ro (.arcs es))]), (105, .box 1 1 [(.i c)]), (106, .box 1 2 [(.i 0), .nils]), (5008, .fi B)]⟩ (by kernel_rfl) (by kernel_rfl) hT (by kernel_rfl) ⟨(by omega), (by omega), (by intro hg; first | exact hg | skip; (try simp only [bs] at hg ⊢); first | exact hg | first | omega | (simp only [lens]; omega) | (simp only [Bool.cond_decide]; omega) | (simp only [nadd_eq]; omega) | grind), (by intro hg; first | exact hg | skip; (try simp only [bs] at hg); first | exact hg | first | omega | (simp only [lens]; omega) | (simp only [Bool.cond_decide]; omega) | (simp only [nadd_eq]; omega) | grind), (by intro hg; first | exact hg | skip; (try simp only [bs] at hg ⊢); first | exact hg | first | omega | (simp only [lens]; omega) | (simp only [Bool.cond_decide]; omega) | (simp only [nadd_eq]; omega) | grind), (by intro hg; first | exact hg | skip; (try simp only [bs] at hg ⊢); first | exact hg | first | omega | (simp only [lens]; omega) | (simp only [Bool.cond_decide]; omega) | (simp only [nadd_eq]; omega) | grind), (by intro hg; first | exact hg | skip; (try simp only [bs] at hg); first | exact hg | first | omega | (simp only [lens]; omega) | (simp only [Bool.cond_decide]; omega) | (simp only [nadd_eq]; omega) | grind), (by intro hg; first | exact hg | skip; (try simp only [bs] at hg); first | exact hg | first | omega | (simp only [lens]; omega) | (simp only [Bool.cond_decide]; omega) | (simp only [nadd_eq]; omega) | grind), (by intro hg; first | exact hg | skip; (try simp only [bs] at hg ⊢); first | exact hg | first | omega | (simp only [lens]; omega) | (simp only [Bool.cond_decide]; omega) | (simp only [nadd_eq]; omega) | grind), (by intro hg; first | exact hg | skip; (try simp only [bs] at hg ⊢); first | exact hg | first | omega | (simp only [lens]; omega) | (simp only [Bool.cond_decide]; omega) | (simp only [nadd_eq]; omega) | grind), (by intro hg; first | exact hg | skip; (try simp only [bs] at hg); first | exact hg | first | omega | (simp only [lens]; omega) | (simp only [Bool.cond_decide]; omega) | (simp only [nadd_eq]; omega) | grind), (by intro hg; first | exact hg | skip; (try simp only [bs] at hg ⊢); first | exact hg | first | omega | (simp only [lens]; omega) | (simp only [Bool.cond_decide]; omega) | (simp only [nadd_eq]; omega) | grind), (by intro hg; first | exact hg | skip; (try simp only [bs] at hg ⊢); first | exact hg | first | omega | (simp only [lens]; omega) | (simp only [Bool.cond_decide]; omega) | (simp only [nadd_eq]; omega) | grind), (fun h => h), trivial⟩ ?_)
    refine awp_cond (b := ((decide ((List.getD left (Int.toNat k) 0) = 0)) || (decide (((List.getD es (Int.toNat k) default).src) ≠ c)))) (by kernel_rfl) (fun c5 => ?_) (fun c5 => ?_)
    ·
      try simp only [bs] at c5
      have hkK : k ≠ (K : Int) := fun q => by rw [q, Int.toNat_natCast] at c5; rcases c5 with c | c; omega; exact c hK3
      refine awp_skip ?_
      refine awp_block ?_
      refine awp_run [1, 3, 5, 6, 8, 9, 10] [103, 105, 106, 5008] [(-9223372036854775808 ≤ (k + 1) ∧ (k + 1) ≤ 9223372036854775807)] ⟨70, [(1, .one (.ro (.ints .i64 left))), (3, .p 103), (5, .p 105), (6, .p 106), (8, .w 5008 B.length), (9, .one (.mapv b)), (10, .i (k + 1))], [(103, .box 1 4 [(.i n), (.i s), (.i t), (.ro (.arcs es))]), (105, .box 1 1 [(.i c)]), (106, .box 1 2 [(.i 0), .nils]), (5008, .fi B)]⟩ hT (by kernel_rfl) ⟨(by omega), trivial⟩ ?_
      refine loop_end _ ?_ ⟨(k + 1), ⟨(by omega), (by intro j hj; rw [show (k + 1).toNat = k.toNat + 1 by omega] at hj; rcases Nat.lt_succ_iff_lt_or_eq.1 hj with q | q; exact hmin j q; rw [q]; rintro ⟨q1, q2⟩; rcases c5 with c9 | c9; omega; exact c9 q2), rfl⟩, (by kernel_rfl)⟩
      omega
    ·
      try simp only [bs] at c5
      have hk2 : 0 < left.getD k.toNat 0 ∧ (es.getD k.toNat default).src = c := by have := hnn k.toNat (by omega); simp only [not_or, Decidable.not_not] at c5; exact ⟨by omega, c5.2⟩
      have hstep := stepK_is (left := left) (show k.toNat < es.length by omega) hk2.1 hk2.2 hmin
      have hC1 := hC.snoc hW hk.1 (by omega) (hk2.2.trans hct.symm) hk2.1
      obtain ⟨a1, a2, a3, a4, a5, a6⟩ := hG.at_ (i := k.toNat) (by omega)
      have hkin : ∀ q ∈ B ++ [k], 0 ≤ q ∧ q < left.length := fun q hq => by rcases List.mem_append.1 hq with hq | hq; (obtain ⟨j, hj, e⟩ := mem_getD 0 hq; rw [← e]; have := hC.st j hj; omega); (rw [List.mem_singleton.1 hq]; omega)
      refine awp_exit ?_
      refine pwp_seq_lift ?_
      refine awp_run [1, 3, 5, 6, 8, 9, 10] [103, 105, 106, 5008] [(B.length = B.length), ((B.length + 1) * 8 ≤ 140737488355328), ((B.length + 1) ≤ 9223372036854775807)] ⟨70, [(1, .one (.ro (.ints .i64 left))), (3, .p 103), (5, .p 105), (6, .p 106), (8, .w 5008 (B.length + 1)), (9, .one (.mapv b)), (10, .i k)], [(103, .box 1 4 [(.i n), (.i s), (.i t), (.ro (.arcs es))]), (105, .box 1 1 [(.i c)]), (106, .box 1 2 [(.i 0), .nils]), (5008, .fi (B ++ [k]))]⟩ hT (by kernel_rfl) ⟨(by omega), (by omega), (by omega), trivial⟩ ?_
      refine pwp_seq_lift ?_
      refine awp_run [1, 3, 5, 6, 8, 9] [103, 105, 106, 5008] [(0 < 1), ((0 : Int) ≤ k), (k < ((es.length : Nat) : Int)), (0 < 1)] ⟨70, [(1, .one (.ro (.ints .i64 left))), (3, .p 103), (5, .p 105), (6, .p 106), (8, .w 5008 (B.length + 1)), (9, .one (.mapv b))], [(103, .box 1 4 [(.i n), (.i s), (.i t), (.ro (.arcs es))]), (105, .box 1 1 [(.i ((List.getD es (Int.toNat k) default).dst))]), (106, .box 1 2 [(.i 0), .nils]), (5008, .fi (B ++ [k]))]⟩ hT (by kernel_rfl) ⟨(by decide), (by omega), (by omega), (by decide), trivial⟩ ?_
      refine pwp_seq ?_
      refine pwp_seq (pwp_region ?_)
      refine pops_run 2 [1, 3, 5, 6, 8, 9, 52, 53] [103, 105, 106, 5008] [(0 < 1)] ⟨70, [(1, .one (.ro (.ints .i64 left))), (3, .p 103), (5, .p 105), (6, .p 106), (8, .w 5008 (B.length + 1)), (9, .one (.mapv b)), (52, .one (.mapv b)), (53, .i ((List.getD es (Int.toNat k) default).dst))], [(103, .box 1 4 [(.i n), (.i s), (.i t), (.ro (.arcs es))]), (105, .box 1 1 [(.i ((List.getD es (Int.toNat k) default).dst))]), (106, .box 1 2 [(.i 0), .nils]), (5008, .fi (B ++ [k]))]⟩ hT (by kernel_rfl) (by kernel_rfl) ⟨(by decide), trivial⟩ ?_
      refine pops_lookup (d := 54) (n := ((List.getD es (Int.toNat k) default).dst)) rfl rfl rfl rfl (by kernel_rfl) Try.underlying141 Try.underlying3 (fun _ => by kernel_rfl) (by kernel_rfl) (by kernel_rfl) ?_
      refine pops_cut [1, 3, 5, 6, 8, 9, 52, 53, 54] [103, 105, 106, 5008] ⟨70, [(1, .one (.ro (.ints .i64 left))), (3, .p 103), (5, .p 105), (6, .p 106), (8, .w 5008 (B.length + 1)), (9, .one (.mapv b)), (52, .one (.mapv b)), (53, .i ((List.getD es (Int.toNat k) default).dst)), (54, .tup [(false, [(.i (Option.getD (findD ((List.getD es (Int.toNat k) default).dst) (seenOf W)) 0))]), (false, [(.bool (Option.isSome (findD ((List.getD es (Int.toNat k) default).dst) (seenOf W))))])])], [(103, .box 1 4 [(.i n), (.i s), (.i t), (.ro (.arcs es))]), (105, .box 1 1 [(.i ((List.getD es (Int.toNat k) default).dst))]), (106, .box 1 2 [(.i 0), .nils]), (5008, .fi (B ++ [k]))]⟩ (by kernel_rfl) ?_
      refine pops_cut [1, 3, 5, 6, 8, 9, 54] [103, 105, 106, 5008] ⟨70, [(1, .one (.ro (.ints .i64 left))), (3, .p 103), (5, .p 105), (6, .p 106), (8, .w 5008 (B.length + 1)), (9, .one (.mapv b)), (54, .tup [(false, [(.i (Option.getD (findD ((List.getD es (Int.toNat k) default).dst) (seenOf W)) 0))]), (false, [(.bool (Option.isSome (findD ((List.getD es (Int.toNat k) default).dst) (seenOf W))))])])], [(103, .box 1 4 [(.i n), (.i s), (.i t), (.ro (.arcs es))]), (105, .box 1 1 [(.i ((List.getD es (Int.toNat k) default).dst))]), (106, .box 1 2 [(.i 0), .nils]), (5008, .fi (B ++ [k]))]⟩ (by kernel_rfl) ?_
      refine pops_run 5 [1, 3, 5, 6, 8, 9, 11, 12] [103, 105, 106, 5008] [] ⟨70, [(1, .one (.ro (.ints .i64 left))), (3, .p 103), (5, .p 105), (6, .p 106), (8, .w 5008 (B.length + 1)), (9, .one (.mapv b)), (11, .i (Option.getD (findD ((List.getD es (Int.toNat k) default).dst) (seenOf W)) 0)), (12, .one (.bool (Option.isSome (findD ((List.getD es (Int.toNat k) default).dst) (seenOf W)))))], [(103, .box 1 4 [(.i n), (.i s), (.i t), (.ro (.arcs es))]), (105, .box 1 1 [(.i ((List.getD es (Int.toNat k) default).dst))]), (106, .box 1 2 [(.i 0), .nils]), (5008, .fi (B ++ [k]))]⟩ hT (by kernel_rfl) (by kernel_rfl) trivial ?_
      refine pops_end (by kernel_rfl) ?_
      refine pwp_seq_lift ?_
      refine awp_run [1, 3, 5, 6, 8, 9, 11, 57] [103, 105, 106, 5008] [] ⟨70, [(1, .one (.ro (.ints .i64 left))), (3, .p 103), (5, .p 105), (6, .p 106), (8, .w 5008 (B.length + 1)), (9, .one (.mapv b)), (11, .i (Option.getD (findD ((List.getD es (Int.toNat k) default).dst) (seenOf W)) 0)), (57, .one (.bool (Option.isSome (findD ((List.getD es (Int.toNat k) default).dst) (seenOf W)))))], [(103, .box 1 4 [(.i n), (.i s), (.i t), (.ro (.arcs es))]), (105, .box 1 1 [(.i ((List.getD es (Int.toNat k) default).dst))]), (106, .box 1 2 [(.i 0), .nils]), (5008, .fi (B ++ [k]))]⟩ hT (by kernel_rfl) trivial ?_
      refine pwp_tail_lift ?_
      refine awp_cond (b := (Option.isSome (findD ((List.getD es (Int.toNat k) default).dst) (seenOf W)))) (by kernel_rfl) (fun c10 => ?_) (fun c10 => ?_)
      ·
        try simp only [bs] at c10
        obtain ⟨v, hv⟩ := Option.isSome_iff_exists.1 c10
        obtain ⟨hv0, hv1, _⟩ := seen_some hv
        rw [show (Option.getD (findD ((List.getD es (Int.toNat k) default).dst) (seenOf W)) 0) = v from by rw [hv]; rfl]
        refine awp_seq (awp_region ?_)
        refine aops_run 4 [6, 58, 61] [106, 5008] [((0 : Int) ≤ v), (v ≤ (((B.length + 1) : Nat) : Int)), ((((B.length + 1) : Nat) : Int) ≤ (((B.length + 1) : Nat) : Int))] ⟨70, [(6, .p 106), (58, .one (.ro (.ints .i64 left))), (61, .one (.rw 5008 (Int.toNat v) ((B.length + 1) - (Int.toNat v))))], [(106, .box 1 2 [(.i 0), .nils]), (5008, .fi (B ++ [k]))]⟩ hT (by kernel_rfl) (by kernel_rfl) ⟨(by omega), (by omega), (by omega), trivial⟩ ?_
        refine aops_call [] [(9001, 162)] true ⟨true, [], 84, [.one (.ro (.ints .i64 left)), .one (.ro (.ints .i64 (List.drop (Int.toNat v) (List.take (nadd (Int.toNat v) ((B.length + 1) - (Int.toNat v))) (B ++ [k])))))], []⟩ [.one (.ro (.ints .i64 left)), .one (.ro (.ints .i64 (List.drop v.toNat (B ++ [k]))))] (sm := ⟨70, [(6, .p 106), (58, .one (.ro (.ints .i64 left))), (61, .one (.rw 5008 (Int.toNat v) ((B.length + 1) - (Int.toNat v)))), (62, .whn false (.one .any))], [(106, .box 1 2 [(.i 0), .nils]), (5008, .fi (B ++ [k]))]⟩) (by kernel_rfl) (by kernel_rfl) (by decide) (fun _ => trivial) (by rw [show (List.drop (Int.toNat v) (List.take (nadd (Int.toNat v) ((B.length + 1) - (Int.toNat v))) (B ++ [k]))) = (List.drop v.toNat (B ++ [k])) from by first | rfl | (rw [List.take_of_length_le (by simp only [lens, nadd_eq]; omega)])]) (fun _ => flow_amount left (List.drop v.toNat (B ++ [k])) (by simp only [List.length_drop, lens]; omega) (by simp only [List.length_drop, lens]; omega) (fun q hq => hkin q (List.mem_of_mem_drop hq))) (fun _ v Hr hv => ?_) (fun h => by cases h)
        obtain ⟨m, hm, rfl, rfl⟩ := hv
        refine ⟨⟨70, [(6, .p 106), (58, .one (.ro (.ints .i64 left))), (61, .one (.rw 5008 (Int.toNat v) ((B.length + 1) - (Int.toNat v)))), (62, .agg [(.i m), (.w 162 (List.length (List.drop v.toNat (B ++ [k]))))])], [(106, .box 1 2 [(.i 0), .nils]), (162, .fi (List.drop v.toNat (B ++ [k]))), (5008, .fi (B ++ [k]))]⟩, by kernel_rfl, ?_⟩
        refine aops_run 2 [6, 7] [106, 162] [(0 < 1)] ⟨70, [(6, .p 106), (7, .one (.bool true))], [(106, .box 1 2 [(.i m), (.w 162 (List.length (List.drop v.toNat (B ++ [k]))))]), (162, .fi (List.drop v.toNat (B ++ [k])))]⟩ hT (by kernel_rfl) (by kernel_rfl) ⟨(by decide), trivial⟩ ?_
        refine aops_end_seq (by kernel_rfl) ?_
        refine awp_weak (awk_ren 162 9001 (s' := ⟨70, [(6, .p 106), (7, .one (.bool true))], [(106, .box 1 2 [(.i m), (.w 9001 (List.length (List.drop v.toNat (B ++ [k]))))]), (9001, .fi (List.drop v.toNat (B ++ [k])))]⟩) (by kernel_rfl)) ?_
        refine awp_ret ?_
        refine kRet.ret _ [9001] [(0 < 1)] (.tup [(true, [(.i m), (.w 9001 (List.length (List.drop v.toNat (B ++ [k]))))]), (false, [(.bool true)])]) [(9001, .fi (List.drop v.toNat (B ++ [k])))] (by kernel_rfl) ⟨(by decide), trivial⟩ ?_
        exact ⟨m, (List.drop v.toNat (B ++ [k])), true, (by exact .inl ⟨rfl, piece_round hC1 hv hm⟩), (by rw [← hF, pieceF_round (by omega) hc3 hk.1 hstep hv, ← hm.is]), (by kernel_rfl), (by kernel_rfl)⟩
      ·
        try simp only [bs] at c10
        have hnone : findD (es.getD k.toNat default).dst (seenOf W) = none := by cases hq : findD (es.getD k.toNat default).dst (seenOf W); rfl; rw [hq] at c10; cases c10
        have hyW := seen_none hnone
        have hW1 : (W ++ [(es.getD k.toNat default).dst]).Nodup := List.nodup_append.2 ⟨hW, by simp, fun x hx y hy e => hyW (by rw [← List.mem_singleton.1 hy, ← e]; exact hx)⟩
        have hr1 : ∀ q ∈ W ++ [(es.getD k.toNat default).dst], 0 ≤ q ∧ q < n := fun q hq => by rcases List.mem_append.1 hq with hq | hq; exact hr q hq; rw [List.mem_singleton.1 hq]; exact ⟨a3, a4⟩
        refine awp_skip ?_
        refine pwp_region ?_
        refine pops_run 4 [1, 3, 5, 6, 8, 9, 63, 64, 66] [103, 105, 106, 5008] [(0 < 1)] ⟨70, [(1, .one (.ro (.ints .i64 left))), (3, .p 103), (5, .p 105), (6, .p 106), (8, .w 5008 (B.length + 1)), (9, .one (.mapv b)), (63, .one (.mapv b)), (64, .i ((List.getD es (Int.toNat k) default).dst)), (66, .i (((B.length + 1) : Nat) : Int))], [(103, .box 1 4 [(.i n), (.i s), (.i t), (.ro (.arcs es))]), (105, .box 1 1 [(.i ((List.getD es (Int.toNat k) default).dst))]), (106, .box 1 2 [(.i 0), .nils]), (5008, .fi (B ++ [k]))]⟩ hT (by kernel_rfl) (by kernel_rfl) ⟨(by decide), trivial⟩ ?_
        refine pops_setmap (n := ((List.getD es (Int.toNat k) default).dst)) (v := (((B.length + 1) : Nat) : Int)) rfl (.inl rfl) rfl rfl Try.underlying141 Try.underlying3 (by kernel_rfl) (by kernel_rfl) (by kernel_rfl) (by exact hnone) ?_
        refine pops_cut [1, 3, 5, 6, 8, 9] [103, 105, 106, 5008] ⟨70, [(1, .one (.ro (.ints .i64 left))), (3, .p 103), (5, .p 105), (6, .p 106), (8, .w 5008 (B.length + 1)), (9, .one (.mapv b))], [(103, .box 1 4 [(.i n), (.i s), (.i t), (.ro (.arcs es))]), (105, .box 1 1 [(.i ((List.getD es (Int.toNat k) default).dst))]), (106, .box 1 2 [(.i 0), .nils]), (5008, .fi (B ++ [k]))]⟩ (by kernel_rfl) ?_
        refine pops_end (by kernel_rfl) ?_
        refine ploop_end _ ?_ ⟨(B ++ [k]), (W ++ [(es.getD k.toNat default).dst]), ((List.getD es (Int.toNat k) default).dst), ⟨(by exact hC1), (by exact hW1), (by rw [snoc_at, List.length_append, List.length_singleton, if_neg (by omega), if_pos (by omega)]), (by rw [snoc_at, if_pos (by omega)]; exact hw0), (by exact hr1), (by rw [← hF]; exact (pieceF_next (by simp only [List.length_append, List.length_singleton]; omega) hc3 hk.1 hstep hnone).symm), rfl⟩, (by rw [seenOf_snoc, hwl]), (by first | (simp only [lens]; done) | (simp only [Nat.zero_add]; done) | simp only [lens, Nat.zero_add])⟩
        simp only [List.length_append, List.length_singleton]; omega
  ·
    try simp only [bs] at c3
    have hc3 : c = t := by omega
    have hBp : 0 < B.length := by rcases Nat.eq_zero_or_pos B.length with q | q; rw [q] at hct; omega; exact q
    have hB100 : B.length ≤ 100 := by omega
    have hkin : ∀ q ∈ B, 0 ≤ q ∧ q < left.length := fun q hq => by obtain ⟨j, hj, e⟩ := mem_getD 0 hq; rw [← e]; have := hC.st j hj; omega
    refine awp_exit ?_
    refine pwp_seq_lift ?_
    refine awp_region ?_
    refine aops_run 2 [6, 67, 68] [106, 5008] [] ⟨70, [(6, .p 106), (67, .one (.ro (.ints .i64 left))), (68, .w 5008 B.length)], [(106, .box 1 2 [(.i 0), .nils]), (5008, .fi B)]⟩ hT (by kernel_rfl) (by kernel_rfl) trivial ?_
    refine aops_call [] [(9001, 169)] true ⟨true, [], 84, [.one (.ro (.ints .i64 left)), .one (.ro (.ints .i64 (List.take B.length B)))], []⟩ [.one (.ro (.ints .i64 left)), .one (.ro (.ints .i64 B))] (sm := ⟨70, [(6, .p 106), (67, .one (.ro (.ints .i64 left))), (68, .w 5008 B.length), (69, .whn false (.one .any))], [(106, .box 1 2 [(.i 0), .nils]), (5008, .fi B)]⟩) (by kernel_rfl) (by kernel_rfl) (by decide) (fun _ => trivial) (by rw [show (List.take B.length B) = B from List.take_of_length_le (by first | omega | simp)]) (fun _ => flow_amount left B (by assumption) (by assumption) (by assumption)) (fun _ v Hr hv => ?_) (fun h => by cases h)
    obtain ⟨m13, hm13, rfl, rfl⟩ := hv
    refine ⟨⟨70, [(6, .p 106), (67, .one (.ro (.ints .i64 left))), (68, .w 5008 B.length), (69, .agg [(.i m13), (.w 169 B.length)])], [(106, .box 1 2 [(.i 0), .nils]), (169, .fi B), (5008, .fi B)]⟩, by kernel_rfl, ?_⟩
    refine aops_run 2 [6, 7] [106, 169] [(0 < 1)] ⟨70, [(6, .p 106), (7, .one (.bool false))], [(106, .box 1 2 [(.i m13), (.w 169 B.length)]), (169, .fi B)]⟩ hT (by kernel_rfl) (by kernel_rfl) ⟨(by decide), trivial⟩ ?_
    refine aops_end (by kernel_rfl) ?_
    refine pwp_lift ?_
    refine awp_weak (awk_ren 169 9001 (s' := ⟨70, [(6, .p 106), (7, .one (.bool false))], [(106, .box 1 2 [(.i m13), (.w 9001 B.length)]), (9001, .fi B)]⟩) (by kernel_rfl)) ?_
    refine awp_ret ?_
    refine kRet.ret _ [9001] [(0 < 1)] (.tup [(true, [(.i m13), (.w 9001 B.length)]), (false, [(.bool false)])]) [(9001, .fi B)] (by kernel_rfl) ⟨(by decide), trivial⟩ ?_
    exact ⟨m13, B, false, (by exact .inr ⟨rfl, piece_way hC hW hw0 (hct.trans hc3) hBp hm13⟩), (by rw [← hF, pieceF_end (by omega) hc3, ← hm13.is]), (by kernel_rfl), (by kernel_rfl)⟩
end Go.Ab
